/- Walks of functions of the program and the laws they rest on (4 of 5). Conditions: none. -/
import Derived.Test.YtlefjpbhbiajfaaGreatM3
section
namespace Go.Proofs.YtlefjpbhbiajfaaGreat
open Go.BL Go.RowKit
set_option linter.unusedVariables false
set_option linter.unusedSimpArgs false
set_option maxRecDepth 100000
theorem d186_0_LBooks7 : DrawL Tryz.prog 0 73 (.on [(0, true, true), (1, true, true), (2, true, false), (3, true, false), (4, true, false), (5, true, false), (6, true, false), (7, true, false), (8, true, false), (9, true, false), (10, false, false), (11, false, false), (12, false, false), (13, false, false), (14, false, false), (15, false, false), (16, true, false), (17, true, false), (18, false, true), (19, false, true)] .nil) := draw_L
theorem d186_1_LBooks7 : DrawL Tryz.prog 0 90 (.on [(0, true, true), (2, true, true), (3, true, true), (4, true, false), (5, true, false), (6, true, false), (7, true, false), (8, true, false), (9, true, false), (10, true, false), (11, true, false), (12, true, false), (13, true, false), (14, true, false), (15, true, false), (1, false, false), (16, false, false), (17, false, false)] .nil) := draw_L
attribute [local go_sem] accountC balC lotC tradeC booksC
theorem c_lotsRight (b : Books) (hs : Small b) (hok : balsOk b.bals = true) (hf : Fine b.lots) (K : AV → AH → Prop) (hk : K (.one (.c (.bool (lotsR b)))) []) : ACalls Tryz.prog 195 [.agg (booksC b)] [] K := by
  have hsl := hs.hl
  have hsa := hs.ha
  have hsi := hs.hi
  refine acall_c Tryz.f195.results.toList mixed Tryz.func195 rfl rfl (by kernel_rfl) ?_
  intro Q hQ hQO
  simp only [go_sem]
  refine for_at (b.lots.length) [1, 12, 13] (fun i f h => f 14 = (.one (.c (.int .i64 (i)))) ∧ h = [.own 0 31 6 (some 1) [booksC b]] ∧ noneTo (fun x => !lrP b x) b.lots i) (GC.now ?_) ?_
  · simp only [go_sem, nc_0, true_and]
    exact noneTo_0 _ _
  · rintro i f h J hi hA ⟨e14, rfl, hP⟩ hJ
    simp only [go_sem] at hA
    simp only [go_sem, hA, e14]
    refine c_split (fun hb => ?_) (fun hb => ?_)
    rotate_left
    · simp only [go_sem, hb, hA, e14]
      obtain rfl := ge_len hb hi
      rw [lotsR, all_no hP, Bool.true_and] at hk
      (try simp only [go_sem, hA, e14]); repeat' (first | (with_reducible first | refine c_split ?_ ?_ | refine w_split ?_ ?_) <;> intro hb <;> try simp only [go_sem, hb, hA, e14] | fail)
      have hA0 := hA
      clear hJ
      refine for_at (b.accounts.length) [1, 41, 42] (fun i f h => f 43 = (.one (.c (.int .i64 (i)))) ∧ h = [.own 0 31 6 (some 1) [booksC b]] ∧ noneTo (fun a => !b.instrs.all (pairP b a)) b.accounts i) (GC.now ?_) ?_
      · simp only [go_sem, nc_0, true_and, hA0]
        exact noneTo_0 _ _
      · rintro i f h J hi hA ⟨e43, rfl, hP⟩ hJ
        simp only [go_sem, hA0] at hA
        simp only [go_sem, hA, e43, hA0]
        refine c_split (fun hb => ?_) (fun hb => ?_)
        rotate_left
        · simp only [go_sem, hb, hA, e43, hA0]
          obtain rfl := ge_len hb hi
          (try simp only [go_sem, hA, e43, hA0]); repeat' (first | (with_reducible first | refine c_split ?_ ?_ | refine w_split ?_ ?_) <;> intro hb <;> try simp only [go_sem, hb, hA, e43, hA0] | with_reducible refine hQ _ _ ?_ <;> simp only [Tryz.f195, go_sem, hA, e43, hA0])
          rw [all_no hP] at hk
          exact hk
        have hi := lt_len hb
        have hw := wrap_nat i (by omega)
        have hil : (i : Int) < ((b.accounts.length : Nat) : Int) := Int.ofNat_lt.2 hi
        have hg0 : (b.accounts)[i]? = some ((b.accounts)[i]) := List.getElem?_eq_getElem (by omega)
        simp only [go_sem, hb, hA, e43, hA0, hg0]
        try simp only [go_sem, hA, e43, hA0, hil, hg0]
        (try simp only [go_sem, hA, e43, hA0, hil, hg0]); repeat' (first | (with_reducible first | refine c_split ?_ ?_ | refine w_split ?_ ?_) <;> intro hb <;> try simp only [go_sem, hb, hA, e43, hA0, hil, hg0] | fail)
        have hA1 := hA
        have hP1 := hP
        have hi1 := hi
        have hw1 := hw
        have hJ1 := hJ
        generalize hac : b.accounts[i] = ac at *
        refine for_at (b.instrs.length) [1, 6, 41, 42, 43, 48, 49] (fun i f h => f 50 = (.one (.c (.int .i64 (i)))) ∧ h = [.own 0 31 6 (some 1) [booksC b], .own 0 129 2 (some 1) [accountC ac]] ∧ noneTo (fun x => !pairP b ac x) b.instrs i) (GC.now ?_) ?_
        · simp only [go_sem, nc_0, true_and, hA1, e43]
          exact noneTo_0 _ _
        · rintro i f h J hi hA ⟨e50, rfl, hP⟩ hJ
          simp only [go_sem, hA1, e43] at hA
          simp only [go_sem, hA, e50, hA1, e43]
          refine c_split (fun hb => ?_) (fun hb => ?_)
          rotate_left
          · simp only [go_sem, hb, hA, e50, hA1, e43]
            obtain rfl := ge_len hb hi
            refine gc_trim 1 (by decide) (by simp only [go_sem]) (by simp only [go_sem]) (hJ1 _ _ hi1 (by simp only [go_sem, hA, hA1, hA0, e43]) ⟨?_, ?_, ?_⟩) <;> try simp only [go_sem, hA, hA1, hA0, e43, hw1]
            exact noneTo_s hP1 hi1 (by rw [hac]; exact not_ff (all_no hP))
          have hi := lt_len hb
          have hw := wrap_nat i (by omega)
          have hil : (i : Int) < ((b.instrs.length : Nat) : Int) := Int.ofNat_lt.2 hi
          have hg0 : (b.instrs)[i]? = some ((b.instrs)[i]) := List.getElem?_eq_getElem (by omega)
          simp only [go_sem, hb, hA, e50, hA1, e43, hg0]
          try simp only [go_sem, hA, e50, hA1, e43, hil, hg0]
          cases k1 : (ac.kind == 1) with
          | false =>
            (try simp only [go_sem, hA, e50, hA1, e43, hil, hg0, k1]); repeat' (first | (with_reducible first | refine c_split ?_ ?_ | refine w_split ?_ ?_) <;> intro hb <;> try simp only [go_sem, hb, hA, e50, hA1, e43, hil, hg0, k1] | fail)
            refine gc_trim 2 (by decide) (by simp only [go_sem]) (by simp only [go_sem]) (hJ _ _ hi (by simp only [go_sem, hA, e50, hA1, e43]) ⟨?_, ?_, ?_⟩) <;> try simp only [go_sem, hA, e50, hA1, e43, hw]
            exact noneTo_s hP hi (by rw [pairP, k1]; rfl)
          | true =>
            cases k2 : (b.instrs[i].kind == 2) with
            | false =>
              (try simp only [go_sem, hA, e50, hA1, e43, hil, hg0, k1, k2]); repeat' (first | (with_reducible first | refine c_split ?_ ?_ | refine w_split ?_ ?_) <;> intro hb <;> try simp only [go_sem, hb, hA, e50, hA1, e43, hil, hg0, k1, k2] | fail)
              refine gc_trim 2 (by decide) (by simp only [go_sem]) (by simp only [go_sem]) (hJ _ _ hi (by simp only [go_sem, hA, e50, hA1, e43]) ⟨?_, ?_, ?_⟩) <;> try simp only [go_sem, hA, e50, hA1, e43, hw]
              exact noneTo_s hP hi (by rw [pairP, k1, k2]; rfl)
            | true =>
              cases k3 : (sumQ (ownL b.lots ac.no b.instrs[i].no) == balV b.bals ac.no b.instrs[i].no) with
              | true =>
                (try simp only [go_sem, hA, e50, hA1, e43, hil, hg0, k1, k2, k3]); repeat' (first | (with_reducible first | refine c_split ?_ ?_ | refine w_split ?_ ?_) <;> intro hb <;> try simp only [go_sem, hb, hA, e50, hA1, e43, hil, hg0, k1, k2, k3] | (first | refine call_c (c_lotsOf b.lots _ _ hsl _ ?_) | refine call_c (c_sumLots _ (hf.own _ _) _ ?_) | refine call_c (c_balOf b.bals _ _ hs.hb hok _ ?_) | fail) <;> try simp only [go_sem, hA, e50, hA1, e43, hil, hg0, k1, k2, k3] | fail)
                refine gc_trim 2 (by decide) (by simp only [go_sem]) (by simp only [go_sem]) (hJ _ _ hi (by simp only [go_sem, hA, e50, hA1, e43]) ⟨?_, ?_, ?_⟩) <;> try simp only [go_sem, hA, e50, hA1, e43, hw]
                exact noneTo_s hP hi (by rw [pairP, k1, k2, k3]; rfl)
              | false =>
                rw [all_bad hi1 (by rw [hac]; exact all_bad hi (by rw [pairP, k1, k2, k3]; rfl))] at hk
                (try simp only [go_sem, hA, e50, hA1, e43, hil, hg0, k1, k2, k3]); repeat' (first | (with_reducible first | refine c_split ?_ ?_ | refine w_split ?_ ?_) <;> intro hb <;> try simp only [go_sem, hb, hA, e50, hA1, e43, hil, hg0, k1, k2, k3] | (first | refine call_c (c_lotsOf b.lots _ _ hsl _ ?_) | refine call_c (c_sumLots _ (hf.own _ _) _ ?_) | refine call_c (c_balOf b.bals _ _ hs.hb hok _ ?_) | fail) <;> try simp only [go_sem, hA, e50, hA1, e43, hil, hg0, k1, k2, k3] | with_reducible refine hQ _ _ ?_ <;> simp only [Tryz.f195, go_sem, hA, e50, hA1, e43, hil, hg0, k1, k2, k3])
                exact hk
    have hi := lt_len hb
    have hw := wrap_nat i (by omega)
    have hil : (i : Int) < ((b.lots.length : Nat) : Int) := Int.ofNat_lt.2 hi
    have hg0 : (b.lots)[i]? = some ((b.lots)[i]) := List.getElem?_eq_getElem (by omega)
    simp only [go_sem, hb, hA, e14, hg0]
    try simp only [go_sem, hA, e14, hil, hg0]
    cases hr : lrP b b.lots[i] with
    | true =>
      have hlr := hr
      simp only [lrP, Bool.and_eq_true] at hr
      obtain ⟨⟨f1, f2⟩, f3⟩ := hr
      have f3 := not_tt f3
      (try simp only [go_sem, hA, e14, hil, hg0, f1, f2, f3]); repeat' (first | (with_reducible first | refine c_split ?_ ?_ | refine w_split ?_ ?_) <;> intro hb <;> try simp only [go_sem, hb, hA, e14, hil, hg0, f1, f2, f3] | (first | refine call_c (c_accountKind _ _ hs.ha _ ?_) | refine call_c (c_instrKind _ _ hs.hi _ ?_) | fail) <;> try simp only [go_sem, hA, e14, hil, hg0, f1, f2, f3] | fail)
      refine gc_trim 1 (by decide) (by simp only [go_sem]) (by simp only [go_sem]) (hJ _ _ hi (by simp only [go_sem, hA, e14]) ⟨?_, ?_, ?_⟩) <;> try simp only [go_sem, hA, e14, hw]
      exact noneTo_s hP hi (not_ff hlr)
    | false =>
      rw [lotsR, all_bad hi hr, Bool.false_and] at hk
      (try simp only [go_sem, hA, e14, hil, hg0]); repeat' (first | (with_reducible first | refine c_split ?_ ?_ | refine w_split ?_ ?_) <;> intro hb <;> try simp only [go_sem, hb, hA, e14, hil, hg0] | (first | refine call_c (c_accountKind _ _ hs.ha _ ?_) | refine call_c (c_instrKind _ _ hs.hi _ ?_) | fail) <;> try simp only [go_sem, hA, e14, hil, hg0] | with_reducible refine hQ _ _ ?_ <;> simp only [Tryz.f195, go_sem, hA, e14, hil, hg0])
      all_goals first | exact hk | exact (Bool.eq_false_iff.1 hr (by clear hr hJ hA hQ hQO; simp only [lrP]; simp_all <;> omega)).elim
def restL (xs : List Lot) (a n : Int) : List Lot := xs.filter fun x => !lotIs a n x
theorem rest_s (xs : List Lot) (i : Nat) (hi : i < xs.length) (a n : Int) : restL (xs.take (i + 1)) a n = restL (xs.take i) a n ++ (if lotIs a n xs[i] = true then [] else [xs[i]]) := by
  rw [restL, restL, List.take_succ_eq_append_getElem hi, List.filter_append]
  cases h : lotIs a n xs[i] <;> simp [h]
theorem c_l5Split (xs : List Lot) (a n : Int) (hn : xs.length ≤ 1000000000) (K : AV → AH → Prop) (hk : K (.tup [(.one (.im ((ownL xs a n).map lotC))), (.one (.im ((restL xs a n).map lotC)))]) []) : ACalls Tryz.prog 242 [(.one (.im (xs.map lotC))), (.one (.c (.int .i64 (a)))), (.one (.c (.int .i64 (n))))] [] K := by
  refine acall_c Tryz.f242.results.toList mixed Tryz.func242 rfl rfl (by kernel_rfl) ?_
  intro Q hQ hQO
  simp only [go_sem]
  (try simp only [go_sem]); repeat' (first | (with_reducible first | refine c_split ?_ ?_ | refine w_split ?_ ?_) <;> intro hb <;> try simp only [go_sem, hb] | fail)
  refine while_at (α := Nat × Nat × Option Nat × Nat × Option Nat) (fun ⟨j, g1, c1, g2, c2⟩ => xs.length - j) [0, 1, 2] (fun ⟨j, g1, c1, g2, c2⟩ f h => f 8 = .one (.sl 0 g1 0 (ownL (xs.take j) a n).length) ∧ f 9 = .one (.sl 1 g2 0 (restL (xs.take j) a n).length) ∧ f 10 = (.one (.c (.int .i64 ((j : Int))))) ∧ h = [.own g1 137 5 c1 ((ownL (xs.take j) a n).map lotC), .own g2 137 5 c2 ((restL (xs.take j) a n).map lotC)] ∧ j ≤ xs.length) (0, 0, some 0, 0, some 0) (GC.now ?_) ?_
  · simp only [go_sem, nc_0, true_and]
    exact ⟨rfl, rfl, rfl, Nat.zero_le _⟩
  · rintro ⟨j, g1, c1, g2, c2⟩ f h J hA ⟨e8, e9, e10, rfl, hP⟩ hJ
    simp only [go_sem] at hA
    try dsimp only at hJ
    simp only [go_sem, hA, e8, e9, e10]
    by_cases hi : j < xs.length
    · have hd : decide ((j : Int) < (xs.length : Int)) = true := decide_eq_true (Int.ofNat_lt.2 hi)
      have hil : (j : Int) < (xs.length : Int) := Int.ofNat_lt.2 hi
      have hg : xs[j]? = some xs[j] := List.getElem?_eq_getElem hi
      have hw := wrap_nat j (by omega)
      have hdec : xs.length - (j + 1) < xs.length - j := by omega
      have ho := own_s xs j hi a n
      have hr := rest_s xs j hi a n
      have hol : (ownL (xs.take j) a n).length ≤ j := Nat.le_trans (List.length_filter_le _ _) (by rw [List.length_take]; omega)
      have hrl : (restL (xs.take j) a n).length ≤ j := Nat.le_trans (List.length_filter_le _ _) (by rw [List.length_take]; omega)
      cases k1 : (xs[j].account == a) with
      | true =>
        cases k2 : (xs[j].instr == n) with
        | true =>
          have k : lotIs a n xs[j] = true := by rw [lotIs, k1, k2]; rfl
          rw [if_pos k] at ho
          rw [if_pos k, List.append_nil] at hr
          (try simp only [go_sem, hA, e8, e9, e10, hd, hil, hg, k1, k2]); repeat' (first | (with_reducible first | refine c_split ?_ ?_ | refine w_split ?_ ?_) <;> intro hb <;> try simp only [go_sem, hb, hA, e8, e9, e10, hd, hil, hg, k1, k2] | fail)
          refine ap_end rfl (by simp) (by simp; omega) ?_
          (try simp only [go_sem, hA, e8, e9, e10]); repeat' (first | (with_reducible first | refine c_split ?_ ?_ | refine w_split ?_ ?_) <;> intro hb <;> try simp only [go_sem, hb, hA, e8, e9, e10] | fail)
          refine gc_trim 2 (by decide) (by simp only [go_sem]) (by simp only [go_sem, hw, ho, hr]) (hJ (j + 1, g1 + 1, none, g2, c2) _ _ (by exact hdec) (by simp only [go_sem, hA, e8, e9, e10]) ⟨?_, ?_, ?_, ?_, ?_⟩) <;> try simp only [go_sem, hA, e8, e9, e10, hw, ho, hr]
          exact hi
        | false =>
          have k : ¬ lotIs a n xs[j] = true := by rw [lotIs, k1, k2]; decide
          rw [if_neg k, List.append_nil] at ho
          rw [if_neg k] at hr
          (try simp only [go_sem, hA, e8, e9, e10, hd, hil, hg, k1, k2]); repeat' (first | (with_reducible first | refine c_split ?_ ?_ | refine w_split ?_ ?_) <;> intro hb <;> try simp only [go_sem, hb, hA, e8, e9, e10, hd, hil, hg, k1, k2] | fail)
          refine ap_end rfl (by simp) (by simp; omega) ?_
          (try simp only [go_sem, hA, e8, e9, e10]); repeat' (first | (with_reducible first | refine c_split ?_ ?_ | refine w_split ?_ ?_) <;> intro hb <;> try simp only [go_sem, hb, hA, e8, e9, e10] | fail)
          refine gc_trim 2 (by decide) (by simp only [go_sem]) (by simp only [go_sem, hw, ho, hr]) (hJ (j + 1, g1, c1, g2 + 1, none) _ _ (by exact hdec) (by simp only [go_sem, hA, e8, e9, e10]) ⟨?_, ?_, ?_, ?_, ?_⟩) <;> try simp only [go_sem, hA, e8, e9, e10, hw, ho, hr]
          exact hi
      | false =>
        have k : ¬ lotIs a n xs[j] = true := by rw [lotIs, k1]; simp
        rw [if_neg k, List.append_nil] at ho
        rw [if_neg k] at hr
        (try simp only [go_sem, hA, e8, e9, e10, hd, hil, hg, k1]); repeat' (first | (with_reducible first | refine c_split ?_ ?_ | refine w_split ?_ ?_) <;> intro hb <;> try simp only [go_sem, hb, hA, e8, e9, e10, hd, hil, hg, k1] | fail)
        refine ap_end rfl (by simp) (by simp; omega) ?_
        (try simp only [go_sem, hA, e8, e9, e10]); repeat' (first | (with_reducible first | refine c_split ?_ ?_ | refine w_split ?_ ?_) <;> intro hb <;> try simp only [go_sem, hb, hA, e8, e9, e10] | fail)
        refine gc_trim 2 (by decide) (by simp only [go_sem]) (by simp only [go_sem, hw, ho, hr]) (hJ (j + 1, g1, c1, g2 + 1, none) _ _ (by exact hdec) (by simp only [go_sem, hA, e8, e9, e10]) ⟨?_, ?_, ?_, ?_, ?_⟩) <;> try simp only [go_sem, hA, e8, e9, e10, hw, ho, hr]
        exact hi
    · have hd : decide ((j : Int) < (xs.length : Int)) = false := decide_eq_false (fun q => hi (Int.ofNat_lt.1 q))
      have hj : j = xs.length := by omega
      subst hj
      have h1 : List.take (ownL xs a n).length ((ownL xs a n).map lotC) = (ownL xs a n).map lotC := List.take_of_length_le (by simp)
      have h2 : List.take (restL xs a n).length ((restL xs a n).map lotC) = (restL xs a n).map lotC := List.take_of_length_le (by simp)
      (try simp only [go_sem, hA, e8, e9, e10, hd, List.take_length, h1, h2]); repeat' (first | (with_reducible first | refine c_split ?_ ?_ | refine w_split ?_ ?_) <;> intro hb <;> try simp only [go_sem, hb, hA, e8, e9, e10, hd, List.take_length, h1, h2] | with_reducible refine hQ _ _ ?_ <;> simp only [Tryz.f242, go_sem, hA, e8, e9, e10, hd, List.take_length, h1, h2])
      exact hk
theorem c_l5Qty (xs : List Lot) (h : Fine xs) (K : AV → AH → Prop) (hk : K (.one (.c (.int .i64 (sumQ xs)))) []) : ACalls Tryz.prog 243 [(.one (.im (xs.map lotC)))] [] K := by
  have hn : xs.length ≤ 1000000000 := by have := h.2; omega
  refine acall_c Tryz.f243.results.toList mixed Tryz.func243 rfl rfl (by kernel_rfl) ?_
  intro Q hQ hQO
  simp only [go_sem]
  refine for_at (xs.length) [0] (fun i f h => f 3 = (.one (.c (.int .i64 (sumQ (xs.take i))))) ∧ f 4 = (.one (.c (.int .i64 (i)))) ∧ h = []) (GC.now ?_) ?_
  · simp only [go_sem, nc_0, true_and]
    rfl
  · rintro i f h J hi hA ⟨e3, e4, rfl⟩ hJ
    simp only [go_sem] at hA
    simp only [go_sem, hA, e3, e4]
    refine c_split (fun hb => ?_) (fun hb => ?_)
    rotate_left
    · simp only [go_sem, hb, hA, e3, e4]
      obtain rfl := ge_len hb hi
      (try simp only [go_sem, hA, e3, e4, List.take_length]); repeat' (first | (with_reducible first | refine c_split ?_ ?_ | refine w_split ?_ ?_) <;> intro hb <;> try simp only [go_sem, hb, hA, e3, e4, List.take_length] | with_reducible refine hQ _ _ ?_ <;> simp only [Tryz.f243, go_sem, hA, e3, e4, List.take_length])
      exact hk
    have hi := lt_len hb
    have hw := wrap_nat i (by omega)
    have hil : (i : Int) < ((xs.length : Nat) : Int) := Int.ofNat_lt.2 hi
    have hg0 : (xs)[i]? = some ((xs)[i]) := List.getElem?_eq_getElem (by omega)
    simp only [go_sem, hb, hA, e3, e4, hg0]
    try simp only [go_sem, hA, e3, e4, hil, hg0]
    obtain ⟨s1, s2⟩ := sumQ_s xs i hi
    obtain ⟨w1, w2⟩ := sums_w h hi
    (try simp only [go_sem, hA, e3, e4, hil, hg0, w1, w2]); repeat' (first | (with_reducible first | refine c_split ?_ ?_ | refine w_split ?_ ?_) <;> intro hb <;> try simp only [go_sem, hb, hA, e3, e4, hil, hg0, w1, w2] | fail)
    refine gc_trim 0 (by decide) (by simp only [go_sem]) (by simp only [go_sem]) (hJ _ _ hi (by simp only [go_sem, hA, e3, e4]) ⟨?_, ?_, ?_⟩) <;> try simp only [go_sem, hA, e3, e4, hw, s1]
theorem c_l6Lots (b : Books) (hs : Small b) (ha : accountsOk b.accounts = true) (hi0 : instrsOk b.instrs = true) (hf : Fine b.lots) (K : AV → AH → Prop) (hk : K (.one (.c (.bool (lotsR b)))) []) : ACalls Tryz.prog 186 [.agg (booksC b)] [] K := by
  have hsl := hs.hl
  have hsa := hs.ha
  have hsi := hs.hi
  refine acall_c Tryz.f186.results.toList mixed Tryz.func186 rfl rfl (by kernel_rfl) ?_
  intro Q hQ hQO
  simp only [go_sem]
  refine for_at (b.lots.length) [1] (fun i f h => f 3 = (.one (.c (.int .i64 (i)))) ∧ h = [.own 0 31 6 (some 1) [booksC b]] ∧ noneTo (fun x => !lrP b x) b.lots i) (GC.now ?_) ?_
  · simp only [go_sem, nc_0, true_and]
    exact noneTo_0 _ _
  · rintro i f h J hi hA ⟨e3, rfl, hP⟩ hJ
    simp only [go_sem] at hA
    simp only [go_sem, hA, e3]
    refine c_split (fun hb => ?_) (fun hb => ?_)
    rotate_left
    · simp only [go_sem, hb, hA, e3]
      obtain rfl := ge_len hb hi
      rw [lotsR, all_no hP, Bool.true_and] at hk
      (try simp only [go_sem, hA, e3]); repeat' (first | (with_reducible first | refine c_split ?_ ?_ | refine w_split ?_ ?_ | refine tw_split ?_ ?_) <;> intro hb <;> try simp only [go_sem, hb, hA, e3] | (first | with_reducible refine d186_0_LBooks7 (by with_unfolding_all rfl) (by kernel_rfl) ?_ | with_reducible refine d186_1_LBooks7 (by with_unfolding_all rfl) (by kernel_rfl) ?_ | fail) <;> try simp only [go_sem, hA, e3] | fail)
      have hA0 := hA
      clear hJ
      refine for_at (b.accounts.length) [1] (fun i f h => f 5 = (.one (.c (.int .i64 (i)))) ∧ h = [.own 0 31 6 (some 1) [booksC b]] ∧ noneTo (fun a => !b.instrs.all (pairP b a)) b.accounts i) (GC.now ?_) ?_
      · simp only [go_sem, nc_0, true_and, hA0]
        exact noneTo_0 _ _
      · rintro i f h J hi hA ⟨e5, rfl, hP⟩ hJ
        simp only [go_sem, hA0] at hA
        simp only [go_sem, hA, e5, hA0]
        refine c_split (fun hb => ?_) (fun hb => ?_)
        rotate_left
        · simp only [go_sem, hb, hA, e5, hA0]
          obtain rfl := ge_len hb hi
          (try simp only [go_sem, hA, e5, hA0]); repeat' (first | (with_reducible first | refine c_split ?_ ?_ | refine w_split ?_ ?_ | refine tw_split ?_ ?_) <;> intro hb <;> try simp only [go_sem, hb, hA, e5, hA0] | (first | with_reducible refine d186_0_LBooks7 (by with_unfolding_all rfl) (by kernel_rfl) ?_ | with_reducible refine d186_1_LBooks7 (by with_unfolding_all rfl) (by kernel_rfl) ?_ | fail) <;> try simp only [go_sem, hA, e5, hA0] | with_reducible refine hQ _ _ ?_ <;> simp only [Tryz.f186, go_sem, hA, e5, hA0])
          rw [all_no hP] at hk
          exact hk
        have hi := lt_len hb
        have hw := wrap_nat i (by omega)
        have hil : (i : Int) < ((b.accounts.length : Nat) : Int) := Int.ofNat_lt.2 hi
        have hg0 : (b.accounts)[i]? = some ((b.accounts)[i]) := List.getElem?_eq_getElem (by omega)
        simp only [go_sem, hb, hA, e5, hA0, hg0]
        try simp only [go_sem, hA, e5, hA0, hil, hg0]
        (try simp only [go_sem, hA, e5, hA0, hil, hg0]); repeat' (first | (with_reducible first | refine c_split ?_ ?_ | refine w_split ?_ ?_ | refine tw_split ?_ ?_) <;> intro hb <;> try simp only [go_sem, hb, hA, e5, hA0, hil, hg0] | (first | with_reducible refine d186_0_LBooks7 (by with_unfolding_all rfl) (by kernel_rfl) ?_ | with_reducible refine d186_1_LBooks7 (by with_unfolding_all rfl) (by kernel_rfl) ?_ | fail) <;> try simp only [go_sem, hA, e5, hA0, hil, hg0] | fail)
        have hA1 := hA
        have hP1 := hP
        have hi1 := hi
        have hil1 := hil
        have hg1 := hg0
        have hw1 := hw
        have hJ1 := hJ
        have e5a := e5
        generalize hac : b.accounts[i] = ac at *
        refine for_at (b.instrs.length) [1, 5] (fun i f h => f 6 = (.one (.c (.int .i64 (i)))) ∧ h = [.own 0 31 6 (some 1) [booksC b]] ∧ noneTo (fun x => !pairP b ac x) b.instrs i) (GC.now ?_) ?_
        · simp only [go_sem, nc_0, true_and, hA1, e5a]
          exact noneTo_0 _ _
        · rintro i f h J hi hA ⟨e6, rfl, hP⟩ hJ
          simp only [go_sem, hA1, e5a] at hA
          simp only [go_sem, hA, e6, hA1, e5a]
          refine c_split (fun hb => ?_) (fun hb => ?_)
          rotate_left
          · simp only [go_sem, hb, hA, e6, hA1, e5a]
            obtain rfl := ge_len hb hi
            refine GC.now (hJ1 _ _ hi1 (by simp only [go_sem, hA, hA1, hA0, e5a]) ⟨?_, ?_, ?_⟩) <;> try simp only [go_sem, hA, hA1, hA0, e5a, hw1]
            exact noneTo_s hP1 hi1 (by rw [hac]; exact not_ff (all_no hP))
          have hi := lt_len hb
          have hw := wrap_nat i (by omega)
          have hil : (i : Int) < ((b.instrs.length : Nat) : Int) := Int.ofNat_lt.2 hi
          have hg0 : (b.instrs)[i]? = some ((b.instrs)[i]) := List.getElem?_eq_getElem (by omega)
          simp only [go_sem, hb, hA, e6, hA1, e5a, hg0]
          try simp only [go_sem, hA, e6, hA1, e5a, hil, hg0]
          cases k1 : (ac.kind == 1) with
          | false =>
            (try simp only [go_sem, hA, e6, hA1, e5a, hil, hg0, hil1, hg1, k1]); repeat' (first | (with_reducible first | refine c_split ?_ ?_ | refine w_split ?_ ?_ | refine tw_split ?_ ?_) <;> intro hb <;> try simp only [go_sem, hb, hA, e6, hA1, e5a, hil, hg0, hil1, hg1, k1] | (first | with_reducible refine d186_0_LBooks7 (by with_unfolding_all rfl) (by kernel_rfl) ?_ | with_reducible refine d186_1_LBooks7 (by with_unfolding_all rfl) (by kernel_rfl) ?_ | fail) <;> try simp only [go_sem, hA, e6, hA1, e5a, hil, hg0, hil1, hg1, k1] | fail)
            refine gc_trim 1 (by decide) (by simp only [go_sem]) (by simp only [go_sem]) (hJ _ _ hi (by simp only [go_sem, hA, e6, hA1, e5a]) ⟨?_, ?_, ?_⟩) <;> try simp only [go_sem, hA, e6, hA1, e5a, hw]
            exact noneTo_s hP hi (by rw [pairP, k1]; rfl)
          | true =>
            cases k2 : (b.instrs[i].kind == 2) with
            | false =>
              (try simp only [go_sem, hA, e6, hA1, e5a, hil, hg0, hil1, hg1, k1, k2]); repeat' (first | (with_reducible first | refine c_split ?_ ?_ | refine w_split ?_ ?_ | refine tw_split ?_ ?_) <;> intro hb <;> try simp only [go_sem, hb, hA, e6, hA1, e5a, hil, hg0, hil1, hg1, k1, k2] | (first | with_reducible refine d186_0_LBooks7 (by with_unfolding_all rfl) (by kernel_rfl) ?_ | with_reducible refine d186_1_LBooks7 (by with_unfolding_all rfl) (by kernel_rfl) ?_ | fail) <;> try simp only [go_sem, hA, e6, hA1, e5a, hil, hg0, hil1, hg1, k1, k2] | fail)
              refine gc_trim 1 (by decide) (by simp only [go_sem]) (by simp only [go_sem]) (hJ _ _ hi (by simp only [go_sem, hA, e6, hA1, e5a]) ⟨?_, ?_, ?_⟩) <;> try simp only [go_sem, hA, e6, hA1, e5a, hw]
              exact noneTo_s hP hi (by rw [pairP, k1, k2]; rfl)
            | true =>
              cases k3 : (sumQ (ownL b.lots ac.no b.instrs[i].no) == balV b.bals ac.no b.instrs[i].no) with
              | true =>
                (try simp only [go_sem, hA, e6, hA1, e5a, hil, hg0, hil1, hg1, k1, k2, k3]); repeat' (first | (with_reducible first | refine c_split ?_ ?_ | refine w_split ?_ ?_ | refine tw_split ?_ ?_) <;> intro hb <;> try simp only [go_sem, hb, hA, e6, hA1, e5a, hil, hg0, hil1, hg1, k1, k2, k3] | (first | with_reducible refine d186_0_LBooks7 (by with_unfolding_all rfl) (by kernel_rfl) ?_ | with_reducible refine d186_1_LBooks7 (by with_unfolding_all rfl) (by kernel_rfl) ?_ | refine call_c (c_l5Split b.lots _ _ hsl _ ?_) | refine call_c (c_l5Qty _ (hf.own _ _) _ ?_) | refine call_c (c_l4Of b.bals _ _ hs.hb _ ?_) | fail) <;> try simp only [go_sem, hA, e6, hA1, e5a, hil, hg0, hil1, hg1, k1, k2, k3] | fail)
                refine gc_trim 1 (by decide) (by simp only [go_sem]) (by simp only [go_sem]) (hJ _ _ hi (by simp only [go_sem, hA, e6, hA1, e5a]) ⟨?_, ?_, ?_⟩) <;> try simp only [go_sem, hA, e6, hA1, e5a, hw]
                exact noneTo_s hP hi (by rw [pairP, k1, k2, k3]; rfl)
              | false =>
                rw [all_bad hi1 (by rw [hac]; exact all_bad hi (by rw [pairP, k1, k2, k3]; rfl))] at hk
                (try simp only [go_sem, hA, e6, hA1, e5a, hil, hg0, hil1, hg1, k1, k2, k3]); repeat' (first | (with_reducible first | refine c_split ?_ ?_ | refine w_split ?_ ?_ | refine tw_split ?_ ?_) <;> intro hb <;> try simp only [go_sem, hb, hA, e6, hA1, e5a, hil, hg0, hil1, hg1, k1, k2, k3] | (first | with_reducible refine d186_0_LBooks7 (by with_unfolding_all rfl) (by kernel_rfl) ?_ | with_reducible refine d186_1_LBooks7 (by with_unfolding_all rfl) (by kernel_rfl) ?_ | refine call_c (c_l5Split b.lots _ _ hsl _ ?_) | refine call_c (c_l5Qty _ (hf.own _ _) _ ?_) | refine call_c (c_l4Of b.bals _ _ hs.hb _ ?_) | fail) <;> try simp only [go_sem, hA, e6, hA1, e5a, hil, hg0, hil1, hg1, k1, k2, k3] | with_reducible refine hQ _ _ ?_ <;> simp only [Tryz.f186, go_sem, hA, e6, hA1, e5a, hil, hg0, hil1, hg1, k1, k2, k3])
                exact hk
    have hi := lt_len hb
    have hw := wrap_nat i (by omega)
    have hil : (i : Int) < ((b.lots.length : Nat) : Int) := Int.ofNat_lt.2 hi
    have hg0 : (b.lots)[i]? = some ((b.lots)[i]) := List.getElem?_eq_getElem (by omega)
    simp only [go_sem, hb, hA, e3, hg0]
    try simp only [go_sem, hA, e3, hil, hg0]
    cases hr : lrP b b.lots[i] with
    | true =>
      have hlr := hr
      simp only [lrP, Bool.and_eq_true] at hr
      obtain ⟨⟨f1, f2⟩, f3⟩ := hr
      have f3 := not_tt f3
      (try simp only [go_sem, hA, e3, hil, hg0, f1, f2, f3]); repeat' (first | (with_reducible first | refine c_split ?_ ?_ | refine w_split ?_ ?_ | refine tw_split ?_ ?_) <;> intro hb <;> try simp only [go_sem, hb, hA, e3, hil, hg0, f1, f2, f3] | (first | with_reducible refine d186_0_LBooks7 (by with_unfolding_all rfl) (by kernel_rfl) ?_ | with_reducible refine d186_1_LBooks7 (by with_unfolding_all rfl) (by kernel_rfl) ?_ | refine call_c (c_AccountKind _ _ hs.ha ha _ ?_) | refine call_c (c_InstrKind _ _ hs.hi hi0 _ ?_) | fail) <;> try simp only [go_sem, hA, e3, hil, hg0, f1, f2, f3] | fail)
      refine gc_trim 1 (by decide) (by simp only [go_sem]) (by simp only [go_sem]) (hJ _ _ hi (by simp only [go_sem, hA, e3]) ⟨?_, ?_, ?_⟩) <;> try simp only [go_sem, hA, e3, hw]
      exact noneTo_s hP hi (not_ff hlr)
    | false =>
      rw [lotsR, all_bad hi hr, Bool.false_and] at hk
      (try simp only [go_sem, hA, e3, hil, hg0]); repeat' (first | (with_reducible first | refine c_split ?_ ?_ | refine w_split ?_ ?_ | refine tw_split ?_ ?_) <;> intro hb <;> try simp only [go_sem, hb, hA, e3, hil, hg0] | (first | with_reducible refine d186_0_LBooks7 (by with_unfolding_all rfl) (by kernel_rfl) ?_ | with_reducible refine d186_1_LBooks7 (by with_unfolding_all rfl) (by kernel_rfl) ?_ | refine call_c (c_AccountKind _ _ hs.ha ha _ ?_) | refine call_c (c_InstrKind _ _ hs.hi hi0 _ ?_) | fail) <;> try simp only [go_sem, hA, e3, hil, hg0] | with_reducible refine hQ _ _ ?_ <;> simp only [Tryz.f186, go_sem, hA, e3, hil, hg0])
      all_goals first | exact hk | exact (Bool.eq_false_iff.1 hr (by clear hr hJ hA hQ hQO; simp only [lrP]; simp_all <;> omega)).elim
end Go.Proofs.YtlefjpbhbiajfaaGreat
end
section
namespace Go.Proofs.YtlefjpbhbiajfaaGreat
open Go.BL Go.RowKit
set_option linter.unusedVariables false
set_option linter.unusedSimpArgs false
set_option maxRecDepth 100000
attribute [local go_sem] accountC balC lotC tradeC booksC
theorem c_IndexFuncTrade (fs : List Trade) (g : Nat) (caps : List Nat) (p : Trade → Bool) (h0 : AH) (K : AV → AH → Prop) (hn : fs.length ≤ 1000000000)
    (hp : ∀ i (hi : i < fs.length) (K' : AV → AH → Prop), K' (.one (.c (.bool (p fs[i])))) h0 → callA Tryz.prog g ([.agg (tradeC fs[i])] ++ caps.map fun l => .one (.pt l 0 0 0)) h0 K')
    (hk : K (.one (.c (.int .i64 (findG p fs)))) h0) : ACalls Tryz.prog 294 [(.one (.im (fs.map tradeC))), .one (.clo g caps)] h0 K := by
  refine acall_m Tryz.f294.results.toList mixed Tryz.func294 rfl rfl (by kernel_rfl) ?_
  intro hwf Q hQ
  simp only [go_sem, ca_clos]
  refine for_at (fs.length) [0, 1, 7] (fun i f h => f 8 = (.one (.c (.int .i64 (i)))) ∧ f 7 = (.one (.c (.int .i64 (fs.length)))) ∧ h = h0 ∧ noneTo p fs i) (GC.now ?_) ?_
  · simp only [go_sem, nc_0, true_and, ca_clos]
    exact noneTo_0 p fs
  · rintro i f h J hi hA ⟨e8, e7, rfl, hP⟩ hJ
    simp only [go_sem, ca_clos] at hA
    simp only [go_sem, hA, e8, e7, ca_clos]
    refine c_split (fun hb => ?_) (fun hb => ?_)
    rotate_left
    · simp only [go_sem, hb, hA, e8, e7, ca_clos]
      obtain rfl := ge_len hb hi
      refine hQ (h) _ _ ?_; refine GC.now (ret_m (by simp only [go_sem, Tryz.f294, hA, e8, e7, ca_clos]; exact _root_.id rfl) (by simp only [go_sem]) (by simp) (by first | exact hwf | exact wf_set hwf (by simp only [go_sem, hA, e8, e7, ca_clos]) | exact wf_set2 hwf (by simp only [go_sem, hA, e8, e7, ca_clos]) (by simp only [go_sem, hA, e8, e7, ca_clos]) | (simp only [go_sem]; done)) (by first | exact ⟨_, _root_.id rfl⟩ | exact ⟨[], (List.append_nil _).symm⟩) ?_) <;> simp only [go_sem, hA, e8, e7, ca_clos]
      rw [findG_no hP] at hk
      exact hk
    have hi := lt_len hb
    have hw := wrap_nat i (by omega)
    have hil : (i : Int) < ((fs.length : Nat) : Int) := Int.ofNat_lt.2 hi
    have hg0 : (fs)[i]? = some ((fs)[i]) := List.getElem?_eq_getElem (by omega)
    simp only [go_sem, hb, hA, e8, e7, ca_clos, hg0]
    try simp only [go_sem, hA, e8, e7, ca_clos, hil, hg0]
    refine hp i hi _ ?_
    simp only [go_sem, hA, e8, e7, ca_clos, hil, hg0]
    (try simp only [go_sem, hA, e8, e7, ca_clos, hil, hg0]); repeat' (first | (with_reducible first | refine c_split ?_ ?_ | refine w_split ?_ ?_) <;> intro hb <;> try simp only [go_sem, hb, hA, e8, e7, ca_clos, hil, hg0] | fail)
    · refine hQ (h) _ _ ?_; refine GC.now (ret_m (by simp only [go_sem, Tryz.f294, hA, e8, e7, ca_clos, hil, hg0]; exact _root_.id rfl) (by simp only [go_sem]) (by simp) (by first | exact hwf | exact wf_set hwf (by simp only [go_sem, hA, e8, e7, ca_clos, hil, hg0]) | exact wf_set2 hwf (by simp only [go_sem, hA, e8, e7, ca_clos, hil, hg0]) (by simp only [go_sem, hA, e8, e7, ca_clos, hil, hg0]) | (simp only [go_sem]; done)) (by first | exact ⟨_, _root_.id rfl⟩ | exact ⟨[], (List.append_nil _).symm⟩) ?_) <;> simp only [go_sem, hA, e8, e7, ca_clos, hil, hg0]
      rw [findG_of hP hi hb] at hk
      exact hk
    · refine GC.now (hJ _ _ hi (by simp only [go_sem, hA, e8, e7, ca_clos]) ⟨?_, ?_, ?_, ?_⟩) <;> try simp only [go_sem, hA, e8, e7, ca_clos, hw]
      exact noneTo_s hP hi hb
theorem c_tradesRight1 (t : Trade) (b : Books) (hs : Small b) (h0 : AH) (c : Nat) (hc : h0[c]? = some (.own 0 31 6 (some 1) [booksC b])) (K : AV → AH → Prop) (hk : K (.one (.c (.bool (!trdP b t)))) h0) : ACalls Tryz.prog 259 [.agg (tradeC t), .one (.pt c 0 0 0)] h0 K := by
  refine acall_m Tryz.f259.results.toList mixed Tryz.func259 rfl rfl (by kernel_rfl) ?_
  intro hwf Q hQ
  simp only [go_sem, fun a => h_old a hc]
  (try simp only [go_sem, fun a => h_old a hc]); repeat' (first | (with_reducible first | refine c_split ?_ ?_ | refine w_split ?_ ?_) <;> intro hb <;> try simp only [go_sem, hb, fun a => h_old a hc] | (first | refine call_c (c_accountKind _ _ hs.ha _ ?_) | refine call_c (c_instrKind _ _ hs.hi _ ?_) | fail) <;> try simp only [go_sem, fun a => h_old a hc] | fail)
  · refine hQ (h0) _ _ ?_; refine GC.now (ret_m (by simp only [go_sem, Tryz.f259]; exact _root_.id rfl) (by simp only [go_sem]) (by simp) (by first | exact hwf | exact wf_set hwf (by simp only [go_sem]) | exact wf_set2 hwf (by simp only [go_sem]) (by simp only [go_sem]) | (simp only [go_sem]; done)) (by first | exact ⟨_, _root_.id rfl⟩ | exact ⟨[], (List.append_nil _).symm⟩) ?_) <;> simp only [go_sem]
    exact kB hk (by simp only [trdP]; simp_all)
  · refine hQ (h0) _ _ ?_; refine GC.now (ret_m (by simp only [go_sem, Tryz.f259]; exact _root_.id rfl) (by simp only [go_sem]) (by simp) (by first | exact hwf | exact wf_set hwf (by simp only [go_sem]) | exact wf_set2 hwf (by simp only [go_sem]) (by simp only [go_sem]) | (simp only [go_sem]; done)) (by first | exact ⟨_, _root_.id rfl⟩ | exact ⟨[], (List.append_nil _).symm⟩) ?_) <;> simp only [go_sem]
    exact kB hk (by simp only [trdP]; simp_all)
  · refine hQ (h0) _ _ ?_; refine GC.now (ret_m (by simp only [go_sem, Tryz.f259]; exact _root_.id rfl) (by simp only [go_sem]) (by simp) (by first | exact hwf | exact wf_set hwf (by simp only [go_sem]) | exact wf_set2 hwf (by simp only [go_sem]) (by simp only [go_sem]) | (simp only [go_sem]; done)) (by first | exact ⟨_, _root_.id rfl⟩ | exact ⟨[], (List.append_nil _).symm⟩) ?_) <;> simp only [go_sem]
    exact kB hk (by simp only [trdP]; simp_all)
  · refine hQ (h0) _ _ ?_; refine GC.now (ret_m (by simp only [go_sem, Tryz.f259]; exact _root_.id rfl) (by simp only [go_sem]) (by simp) (by first | exact hwf | exact wf_set hwf (by simp only [go_sem]) | exact wf_set2 hwf (by simp only [go_sem]) (by simp only [go_sem]) | (simp only [go_sem]; done)) (by first | exact ⟨_, _root_.id rfl⟩ | exact ⟨[], (List.append_nil _).symm⟩) ?_) <;> simp only [go_sem]
    exact kB hk (by simp only [trdP]; simp_all)
theorem c_ContainsTrade (xs : List Trade) (g : Nat) (c : Nat) (p : Trade → Bool) (h0 : AH) (K : AV → AH → Prop) (hn : xs.length ≤ 1000000000)
    (hp : ∀ i (hi : i < xs.length) (K' : AV → AH → Prop), K' (.one (.c (.bool (p xs[i])))) h0 → callA Tryz.prog g ([.agg (tradeC xs[i])] ++ [c].map fun l => .one (.pt l 0 0 0)) h0 K')
    (hk : K (.one (.c (.bool (decide (0 ≤ findG p xs))))) h0) : ACalls Tryz.prog 258 [(.one (.im (xs.map tradeC))), .one (.clo g [c])] h0 K := by
  refine acall_m Tryz.f258.results.toList mixed Tryz.func258 rfl rfl (by kernel_rfl) ?_
  intro hwf Q hQ
  simp only [go_sem, ca_clos]
  refine .inr (.inl ⟨rfl, c_IndexFuncTrade xs g [c] p _ _ hn hp ?_⟩)
  simp only [go_sem]
  (try simp only [go_sem]); repeat' (first | (with_reducible first | refine c_split ?_ ?_ | refine w_split ?_ ?_) <;> intro hb <;> try simp only [go_sem, hb] | fail)
  refine hQ (h0) _ _ ?_; refine GC.now (ret_m (by simp only [go_sem, Tryz.f258]; exact _root_.id rfl) (by simp only [go_sem]) (by simp) (by first | exact hwf | exact wf_set hwf (by simp only [go_sem]) | exact wf_set2 hwf (by simp only [go_sem]) (by simp only [go_sem]) | (simp only [go_sem]; done)) (by first | exact ⟨_, _root_.id rfl⟩ | exact ⟨[], (List.append_nil _).symm⟩) ?_) <;> simp only [go_sem]
  exact hk
theorem findG_all {α : Type} (p : α → Bool) (xs : List α) : (!decide (0 ≤ findG (fun x => !p x) xs)) = xs.all p := by
  cases h : xs.all p with
  | true =>
    have : findG (fun x => !p x) xs = -1 := findG_none fun j hj => by rw [(List.all_eq_true.1 h) _ (List.getElem_mem hj)]; rfl
    rw [this]; rfl
  | false =>
    obtain ⟨x, hx, hp⟩ : ∃ x ∈ xs, p x = false := by
      rcases Classical.em (∃ x ∈ xs, p x = false) with q | q
      · exact q
      · exfalso
        have : xs.all p = true := List.all_eq_true.2 fun x hx => by
          cases hp : p x with
          | true => rfl
          | false => exact absurd ⟨x, hx, hp⟩ q
        rw [this] at h; cases h
    rw [decide_eq_true (findG_hit hx (show (!p x) = true by rw [hp]; rfl))]; rfl
theorem c_tradesRight (b : Books) (hs : Small b) (K : AV → AH → Prop) (hk : K (.one (.c (.bool (b.trades.all (trdP b))))) []) : ACalls Tryz.prog 196 [.agg (booksC b)] [] K := by
  have hst := hs.ht
  refine acall_c Tryz.f196.results.toList mixed Tryz.func196 rfl rfl (by kernel_rfl) ?_
  intro Q hQ hQO
  simp only [go_sem]
  refine call_h (c_ContainsTrade b.trades _ 0 (fun t => !trdP b t) _ _ hst (fun i hi K' hk' => .inr (.inl ⟨rfl, c_tradesRight1 b.trades[i] b hs _ 0 rfl _ hk'⟩)) ?_)
  simp only [go_sem]
  (try simp only [go_sem]); repeat' (first | (with_reducible first | refine c_split ?_ ?_ | refine w_split ?_ ?_) <;> intro hb <;> try simp only [go_sem, hb] | with_reducible refine hQ _ _ ?_ <;> simp only [Tryz.f196, go_sem])
  rw [← findG_all] at hk
  exact hk
theorem lots_fine {xs : List Lot} (h : lotsOk xs = true) : Fine xs := by
  rw [lotsOk, Bool.and_eq_true] at h; exact okL_fine h.1
theorem c_impl_BooksOk (b : Books) (hs : Small b) (K : AV → AH → Prop) (hk : K (.one (.c (.bool (booksOk b)))) []) : ACalls Tryz.prog 110 [.agg (booksC b)] [] K := by
  cases hl : listsOk b with
  | true =>
    rw [booksOk, hl, Bool.true_and] at hk
    simp only [listsOk, Bool.and_eq_true] at hl
    obtain ⟨⟨⟨⟨⟨f1, f2⟩, f3⟩, f4⟩, f5⟩, f6⟩ := hl
    refine acall_c Tryz.f110.results.toList mixed Tryz.func110 rfl rfl (by kernel_rfl) ?_
    intro Q hQ hQO
    simp only [go_sem]
    (try simp only [go_sem, f1, f2, f3, f4, f5, f6]); repeat' (first | (with_reducible first | refine c_split ?_ ?_ | refine w_split ?_ ?_) <;> intro hb <;> try simp only [go_sem, hb, f1, f2, f3, f4, f5, f6] | (first | refine call_c (c_impl_AccountsOk _ hs.ha _ ?_) | refine call_c (c_impl_InstrsOk _ hs.hi _ ?_) | refine call_c (c_impl_BalsOk _ hs.hb _ ?_) | refine call_c (c_impl_LotsOk _ hs.hl _ ?_) | refine call_c (c_impl_TradesOk _ hs.ht _ ?_) | refine call_c (c_in _ _ _ _ ?_) | refine call_c (c_balsRight b hs f3 _ ?_) | refine call_c (c_lotsRight b hs f3 (lots_fine f4) _ ?_) | refine call_c (c_tradesRight b hs _ ?_) | fail) <;> try simp only [go_sem, f1, f2, f3, f4, f5, f6] | with_reducible refine hQ _ _ ?_ <;> simp only [Tryz.f110, go_sem, f1, f2, f3, f4, f5, f6])
    all_goals (clear hQ hQO; generalize b.bals.all (brP b) = p1 at *; generalize lotsR b = p2 at *; generalize b.trades.all (trdP b) = p3 at *; exact kB hk (by simp_all))
  | false =>
    rw [booksOk, hl, Bool.false_and, Bool.false_and, Bool.false_and] at hk
    refine acall_c Tryz.f110.results.toList mixed Tryz.func110 rfl rfl (by kernel_rfl) ?_
    intro Q hQ hQO
    simp only [go_sem]
    (try simp only [go_sem]); repeat' (first | (with_reducible first | refine c_split ?_ ?_ | refine w_split ?_ ?_) <;> intro hb <;> try simp only [go_sem, hb] | (first | refine call_c (c_impl_AccountsOk _ hs.ha _ ?_) | refine call_c (c_impl_InstrsOk _ hs.hi _ ?_) | refine call_c (c_impl_BalsOk _ hs.hb _ ?_) | refine call_c (c_impl_LotsOk _ hs.hl _ ?_) | refine call_c (c_impl_TradesOk _ hs.ht _ ?_) | refine call_c (c_in _ _ _ _ ?_) | fail) <;> try simp only [go_sem] | with_reducible refine hQ _ _ ?_ <;> simp only [Tryz.f110, go_sem])
    all_goals first | exact hk | exact (Bool.eq_false_iff.1 hl (by clear hl hQ hQO; simp only [listsOk]; simp_all)).elim
theorem c_BooksOk_no (b : Books) (hs : Small b) (hl : listsOk b = false) (K : AV → AH → Prop) (hk : K (.one (.c (.bool (booksOk b)))) []) : ACalls Tryz.prog 109 [.agg (booksC b)] [] K := by
  rw [booksOk, hl, Bool.false_and, Bool.false_and, Bool.false_and] at hk
  refine acall_c Tryz.f109.results.toList mixed Tryz.func109 rfl rfl (by kernel_rfl) ?_
  intro Q hQ hQO
  simp only [go_sem]
  (try simp only [go_sem]); repeat' (first | (with_reducible first | refine c_split ?_ ?_ | refine w_split ?_ ?_) <;> intro hb <;> try simp only [go_sem, hb] | (first | refine call_c (c_spec_AccountsOk _ hs.ha _ ?_) | refine call_c (c_spec_InstrsOk _ hs.hi _ ?_) | refine call_c (c_spec_BalsOk _ hs.hb _ ?_) | refine call_c (c_spec_LotsOk _ hs.hl _ ?_) | refine call_c (c_spec_TradesOk _ hs.ht _ ?_) | refine call_c (c_l1In _ _ _ _ ?_) | fail) <;> try simp only [go_sem] | with_reducible refine hQ _ _ ?_ <;> simp only [Tryz.f109, go_sem])
  all_goals first | exact hk | exact (Bool.eq_false_iff.1 hl (by clear hl hQ hQO; simp only [listsOk]; simp_all)).elim
theorem c_BooksOk (b : Books) (hs : Small b) (K : AV → AH → Prop) (hk : K (.one (.c (.bool (booksOk b)))) []) : ACalls Tryz.prog 109 [.agg (booksC b)] [] K := by
  have hst := hs.ht
  cases hl : listsOk b with
  | true =>
    rw [booksOk, hl, Bool.true_and] at hk
    simp only [listsOk, Bool.and_eq_true] at hl
    obtain ⟨⟨⟨⟨⟨f1, f2⟩, f3⟩, f4⟩, f5⟩, f6⟩ := hl
    refine acall_c Tryz.f109.results.toList mixed Tryz.func109 rfl rfl (by kernel_rfl) ?_
    intro Q hQ hQO
    simp only [go_sem]
    cases g1 : b.bals.all (brP b) with
    | false =>
      rw [g1, Bool.false_and, Bool.false_and] at hk
      (try simp only [go_sem, f1, f2, f3, f4, f5, f6, g1]); repeat' (first | (with_reducible first | refine c_split ?_ ?_ | refine w_split ?_ ?_) <;> intro hb <;> try simp only [go_sem, hb, f1, f2, f3, f4, f5, f6, g1] | (first | refine call_c (c_spec_AccountsOk _ hs.ha _ ?_) | refine call_c (c_spec_InstrsOk _ hs.hi _ ?_) | refine call_c (c_spec_BalsOk _ hs.hb _ ?_) | refine call_c (c_spec_LotsOk _ hs.hl _ ?_) | refine call_c (c_spec_TradesOk _ hs.ht _ ?_) | refine call_c (c_l1In _ _ _ _ ?_) | refine call_c (c_l6Bals b hs f1 f2 f3 _ ?_) | fail) <;> try simp only [go_sem, f1, f2, f3, f4, f5, f6, g1] | with_reducible refine hQ _ _ ?_ <;> simp only [Tryz.f109, go_sem, f1, f2, f3, f4, f5, f6, g1])
      exact hk
    | true =>
      cases g2 : lotsR b with
      | false =>
        rw [g1, g2, Bool.true_and, Bool.false_and] at hk
        (try simp only [go_sem, f1, f2, f3, f4, f5, f6, g1, g2]); repeat' (first | (with_reducible first | refine c_split ?_ ?_ | refine w_split ?_ ?_) <;> intro hb <;> try simp only [go_sem, hb, f1, f2, f3, f4, f5, f6, g1, g2] | (first | refine call_c (c_spec_AccountsOk _ hs.ha _ ?_) | refine call_c (c_spec_InstrsOk _ hs.hi _ ?_) | refine call_c (c_spec_BalsOk _ hs.hb _ ?_) | refine call_c (c_spec_LotsOk _ hs.hl _ ?_) | refine call_c (c_spec_TradesOk _ hs.ht _ ?_) | refine call_c (c_l1In _ _ _ _ ?_) | refine call_c (c_l6Bals b hs f1 f2 f3 _ ?_) | refine call_c (c_l6Lots b hs f1 f2 (lots_fine f4) _ ?_) | fail) <;> try simp only [go_sem, f1, f2, f3, f4, f5, f6, g1, g2] | with_reducible refine hQ _ _ ?_ <;> simp only [Tryz.f109, go_sem, f1, f2, f3, f4, f5, f6, g1, g2])
        exact hk
      | true =>
        rw [g1, g2, Bool.true_and, Bool.true_and] at hk
        (try simp only [go_sem, f1, f2, f3, f4, f5, f6, g1, g2]); repeat' (first | (with_reducible first | refine c_split ?_ ?_ | refine w_split ?_ ?_) <;> intro hb <;> try simp only [go_sem, hb, f1, f2, f3, f4, f5, f6, g1, g2] | (first | refine call_c (c_spec_AccountsOk _ hs.ha _ ?_) | refine call_c (c_spec_InstrsOk _ hs.hi _ ?_) | refine call_c (c_spec_BalsOk _ hs.hb _ ?_) | refine call_c (c_spec_LotsOk _ hs.hl _ ?_) | refine call_c (c_spec_TradesOk _ hs.ht _ ?_) | refine call_c (c_l1In _ _ _ _ ?_) | refine call_c (c_l6Bals b hs f1 f2 f3 _ ?_) | refine call_c (c_l6Lots b hs f1 f2 (lots_fine f4) _ ?_) | fail) <;> try simp only [go_sem, f1, f2, f3, f4, f5, f6, g1, g2] | fail)
        refine for_at (b.trades.length) [1] (fun i f h => f 3 = (.one (.c (.int .i64 (i)))) ∧ h = [.own 0 31 6 (some 1) [booksC b]] ∧ noneTo (fun t => !trdP b t) b.trades i) (GC.now ?_) ?_
        · simp only [go_sem, nc_0, true_and]
          exact noneTo_0 _ _
        · rintro i f h J hi hA ⟨e3, rfl, hP⟩ hJ
          simp only [go_sem] at hA
          simp only [go_sem, hA, e3]
          refine c_split (fun hb => ?_) (fun hb => ?_)
          rotate_left
          · simp only [go_sem, hb, hA, e3]
            obtain rfl := ge_len hb hi
            (try simp only [go_sem, hA, e3]); repeat' (first | (with_reducible first | refine c_split ?_ ?_ | refine w_split ?_ ?_) <;> intro hb <;> try simp only [go_sem, hb, hA, e3] | with_reducible refine hQ _ _ ?_ <;> simp only [Tryz.f109, go_sem, hA, e3])
            rw [all_no hP] at hk
            exact hk
          have hi := lt_len hb
          have hw := wrap_nat i (by omega)
          have hil : (i : Int) < ((b.trades.length : Nat) : Int) := Int.ofNat_lt.2 hi
          have hg0 : (b.trades)[i]? = some ((b.trades)[i]) := List.getElem?_eq_getElem (by omega)
          simp only [go_sem, hb, hA, e3, hg0]
          try simp only [go_sem, hA, e3, hil, hg0]
          cases hr : trdP b b.trades[i] with
          | true =>
            have htr := hr
            simp only [trdP, Bool.and_eq_true] at hr
            obtain ⟨⟨⟨t1, t2⟩, t3⟩, t4⟩ := hr
            (try simp only [go_sem, hA, e3, hil, hg0, t1, t2, t3, t4]); repeat' (first | (with_reducible first | refine c_split ?_ ?_ | refine w_split ?_ ?_) <;> intro hb <;> try simp only [go_sem, hb, hA, e3, hil, hg0, t1, t2, t3, t4] | (first | refine call_c (c_AccountKind _ _ hs.ha f1 _ ?_) | refine call_c (c_InstrKind _ _ hs.hi f2 _ ?_) | fail) <;> try simp only [go_sem, hA, e3, hil, hg0, t1, t2, t3, t4] | fail)
            refine gc_trim 1 (by decide) (by simp only [go_sem]) (by simp only [go_sem]) (hJ _ _ hi (by simp only [go_sem, hA, e3]) ⟨?_, ?_, ?_⟩) <;> try simp only [go_sem, hA, e3, hw]
            exact noneTo_s hP hi (not_ff htr)
          | false =>
            rw [all_bad hi hr] at hk
            cases q1 : (kindOf b.accounts b.trades[i].buyer == 1) with
            | false =>
              (try simp only [go_sem, hA, e3, hil, hg0, q1]); repeat' (first | (with_reducible first | refine c_split ?_ ?_ | refine w_split ?_ ?_) <;> intro hb <;> try simp only [go_sem, hb, hA, e3, hil, hg0, q1] | (first | refine call_c (c_AccountKind _ _ hs.ha f1 _ ?_) | refine call_c (c_InstrKind _ _ hs.hi f2 _ ?_) | fail) <;> try simp only [go_sem, hA, e3, hil, hg0, q1] | with_reducible refine hQ _ _ ?_ <;> simp only [Tryz.f109, go_sem, hA, e3, hil, hg0, q1])
              exact hk
            | true =>
              cases q2 : (kindOf b.accounts b.trades[i].seller == 1) with
              | false =>
                (try simp only [go_sem, hA, e3, hil, hg0, q1, q2]); repeat' (first | (with_reducible first | refine c_split ?_ ?_ | refine w_split ?_ ?_) <;> intro hb <;> try simp only [go_sem, hb, hA, e3, hil, hg0, q1, q2] | (first | refine call_c (c_AccountKind _ _ hs.ha f1 _ ?_) | refine call_c (c_InstrKind _ _ hs.hi f2 _ ?_) | fail) <;> try simp only [go_sem, hA, e3, hil, hg0, q1, q2] | with_reducible refine hQ _ _ ?_ <;> simp only [Tryz.f109, go_sem, hA, e3, hil, hg0, q1, q2])
                exact hk
              | true =>
                cases q3 : (kindOf b.instrs b.trades[i].paper == 2) with
                | false =>
                  (try simp only [go_sem, hA, e3, hil, hg0, q1, q2, q3]); repeat' (first | (with_reducible first | refine c_split ?_ ?_ | refine w_split ?_ ?_) <;> intro hb <;> try simp only [go_sem, hb, hA, e3, hil, hg0, q1, q2, q3] | (first | refine call_c (c_AccountKind _ _ hs.ha f1 _ ?_) | refine call_c (c_InstrKind _ _ hs.hi f2 _ ?_) | fail) <;> try simp only [go_sem, hA, e3, hil, hg0, q1, q2, q3] | with_reducible refine hQ _ _ ?_ <;> simp only [Tryz.f109, go_sem, hA, e3, hil, hg0, q1, q2, q3])
                  exact hk
                | true =>
                  cases q4 : (kindOf b.instrs b.trades[i].cash == 1) with
                  | false =>
                    (try simp only [go_sem, hA, e3, hil, hg0, q1, q2, q3, q4]); repeat' (first | (with_reducible first | refine c_split ?_ ?_ | refine w_split ?_ ?_) <;> intro hb <;> try simp only [go_sem, hb, hA, e3, hil, hg0, q1, q2, q3, q4] | (first | refine call_c (c_AccountKind _ _ hs.ha f1 _ ?_) | refine call_c (c_InstrKind _ _ hs.hi f2 _ ?_) | fail) <;> try simp only [go_sem, hA, e3, hil, hg0, q1, q2, q3, q4] | with_reducible refine hQ _ _ ?_ <;> simp only [Tryz.f109, go_sem, hA, e3, hil, hg0, q1, q2, q3, q4])
                    exact hk
                  | true =>
                    simp only [trdP, q1, q2, q3, q4, Bool.and_true] at hr
                    cases hr
  | false => exact c_BooksOk_no b hs hl K hk
end Go.Proofs.YtlefjpbhbiajfaaGreat
end
section
namespace Go.Proofs.YtlefjpbhbiajfaaGreat
open Go.BL Go.RowKit
set_option linter.unusedVariables false
set_option linter.unusedSimpArgs false
set_option maxRecDepth 100000
attribute [local go_sem] accountC balC lotC tradeC booksC
theorem c_szBooksG (b : Books) (h : Large b) (left : Int) (q0 : 0 ≤ left) (q1 : left ≤ 1048576) (K : AV → AH → Prop) (hk : ∀ r, (0 ≤ r → Small b) → K (.one (.c (.int .i64 (r)))) []) : ACalls Tryz.prog 51 [.agg (booksC b), (.one (.c (.int .i64 (left))))] [] K := by
  refine acall_c Tryz.f51.results.toList mixed Tryz.func51 rfl rfl (by kernel_rfl) ?_
  intro Q hQ hQO
  simp only [go_sem]
  (try simp only [go_sem]); repeat' (first | (with_reducible first | refine c_split ?_ ?_ | refine w_split ?_ ?_) <;> intro hb <;> try simp only [go_sem, hb] | refine call_c (c_szAccountS _ _ h.ha q0 q1 _ (fun r1 hr1 => ?_)) <;> try simp only [go_sem] | fail)
  · (try simp only [go_sem]); repeat' (first | (with_reducible first | refine c_split ?_ ?_ | refine w_split ?_ ?_) <;> intro hb <;> try simp only [go_sem, hb] | with_reducible refine hQ _ _ ?_ <;> simp only [Tryz.f51, go_sem])
    exact hk _ (fun q => by omega)
  have n1 : 0 ≤ r1 := by have := of_decide_eq_false hb; omega
  have m1 := hr1 n1
  clear hb
  (try simp only [go_sem]); repeat' (first | (with_reducible first | refine c_split ?_ ?_ | refine w_split ?_ ?_) <;> intro hb <;> try simp only [go_sem, hb] | refine call_c (c_szInstrS _ _ h.hi n1 (by omega) _ (fun r2 hr2 => ?_)) <;> try simp only [go_sem] | fail)
  · (try simp only [go_sem]); repeat' (first | (with_reducible first | refine c_split ?_ ?_ | refine w_split ?_ ?_) <;> intro hb <;> try simp only [go_sem, hb] | with_reducible refine hQ _ _ ?_ <;> simp only [Tryz.f51, go_sem])
    exact hk _ (fun q => by omega)
  have n2 : 0 ≤ r2 := by have := of_decide_eq_false hb; omega
  have m2 := hr2 n2
  clear hb
  (try simp only [go_sem]); repeat' (first | (with_reducible first | refine c_split ?_ ?_ | refine w_split ?_ ?_) <;> intro hb <;> try simp only [go_sem, hb] | refine call_c (c_szBalS _ _ h.hb n2 (by omega) _ (fun r3 hr3 => ?_)) <;> try simp only [go_sem] | fail)
  · (try simp only [go_sem]); repeat' (first | (with_reducible first | refine c_split ?_ ?_ | refine w_split ?_ ?_) <;> intro hb <;> try simp only [go_sem, hb] | with_reducible refine hQ _ _ ?_ <;> simp only [Tryz.f51, go_sem])
    exact hk _ (fun q => by omega)
  have n3 : 0 ≤ r3 := by have := of_decide_eq_false hb; omega
  have m3 := hr3 n3
  clear hb
  (try simp only [go_sem]); repeat' (first | (with_reducible first | refine c_split ?_ ?_ | refine w_split ?_ ?_) <;> intro hb <;> try simp only [go_sem, hb] | refine call_c (c_szLotS _ _ h.hl n3 (by omega) _ (fun r4 hr4 => ?_)) <;> try simp only [go_sem] | fail)
  · (try simp only [go_sem]); repeat' (first | (with_reducible first | refine c_split ?_ ?_ | refine w_split ?_ ?_) <;> intro hb <;> try simp only [go_sem, hb] | with_reducible refine hQ _ _ ?_ <;> simp only [Tryz.f51, go_sem])
    exact hk _ (fun q => by omega)
  have n4 : 0 ≤ r4 := by have := of_decide_eq_false hb; omega
  have m4 := hr4 n4
  clear hb
  (try simp only [go_sem]); repeat' (first | (with_reducible first | refine c_split ?_ ?_ | refine w_split ?_ ?_) <;> intro hb <;> try simp only [go_sem, hb] | refine call_c (c_szTradeS _ _ h.ht n4 (by omega) _ (fun r5 hr5 => ?_)) <;> try simp only [go_sem] | fail)
  · (try simp only [go_sem]); repeat' (first | (with_reducible first | refine c_split ?_ ?_ | refine w_split ?_ ?_) <;> intro hb <;> try simp only [go_sem, hb] | with_reducible refine hQ _ _ ?_ <;> simp only [Tryz.f51, go_sem])
    exact hk _ (fun q => by omega)
  have n5 : 0 ≤ r5 := by have := of_decide_eq_false hb; omega
  have m5 := hr5 n5
  (try simp only [go_sem]); repeat' (first | (with_reducible first | refine c_split ?_ ?_ | refine w_split ?_ ?_) <;> intro hb <;> try simp only [go_sem, hb] | with_reducible refine hQ _ _ ?_ <;> simp only [Tryz.f51, go_sem])
  exact hk _ (fun q => ⟨by omega, by omega, by omega, by omega, by omega⟩)
def booksA (b : Books) : AV := .agg [.sl 0 0 0 b.accounts.length, .sl 1 0 0 b.instrs.length, .sl 2 0 0 b.bals.length, .sl 3 0 0 b.lots.length, .sl 4 0 0 b.trades.length, .c (.int .i64 (b.lot))]
theorem c_toBooks (b : Books) (hs : Small b) (K : AV → AH → Prop) (hk : K (booksA b) [.own 0 129 2 (some b.accounts.length) (b.accounts.map accountC), .own 0 131 2 (some b.instrs.length) (b.instrs.map accountC), .own 0 134 3 (some b.bals.length) (b.bals.map balC), .own 0 137 5 (some b.lots.length) (b.lots.map lotC), .own 0 140 8 (some b.trades.length) (b.trades.map tradeC)]) : ACalls Tryz.prog 53 [.agg (booksC b)] [] K := by
  refine acall_c Tryz.f53.results.toList mixed Tryz.func53 rfl rfl (by kernel_rfl) ?_
  intro Q hQ hQO
  simp only [go_sem]
  (try simp only [go_sem]); repeat' (first | (with_reducible first | refine c_split ?_ ?_ | refine w_split ?_ ?_) <;> intro hb <;> try simp only [go_sem, hb] | (first | refine call_c (c_toAccountS _ hs.ha _ ?_) | refine call_c (c_toInstrS _ hs.hi _ ?_) | refine call_c (c_toBalS _ hs.hb _ ?_) | refine call_c (c_toLotS _ hs.hl _ ?_) | refine call_c (c_toTradeS _ hs.ht _ ?_) | fail) <;> try simp only [go_sem] | fail)
  refine hQO [3, 4, 5, 6, 7] _ _ (GC.now ?_) <;> simp only [Tryz.f53, go_sem, List.nodup_cons, List.nodup_nil, List.mem_cons, List.not_mem_nil, or_false, not_false_eq_true, List.idxOf?_cons, List.idxOf?_nil, Option.map_none]
  exact hk
theorem c_eqBooks (b : Books) (hs : Small b) (K : AV → AH → Prop) (hk : K (.one (.c (.bool (true)))) []) : ACalls Tryz.prog 48 [.agg (booksC b), .agg (booksC b)] [] K := by
  refine acall_c Tryz.f48.results.toList mixed Tryz.func48 rfl rfl (by kernel_rfl) ?_
  intro Q hQ hQO
  simp only [go_sem]
  (try simp only [go_sem, BEq.rfl]); repeat' (first | (with_reducible first | refine c_split ?_ ?_ | refine w_split ?_ ?_) <;> intro hb <;> try simp only [go_sem, hb, BEq.rfl] | (first | refine call_c (c_eqAccountS _ hs.ha _ ?_) | refine call_c (c_eqInstrS _ hs.hi _ ?_) | refine call_c (c_eqBalS _ hs.hb _ ?_) | refine call_c (c_eqLotS _ hs.hl _ ?_) | refine call_c (c_eqTradeS _ hs.ht _ ?_) | fail) <;> try simp only [go_sem, BEq.rfl] | with_reducible refine hQ _ _ ?_ <;> simp only [Tryz.f48, go_sem, BEq.rfl])
  exact hk
end Go.Proofs.YtlefjpbhbiajfaaGreat
end
section
namespace Go.Proofs.YtlefjpbhbiajfaaGreat
open Go.BL Go.RowKit
set_option linter.unusedVariables false
set_option linter.unusedSimpArgs false
set_option maxRecDepth 100000
attribute [local go_sem] accountC balC lotC tradeC booksC booksA
theorem booksOk_parts {b : Books} (h : booksOk b = true) : accountsOk b.accounts = true ∧ instrsOk b.instrs = true ∧ balsOk b.bals = true ∧ lotsOk b.lots = true ∧ tradesOk b.trades = true := by
  simp only [booksOk, listsOk, Bool.and_eq_true] at h
  obtain ⟨⟨⟨⟨⟨⟨⟨⟨h1, h2⟩, h3⟩, h4⟩, h5⟩, _⟩, _⟩, _⟩, _⟩ := h
  exact ⟨h1, h2, h3, h4, h5⟩
theorem findO_cases {α : Type} (p : α → Bool) (xs : List α) : (∃ (k : Nat) (hk : k < xs.length), findG p xs = k ∧ xs.find? p = some xs[k]) ∨ findG p xs = -1 ∧ xs.find? p = none := by
  cases h : xs.findIdx? p with
  | none =>
    refine .inr ⟨by rw [findG, h], ?_⟩
    rw [List.findIdx?_eq_none_iff] at h
    exact List.find?_eq_none.2 fun x hx => by rw [h x hx]; decide
  | some k =>
    have h2 := List.findIdx?_eq_some_iff_getElem.1 h
    obtain ⟨hk, hp, hj⟩ := h2
    refine .inl ⟨k, hk, by rw [findG, h], ?_⟩
    exact find_at (fun j _ hjk => by have := hj j hjk; simpa using this) hk hp
end Go.Proofs.YtlefjpbhbiajfaaGreat
end
section
namespace Go.Proofs.YtlefjpbhbiajfaaGreat
open Go.BL Go.RowKit
set_option linter.unusedVariables false
set_option linter.unusedSimpArgs false
set_option maxRecDepth 100000
attribute [local go_sem] byteC
theorem byteC_cl (x : UInt8) : (byteC x).all clB = true := by first | rfl | (cases x; rfl)
theorem byteC_clE (xs : List (UInt8)) : clE (xs.map byteC) = true := clE_map _ _ byteC_cl
theorem byteC_clz (xs : List (UInt8)) : (xs.map byteC).map (List.map clz) = xs.map byteC := clz_E _ (byteC_clE xs)
theorem byteC_snoc (xs : List (UInt8)) (b : UInt8) : xs.map byteC ++ [[.c (.int .u8 ((b.toNat : Int)))]] = (xs ++ [(b : UInt8)]).map byteC := by rw [List.map_append]; rfl
theorem byteC_tk (xs : List (UInt8)) : (xs.map byteC).take xs.length = xs.map byteC := List.take_of_length_le (by simp)
attribute [go_sem] byteC_cl byteC_clE byteC_clz byteC_snoc byteC_tk
def gnGo (bs : List UInt8) (a : Nat) : Nat → Nat → Nat → Option (Nat × Nat)
  | 0, _, _ => none
  | f + 1, k, x => match bs[a + k]? with
    | none => none
    | some d => if d.toNat < 128 then (if d.toNat = 0 ∧ 0 < k then none else some (x + d.toNat % 128 * 128 ^ k, a + k + 1)) else gnGo bs a f (k + 1) (x + d.toNat % 128 * 128 ^ k)
def getNum (bs : List UInt8) (at_ : Int) : Option (Nat × Nat) := if 0 ≤ at_ ∧ at_ < bs.length then gnGo bs at_.toNat 9 0 0 else none
theorem u8_wrap (b : UInt8) : IntKind.i64.wrap (b.toNat : Int) = (b.toNat : Int) := by
  have := b.toNat_lt
  rw [IntKind.wrap_i64]; omega
theorem nat_tmod128 (d : Nat) : (d : Int).tmod 128 = ((d % 128 : Nat) : Int) := by rw [Int.tmod_eq_emod_of_nonneg (by omega)]; rfl
theorem ofInt_nat (a : Nat) (ha : a < 9223372036854775808) : (BitVec.ofInt IntKind.i64.bits (a : Int)).toNat = a := by
  show (BitVec.ofInt 64 (a : Int)).toNat = a
  rw [BitVec.toNat_ofInt]
  omega
theorem wrap_nat64 (a : Nat) (ha : a < 9223372036854775808) : IntKind.i64.wrap (a : Int) = (a : Int) := by rw [IntKind.wrap_i64]; omega
theorem and_nat (a b : Nat) (ha : a < 9223372036854775808) (hb : b < 9223372036854775808) : IntKind.i64.wrap (((BitVec.ofInt IntKind.i64.bits (a : Int) &&& BitVec.ofInt IntKind.i64.bits (b : Int)).toNat : Nat) : Int) = ((a &&& b : Nat) : Int) := by
  rw [BitVec.toNat_and, ofInt_nat a ha, ofInt_nat b hb]
  exact wrap_nat64 _ (Nat.lt_of_le_of_lt Nat.and_le_left ha)
theorem or_nat (a b : Nat) (ha : a < 9223372036854775808) (hb : b < 9223372036854775808) : IntKind.i64.wrap (((BitVec.ofInt IntKind.i64.bits (a : Int) ||| BitVec.ofInt IntKind.i64.bits (b : Int)).toNat : Nat) : Int) = ((a ||| b : Nat) : Int) := by
  rw [BitVec.toNat_or, ofInt_nat a ha, ofInt_nat b hb]
  exact wrap_nat64 _ (Nat.or_lt_two_pow (n := 63) ha hb)
theorem or_add (x q k : Nat) (hx : x < 128 ^ k) : x ||| q * 128 ^ k = x + q * 128 ^ k := by
  have h : (128 : Nat) ^ k = 2 ^ (7 * k) := by rw [Nat.pow_mul]
  rw [h] at hx ⊢
  rw [Nat.or_comm, ← Nat.shiftLeft_eq, ← Nat.shiftLeft_add_eq_or_of_lt hx, Nat.add_comm]
/-! ### Checks -/
def ckTo (bs : List UInt8) : Nat → Nat × Nat
  | 0 => (0, 0)
  | i + 1 => let c := ckTo bs i; let x := (c.1 + (bs[i]?.getD 0).toNat + 1) % 65535; (x, (c.2 + x) % 65535)
def ckN (bs : List UInt8) : Nat := 65536 * (ckTo bs bs.length).2 + (ckTo bs bs.length).1
theorem ck_lt (bs : List UInt8) : ∀ i, (ckTo bs i).1 < 65535 ∧ (ckTo bs i).2 < 65535
  | 0 => by simp [ckTo]
  | i + 1 => by simp only [ckTo]; exact ⟨Nat.mod_lt _ (by decide), Nat.mod_lt _ (by decide)⟩
theorem ck_arith (bs : List UInt8) (i : Nat) (b : UInt8) (hg : bs[i]? = some b) :
    (wrap64 (wrap64 (((ckTo bs i).1 : Int) + (b.toNat : Int)) + 1)).tmod 65535 = ((ckTo bs (i + 1)).1 : Int) ∧ (wrap64 (((ckTo bs i).2 : Int) + ((ckTo bs (i + 1)).1 : Int))).tmod 65535 = ((ckTo bs (i + 1)).2 : Int) := by
  obtain ⟨h1, h2⟩ := ck_lt bs i
  have h3 := b.toNat_lt
  have h4 : (ckTo bs (i + 1)).1 = ((ckTo bs i).1 + b.toNat + 1) % 65535 := by simp only [ckTo, hg, Option.getD_some]
  have h5 : (ckTo bs (i + 1)).2 = ((ckTo bs i).2 + (ckTo bs (i + 1)).1) % 65535 := by simp only [ckTo]
  have h6 : (ckTo bs (i + 1)).1 < 65535 := (ck_lt bs (i + 1)).1
  have w1 : wrap64 (wrap64 (((ckTo bs i).1 : Int) + (b.toNat : Int)) + 1) = (((ckTo bs i).1 + b.toNat + 1 : Nat) : Int) := by unfold wrap64; omega
  have w2 : wrap64 (((ckTo bs i).2 : Int) + ((ckTo bs (i + 1)).1 : Int)) = (((ckTo bs i).2 + (ckTo bs (i + 1)).1 : Nat) : Int) := by unfold wrap64; omega
  rw [w1, w2, Int.tmod_eq_emod_of_nonneg (Int.natCast_nonneg _), Int.tmod_eq_emod_of_nonneg (Int.natCast_nonneg _)]
  constructor
  · rw [h4]; rfl
  · rw [h5]; rfl
theorem ck_end (bs : List UInt8) (i : Nat) : wrap64 (wrap64 (65536 * ((ckTo bs i).2 : Int)) + ((ckTo bs i).1 : Int)) = ((65536 * (ckTo bs i).2 + (ckTo bs i).1 : Nat) : Int) := by
  obtain ⟨h1, h2⟩ := ck_lt bs i
  unfold wrap64; omega
theorem c_spec_Check (bs : List UInt8) (hn : bs.length ≤ 1000000000000000) (K : AV → AH → Prop) (hk : K (.one (.c (.int .i64 ((ckN bs : Int))))) []) : ACalls Tryz.prog 140 [(.one (.im (bs.map byteC)))] [] K := by
  have h0 : (65535 : Int) ≠ 0 := by decide
  refine acall_c Tryz.f140.results.toList mixed Tryz.func140 rfl rfl (by kernel_rfl) ?_
  intro Q hQ hQO
  simp only [go_sem]
  refine for_at (bs.length) [0] (fun i f h => f 5 = (.one (.c (.int .i64 (i)))) ∧ f 3 = (.one (.c (.int .i64 (((ckTo bs i).1 : Int))))) ∧ f 4 = (.one (.c (.int .i64 (((ckTo bs i).2 : Int))))) ∧ h = []) (GC.now ?_) ?_
  · simp only [go_sem, nc_0, true_and]
    simp [ckTo]
  · rintro i f h J hi hA ⟨e5, e3, e4, rfl⟩ hJ
    simp only [go_sem] at hA
    simp only [go_sem, hA, e5, e3, e4]
    refine c_split (fun hb => ?_) (fun hb => ?_)
    rotate_left
    · simp only [go_sem, hb, hA, e5, e3, e4]
      obtain rfl := ge_len hb hi
      (try simp only [go_sem, hA, e5, e3, e4, ck_end]); repeat' (first | (with_reducible first | refine c_split ?_ ?_ | refine w_split ?_ ?_) <;> intro hb <;> try simp only [go_sem, hb, hA, e5, e3, e4, ck_end] | with_reducible refine hQ _ _ ?_ <;> simp only [Tryz.f140, go_sem, hA, e5, e3, e4, ck_end])
      exact hk
    have hi := lt_len hb
    have hw := wrap_nat i (by omega)
    have hil : (i : Int) < ((bs.length : Nat) : Int) := Int.ofNat_lt.2 hi
    have hg0 : (bs)[i]? = some ((bs)[i]) := List.getElem?_eq_getElem (by omega)
    simp only [go_sem, hb, hA, e5, e3, e4, hg0]
    try simp only [go_sem, hA, e5, e3, e4, hil, hg0]
    obtain ⟨hc1, hc2⟩ := ck_arith bs i _ hg0
    have hwd := u8_wrap bs[i]
    (try simp only [go_sem, hA, e5, e3, e4, hil, hg0, hwd, ne_eq, h0, not_false_eq_true, b_rem, hc1, hc2]); repeat' (first | (with_reducible first | refine c_split ?_ ?_ | refine w_split ?_ ?_) <;> intro hb <;> try simp only [go_sem, hb, hA, e5, e3, e4, hil, hg0, hwd, ne_eq, h0, not_false_eq_true, b_rem, hc1, hc2] | fail)
    refine GC.now (hJ _ _ hi (by simp only [go_sem, hA, e5, e3, e4]) ⟨?_, ?_, ?_, ?_⟩) <;> try simp only [go_sem, hA, e5, e3, e4, hw]
theorem c_impl_Check (bs : List UInt8) (hn : bs.length ≤ 1000000000000000) (K : AV → AH → Prop) (hk : K (.one (.c (.int .i64 ((ckN bs : Int))))) []) : ACalls Tryz.prog 215 [(.one (.im (bs.map byteC)))] [] K := by
  have h0 : (65535 : Int) ≠ 0 := by decide
  refine acall_c Tryz.f215.results.toList mixed Tryz.func215 rfl rfl (by kernel_rfl) ?_
  intro Q hQ hQO
  simp only [go_sem]
  refine for_at (bs.length) [7, 8] (fun i f h => f 9 = (.one (.c (.int .i64 (i)))) ∧ f 3 = (.one (.c (.int .i64 (((ckTo bs i).1 : Int))))) ∧ f 4 = (.one (.c (.int .i64 (((ckTo bs i).2 : Int))))) ∧ h = []) (GC.now ?_) ?_
  · simp only [go_sem, nc_0, true_and]
    simp [ckTo]
  · rintro i f h J hi hA ⟨e9, e3, e4, rfl⟩ hJ
    simp only [go_sem] at hA
    simp only [go_sem, hA, e9, e3, e4]
    refine c_split (fun hb => ?_) (fun hb => ?_)
    rotate_left
    · simp only [go_sem, hb, hA, e9, e3, e4]
      obtain rfl := ge_len hb hi
      (try simp only [go_sem, hA, e9, e3, e4, ck_end]); repeat' (first | (with_reducible first | refine c_split ?_ ?_ | refine w_split ?_ ?_) <;> intro hb <;> try simp only [go_sem, hb, hA, e9, e3, e4, ck_end] | with_reducible refine hQ _ _ ?_ <;> simp only [Tryz.f215, go_sem, hA, e9, e3, e4, ck_end])
      exact hk
    have hi := lt_len hb
    have hw := wrap_nat i (by omega)
    have hil : (i : Int) < ((bs.length : Nat) : Int) := Int.ofNat_lt.2 hi
    have hg0 : (bs)[i]? = some ((bs)[i]) := List.getElem?_eq_getElem (by omega)
    simp only [go_sem, hb, hA, e9, e3, e4, hg0]
    try simp only [go_sem, hA, e9, e3, e4, hil, hg0]
    obtain ⟨hc1, hc2⟩ := ck_arith bs i _ hg0
    have hwd := u8_wrap bs[i]
    (try simp only [go_sem, hA, e9, e3, e4, hil, hg0, hwd, ne_eq, h0, not_false_eq_true, b_rem, hc1, hc2]); repeat' (first | (with_reducible first | refine c_split ?_ ?_ | refine w_split ?_ ?_) <;> intro hb <;> try simp only [go_sem, hb, hA, e9, e3, e4, hil, hg0, hwd, ne_eq, h0, not_false_eq_true, b_rem, hc1, hc2] | fail)
    refine GC.now (hJ _ _ hi (by simp only [go_sem, hA, e9, e3, e4]) ⟨?_, ?_, ?_, ?_⟩) <;> try simp only [go_sem, hA, e9, e3, e4, hw]
end Go.Proofs.YtlefjpbhbiajfaaGreat
end
section
namespace Go.Proofs.YtlefjpbhbiajfaaGreat
open Go.BL Go.RowKit
set_option linter.unusedVariables false
set_option linter.unusedSimpArgs false
set_option maxRecDepth 100000
attribute [local go_sem] fileC diskC fileC_len byteC
def readR : Option ByteArray → AV
  | some s => .tup [(.one (.c (.string (s)))), (.one (.c (.bool (true))))]
  | none => .tup [(.one (.c (.string (⟨#[]⟩)))), (.one (.c (.bool (false))))]
def SmallF (fs : List File) : Prop := ∀ f ∈ fs, f.safe.size ≤ 1000000000000000 ∧ f.late.size ≤ 1000000000000000
end Go.Proofs.YtlefjpbhbiajfaaGreat
end
section
namespace Go.Proofs.YtlefjpbhbiajfaaGreat
open Go.BL Go.RowKit
set_option linter.unusedVariables false
set_option linter.unusedSimpArgs false
set_option maxRecDepth 100000
attribute [local go_sem] byteC
theorem u8_wrapn (n : Nat) : IntKind.u8.wrap (n : Int) = ((UInt8.ofNat n).toNat : Int) := by
  rw [UInt8.toNat_ofNat']
  simp only [IntKind.wrap, IntKind.signed, IntKind.bits]
  simp
def ckBytes (n : Nat) : List UInt8 := [UInt8.ofNat n, UInt8.ofNat (n / 256), UInt8.ofNat (n / 65536), UInt8.ofNat (n / 16777216)]
theorem shr8 (n : Nat) : ((n : Int)).fdiv (2 ^ min (8 : Int).toNat 64) = ((n / 256 : Nat) : Int) := by
  rw [show (2 : Int) ^ min (8 : Int).toNat 64 = 256 by decide, Int.fdiv_eq_ediv_of_nonneg _ (by decide)]; rfl
theorem shr16 (n : Nat) : ((n : Int)).fdiv (2 ^ min (16 : Int).toNat 64) = ((n / 65536 : Nat) : Int) := by
  rw [show (2 : Int) ^ min (16 : Int).toNat 64 = 65536 by decide, Int.fdiv_eq_ediv_of_nonneg _ (by decide)]; rfl
theorem shr24 (n : Nat) : ((n : Int)).fdiv (2 ^ min (24 : Int).toNat 64) = ((n / 16777216 : Nat) : Int) := by
  rw [show (2 : Int) ^ min (24 : Int).toNat 64 = 16777216 by decide, Int.fdiv_eq_ediv_of_nonneg _ (by decide)]; rfl
theorem c_checkBytes (bs : List UInt8) (hn : bs.length ≤ 1000000000000000) (K : AV → AH → Prop) (hk : K (.one (.im ((ckBytes (ckN bs)).map byteC))) []) : ACalls Tryz.prog 145 [(.one (.im (bs.map byteC)))] [] K := by
  have h8 : (0 : Int) ≤ 8 := by decide
  have h16 : (0 : Int) ≤ 16 := by decide
  have h24 : (0 : Int) ≤ 24 := by decide
  refine acall_c Tryz.f145.results.toList mixed Tryz.func145 rfl rfl (by kernel_rfl) ?_
  intro Q hQ hQO
  simp only [go_sem]
  (try simp only [go_sem, b_shr, h8, h16, h24, shr8, shr16, shr24, u8_wrapn]); repeat' (first | (with_reducible first | refine c_split ?_ ?_ | refine w_split ?_ ?_) <;> intro hb <;> try simp only [go_sem, hb, b_shr, h8, h16, h24, shr8, shr16, shr24, u8_wrapn] | refine call_c (c_impl_Check bs hn _ ?_) <;> try simp only [go_sem, b_shr, h8, h16, h24, shr8, shr16, shr24, u8_wrapn] | with_reducible refine hQ _ _ ?_ <;> simp only [Tryz.f145, go_sem, b_shr, h8, h16, h24, shr8, shr16, shr24, u8_wrapn])
  exact hk
end Go.Proofs.YtlefjpbhbiajfaaGreat
end
section
namespace Go.Proofs.YtlefjpbhbiajfaaGreat
open Go.BL Go.RowKit
set_option linter.unusedVariables false
set_option linter.unusedSimpArgs false
set_option maxRecDepth 100000
attribute [local go_sem] byteC
def putN (x : Nat) : List UInt8 := if 127 < x then UInt8.ofNat (x % 128 + 128) :: putN (x / 128) else [UInt8.ofNat x]
termination_by x
decreasing_by omega
theorem putN_big {x : Nat} (h : 127 < x) : putN x = UInt8.ofNat (x % 128 + 128) :: putN (x / 128) := by rw [putN, if_pos h]
theorem putN_small {x : Nat} (h : ¬ 127 < x) : putN x = [UInt8.ofNat x] := by rw [putN, if_neg h]
def putNum (x : Int) : List UInt8 := if x < 0 then [] else putN x.toNat
theorem put_step {x out f : Nat} (hx : 127 < x) (hf : x < 128 ^ f) (h : out + f = 9) : ∃ f', f = f' + 1 ∧ x / 128 < 128 ^ f' ∧ out + 1 + f' = 9 := by
  obtain ⟨f', rfl⟩ : ∃ q, f = q + 1 := ⟨f - 1, by cases f; simp at hf; omega; omega⟩
  refine ⟨f', rfl, ?_, by omega⟩
  rw [Nat.pow_succ] at hf
  exact Nat.div_lt_of_lt_mul (by rw [Nat.mul_comm]; exact hf)
theorem put_less {x : Nat} (h : 127 < x) : x / 128 < x := by omega
theorem shr7 (x : Nat) : (x : Int).fdiv (2 ^ min (7 : Int).toNat 64) = ((x / 128 : Nat) : Int) := by
  rw [show (2 : Int) ^ min (7 : Int).toNat 64 = 128 by decide, Int.fdiv_eq_ediv_of_nonneg _ (by decide)]; rfl
theorem and127 (x : Nat) (hx : x < 9223372036854775808) : IntKind.i64.wrap (((BitVec.ofInt IntKind.i64.bits (x : Int) &&& BitVec.ofInt IntKind.i64.bits 127).toNat : Nat) : Int) = ((x % 128 : Nat) : Int) := by
  have h := and_nat x 127 hx (by omega)
  rw [Nat.and_two_pow_sub_one_eq_mod x 7] at h
  exact h
theorem or128 (x : Nat) : IntKind.i64.wrap (((BitVec.ofInt IntKind.i64.bits ((x % 128 : Nat) : Int) ||| BitVec.ofInt IntKind.i64.bits 128).toNat : Nat) : Int) = ((x % 128 + 128 : Nat) : Int) := by
  have h := or_nat (x % 128) 128 (by omega) (by omega)
  have h2 : x % 128 ||| 128 = x % 128 + 128 := or_add (x % 128) 1 1 (by omega)
  rw [h2] at h
  exact h
theorem c_impl_PutNum (x : Int) (hx : x < 9223372036854775808) (K : AV → AH → Prop) (hk : K (.one (.sl 0 0 0 (putNum x).length)) [.own 0 5 1 none ((putNum x).map byteC)]) : ACalls Tryz.prog 153 [(.one (.c (.int .i64 (x))))] [] K := by
  refine acall_c Tryz.f153.results.toList mixed Tryz.func153 rfl rfl (by kernel_rfl) ?_
  intro Q hQ hQO
  simp only [go_sem]
  (try simp only [go_sem]); repeat' (first | (with_reducible first | refine c_split ?_ ?_ | refine w_split ?_ ?_) <;> intro hb <;> try simp only [go_sem, hb] | fail)
  · rw [putNum, if_pos (of_decide_eq_true hb)] at hk
    refine hQO [0] _ _ (GC.step (Ghost.nlr 2 (by simp only [go_sem]) 5 1) (GC.now ?_)) <;> simp only [Tryz.f153, go_sem, List.nodup_cons, List.nodup_nil, List.mem_cons, List.not_mem_nil, or_false, not_false_eq_true, List.idxOf?_cons, List.idxOf?_nil, Option.map_none]
    exact hk
  rw [putNum, if_neg (of_decide_eq_false hb)] at hk
  obtain ⟨x0, rfl⟩ : ∃ q : Nat, x = (q : Int) := ⟨x.toNat, by have := of_decide_eq_false hb; omega⟩
  rw [Int.toNat_natCast] at hk
  have h07 : (0 : Int) ≤ 7 := by decide
  refine while_at (α := Nat × List UInt8 × Nat × Nat × Option Nat) (fun ⟨cur, out, n, g, cap⟩ => cur) [] (fun ⟨cur, out, n, g, cap⟩ f h => f 0 = (.one (.c (.int .i64 ((cur : Int))))) ∧ f 3 = .one (.sl 0 g 0 out.length) ∧ h = [.own g 5 1 cap (out.map byteC)] ∧ putN x0 = out ++ putN cur ∧ cur < 128 ^ n ∧ out.length + n = 9 ∧ cur < 9223372036854775808) (x0, [], 9, 0, some 0) (GC.now ?_) ?_
  · simp only [go_sem, nc_0, true_and]
    simp; omega
  · rintro ⟨cur, out, n, g, cap⟩ f h J hA ⟨e0, e3, rfl, hP⟩ hJ
    simp only [go_sem] at hA
    try dsimp only at hJ
    simp only [go_sem, hA, e0, e3]
    obtain ⟨hp1, hp2, hp3, hp4⟩ := hP
    refine c_split (fun hb => ?_) (fun hb => ?_)
    · have hbig : 127 < cur := by have := of_decide_eq_true hb; omega
      obtain ⟨n', rfl, q1, q2⟩ := put_step hbig hp2 hp3
      rw [putN_big hbig] at hp1
      have hand := and127 cur hp4
      have hor := or128 cur
      simp only [IntKind.bits] at hand hor
      (try simp only [go_sem, hA, e0, e3, hand, hor, b_and, b_or, b_shr, h07, shr7, u8_wrapn]); repeat' (first | (with_reducible first | refine c_split ?_ ?_ | refine w_split ?_ ?_) <;> intro hb <;> try simp only [go_sem, hb, hA, e0, e3, hand, hor, b_and, b_or, b_shr, h07, shr7, u8_wrapn] | fail)
      refine ap_end rfl (by simp) (by simp; omega) ?_
      (try simp only [go_sem, hA, e0, e3, b_shr, h07, shr7]); repeat' (first | (with_reducible first | refine c_split ?_ ?_ | refine w_split ?_ ?_) <;> intro hb <;> try simp only [go_sem, hb, hA, e0, e3, b_shr, h07, shr7] | fail)
      refine gc_trim 1 (by decide) (by simp only [go_sem]) (by simp only [go_sem]) (hJ (cur / 128, out ++ [UInt8.ofNat (cur % 128 + 128)], n', g + 1, none) _ _ (by exact put_less hbig) (by simp only [go_sem, hA, e0, e3]) ⟨?_, ?_, ?_, ?_⟩) <;> try simp only [go_sem, hA, e0, e3]
      exact ⟨by rw [hp1]; simp, q1, by simpa using q2, by omega⟩
    · have hsm : ¬ 127 < cur := by have := of_decide_eq_false hb; omega
      rw [putN_small hsm] at hp1
      (try simp only [go_sem, hA, e0, e3, u8_wrapn]); repeat' (first | (with_reducible first | refine c_split ?_ ?_ | refine w_split ?_ ?_) <;> intro hb <;> try simp only [go_sem, hb, hA, e0, e3, u8_wrapn] | fail)
      refine ap_end rfl (by simp) (by simp; omega) ?_
      (try simp only [go_sem, hA, e0, e3]); repeat' (first | (with_reducible first | refine c_split ?_ ?_ | refine w_split ?_ ?_) <;> intro hb <;> try simp only [go_sem, hb, hA, e0, e3] | fail)
      have hl : (putN x0).length = out.length + 1 := by rw [hp1]; simp
      rw [hl] at hk
      refine hQO [0] _ _ (GC.now ?_) <;> simp only [Tryz.f153, go_sem, List.nodup_cons, List.nodup_nil, List.mem_cons, List.not_mem_nil, or_false, not_false_eq_true, List.idxOf?_cons, List.idxOf?_nil, Option.map_none, ← hp1]
      exact hk
theorem c_spec_PutNum (x : Int) (hx : x < 9223372036854775808) (K : AV → AH → Prop) (hk : K (.one (.sl 0 0 0 (putNum x).length)) [.own 0 5 1 none ((putNum x).map byteC)]) : ACalls Tryz.prog 158 [(.one (.c (.int .i64 (x))))] [] K := by
  have h128 : (128 : Int) ≠ 0 := by decide
  refine acall_c Tryz.f158.results.toList mixed Tryz.func158 rfl rfl (by kernel_rfl) ?_
  intro Q hQ hQO
  simp only [go_sem]
  (try simp only [go_sem]); repeat' (first | (with_reducible first | refine c_split ?_ ?_ | refine w_split ?_ ?_) <;> intro hb <;> try simp only [go_sem, hb] | fail)
  · rw [putNum, if_pos (of_decide_eq_true hb)] at hk
    refine hQO [0] _ _ (GC.step (Ghost.cut (l := 0) rfl 0) (GC.now ?_)) <;> simp only [Tryz.f158, go_sem, List.nodup_cons, List.nodup_nil, List.mem_cons, List.not_mem_nil, or_false, not_false_eq_true, List.idxOf?_cons, List.idxOf?_nil, Option.map_none]
    exact hk
  rw [putNum, if_neg (of_decide_eq_false hb)] at hk
  obtain ⟨x0, rfl⟩ : ∃ q : Nat, x = (q : Int) := ⟨x.toNat, by have := of_decide_eq_false hb; omega⟩
  rw [Int.toNat_natCast] at hk
  refine while_at (α := Nat × List UInt8 × Nat × Nat × Option Nat) (fun ⟨cur, out, n, g, cap⟩ => cur) [] (fun ⟨cur, out, n, g, cap⟩ f h => f 0 = (.one (.c (.int .i64 ((cur : Int))))) ∧ f 3 = .one (.sl 0 g 0 out.length) ∧ h = [.own g 5 1 cap (out.map byteC)] ∧ putN x0 = out ++ putN cur ∧ cur < 128 ^ n ∧ out.length + n = 9 ∧ cur < 9223372036854775808) (x0, [], 9, 0, some 0) (GC.now ?_) ?_
  · simp only [go_sem, nc_0, true_and]
    simp; omega
  · rintro ⟨cur, out, n, g, cap⟩ f h J hA ⟨e0, e3, rfl, hP⟩ hJ
    simp only [go_sem] at hA
    try dsimp only at hJ
    simp only [go_sem, hA, e0, e3]
    obtain ⟨hp1, hp2, hp3, hp4⟩ := hP
    refine c_split (fun hb => ?_) (fun hb => ?_)
    · have hbig : 127 < cur := by have := of_decide_eq_true hb; omega
      obtain ⟨n', rfl, q1, q2⟩ := put_step hbig hp2 hp3
      rw [putN_big hbig] at hp1
      have hm := nat_tmod128 cur
      have hw1 : wrap64 (((cur % 128 : Nat) : Int) + 128) = ((cur % 128 + 128 : Nat) : Int) := by unfold wrap64; omega
      have hd : wrap64 ((cur : Int).tdiv 128) = ((cur / 128 : Nat) : Int) := by rw [Int.tdiv_eq_ediv_of_nonneg (by omega)]; unfold wrap64; omega
      (try simp only [go_sem, hA, e0, e3, ne_eq, h128, not_false_eq_true, b_rem, b_quo, hm, hw1, u8_wrapn]); repeat' (first | (with_reducible first | refine c_split ?_ ?_ | refine w_split ?_ ?_) <;> intro hb <;> try simp only [go_sem, hb, hA, e0, e3, ne_eq, h128, not_false_eq_true, b_rem, b_quo, hm, hw1, u8_wrapn] | fail)
      refine ap_end rfl (by simp) (by simp; omega) ?_
      (try simp only [go_sem, hA, e0, e3, ne_eq, h128, not_false_eq_true, b_rem, b_quo, hd]); repeat' (first | (with_reducible first | refine c_split ?_ ?_ | refine w_split ?_ ?_) <;> intro hb <;> try simp only [go_sem, hb, hA, e0, e3, ne_eq, h128, not_false_eq_true, b_rem, b_quo, hd] | fail)
      refine gc_trim 1 (by decide) (by simp only [go_sem]) (by simp only [go_sem, hd]) (hJ (cur / 128, out ++ [UInt8.ofNat (cur % 128 + 128)], n', g + 1, none) _ _ (by exact put_less hbig) (by simp only [go_sem, hA, e0, e3]) ⟨?_, ?_, ?_, ?_⟩) <;> try simp only [go_sem, hA, e0, e3, hd]
      exact ⟨by rw [hp1]; simp, q1, by simpa using q2, by omega⟩
    · have hsm : ¬ 127 < cur := by have := of_decide_eq_false hb; omega
      rw [putN_small hsm] at hp1
      (try simp only [go_sem, hA, e0, e3, u8_wrapn]); repeat' (first | (with_reducible first | refine c_split ?_ ?_ | refine w_split ?_ ?_) <;> intro hb <;> try simp only [go_sem, hb, hA, e0, e3, u8_wrapn] | fail)
      refine ap_end rfl (by simp) (by simp; omega) ?_
      (try simp only [go_sem, hA, e0, e3]); repeat' (first | (with_reducible first | refine c_split ?_ ?_ | refine w_split ?_ ?_) <;> intro hb <;> try simp only [go_sem, hb, hA, e0, e3] | fail)
      have hl : (putN x0).length = out.length + 1 := by rw [hp1]; simp
      rw [hl] at hk
      refine hQO [0] _ _ (GC.now ?_) <;> simp only [Tryz.f158, go_sem, List.nodup_cons, List.nodup_nil, List.mem_cons, List.not_mem_nil, or_false, not_false_eq_true, List.idxOf?_cons, List.idxOf?_nil, Option.map_none, ← hp1]
      exact hk
theorem im_row {K : AV → AH → Prop} (bs : List UInt8) (hk : K (.one (.im (bs.map byteC))) []) : K (retA [.own 0 5 1 none (bs.map byteC)] (.one (.sl 0 0 0 bs.length))) [] := by
  have : retA [AO.own 0 5 1 none (bs.map byteC)] (.one (.sl 0 0 0 bs.length)) = (.one (.im (bs.map byteC))) := by
    simp only [retA, imA, imV, objR_at, List.getElem?_cons_zero, obR_own, Nat.zero_add, List.drop_zero, byteC_tk, byteC_clz, List.length_map, Nat.le_refl, if_true]
  rw [this]; exact hk
theorem c_impl_PutNum_im (x : Int) (hx : x < 9223372036854775808) (K : AV → AH → Prop) (hk : K (.one (.im ((putNum x).map byteC))) []) : ACalls Tryz.prog 153 [(.one (.c (.int .i64 (x))))] [] K := acall_im (c_impl_PutNum x hx _ (im_row _ hk))
theorem c_Grow (n : Nat) (h : AH) (h0 : 0 < n) (h1 : n ≤ 1000000000000) (K : AV → AH → Prop) (hk : K (.one (.sl h.length 0 0 0)) (h ++ [.own 0 5 1 none (List.replicate n [.c (.int .u8 (0))])])) : ACalls Tryz.prog 262 [.one .nl, (.one (.c (.int .i64 ((n : Int)))))] h K := by
  have hw : wrap64 ((n : Int) - 0) = n := by unfold wrap64; omega
  have h2 : decide ((n : Int) < 0) = false := decide_eq_false (by omega)
  have h3 : decide ((0 : Int) < (n : Int)) = true := decide_eq_true (by omega)
  have h4 : (0 : Int) ≤ (n : Int) := by omega
  have h5 : (n : Int) ≤ 9223372036854775807 := by omega
  have h6 : n * 1 ≤ 281474976710656 := by omega
  have hnw : ∀ a : AO, (h ++ [a])[h.length]? = some a := fun a => by simp
  have p0 : (0 : Int) ≤ 0 := Int.le_refl _
  have t0 : Int.toNat 0 = 0 := rfl
  refine acall_w Tryz.f262.results.toList mixed Tryz.func262 rfl rfl (by kernel_rfl) ?_
  intro Q hQ
  simp only [go_sem]
  have hw0 : wrap64 ((0 : Int) - 0) = 0 := by unfold wrap64; omega
  (try simp only [go_sem, hw, hw0, h2, h3]); repeat' (first | (with_reducible first | refine c_split ?_ ?_ | refine w_split ?_ ?_) <;> intro hb <;> try simp only [go_sem, hb, hw, hw0, h2, h3] | fail)
  rw [sl_nl (he := (by kernel_rfl : elemA Tryz.prog 79 = some 5)) (hn := (by kernel_rfl : sizeA Tryz.prog 5 = some 1)) (h1 := rfl) (h2 := rfl)]
  (try simp only [go_sem, Option.isSome_none, srB_i, h4, h5, h6]); repeat' (first | (with_reducible first | refine c_split ?_ ?_ | refine w_split ?_ ?_) <;> intro hb <;> try simp only [go_sem, hb, Option.isSome_none, srB_i, h4, h5, h6] | fail)
  refine ap_nl (by simp; omega) ?_
  (try simp only [go_sem, Nat.zero_le, p0, t0, hnw]); repeat' (first | (with_reducible first | refine c_split ?_ ?_ | refine w_split ?_ ?_) <;> intro hb <;> try simp only [go_sem, hb, Nat.zero_le, p0, t0, hnw] | fail)
  refine hQ _ _ (GC.now ?_) <;> simp only [retW, Tryz.f262, go_sem]
  exact hk
def rowC (bs : List UInt8) : List CV := [.im (bs.map byteC)]
def lenTo (xss : List (List UInt8)) : Nat → Nat
  | 0 => 0
  | i + 1 => lenTo xss i + (xss[i]?.getD []).length
theorem lenTo_eq (xss : List (List UInt8)) : ∀ i, lenTo xss i = ((xss.take i).flatten).length
  | 0 => rfl
  | i + 1 => by
    rw [lenTo, lenTo_eq xss i, List.take_add_one]
    cases xss[i]? <;> simp
theorem lenTo_mono (xss : List (List UInt8)) : ∀ {i j : Nat}, i ≤ j → lenTo xss i ≤ lenTo xss j := fun {i j} h => by
  induction j with
  | zero => rw [show i = 0 by omega]; exact Nat.le_refl _
  | succ j ih =>
    rcases Nat.lt_or_ge i (j + 1) with h' | h'
    · have := ih (by omega)
      rw [lenTo]; omega
    · rw [show i = j + 1 by omega]; exact Nat.le_refl _
theorem cset_fill (A : List UInt8) (n m : Nat) (bs : List UInt8) (z : List CV) (h : A.length + bs.length + m = n) : cset (A.map byteC ++ List.replicate (n - A.length) z) A.length (bs.map byteC) = (A ++ bs).map byteC ++ List.replicate (n - (A ++ bs).length) z := by
  apply List.ext_getElem?
  intro j
  rw [cset_get _ _ _ _ (by simp; omega)]
  simp only [List.length_map]
  by_cases hc : A.length ≤ j ∧ j < A.length + bs.length
  · rw [if_pos hc, List.map_append, List.append_assoc, List.getElem?_append_right (by simp; omega), List.getElem?_append_left (by simp; omega)]
    congr 1; simp
  · rw [if_neg hc]
    by_cases h1 : j < A.length
    · rw [List.getElem?_append_left (by simpa using h1), List.map_append, List.append_assoc, List.getElem?_append_left (by simpa using h1)]
    · rw [List.getElem?_append_right (by simp; omega), List.getElem?_append_right (by simp; omega), List.getElem?_replicate, List.getElem?_replicate]
      simp only [List.length_map, List.length_append]
      by_cases h2 : j < n
      · rw [if_pos (by omega), if_pos (by omega)]
      · rw [if_neg (by omega), if_neg (by omega)]
theorem fee_rep (n : Nat) : freeE (List.replicate n [.c (.int .u8 (0))]) = true := by
  unfold freeE
  rw [List.all_eq_true]
  intro x hx
  rw [List.eq_of_mem_replicate hx]
  rfl
theorem c_Concat (xss : List (List UInt8)) (hn : xss.length ≤ 1000000000) (h0 : 0 < lenTo xss xss.length) (h1 : lenTo xss xss.length ≤ 1000000000000) (K : AV → AH → Prop) (hk : K (.one (.sl 0 0 0 xss.flatten.length)) [.own 0 5 1 none (xss.flatten.map byteC)]) : ACalls Tryz.prog 217 [(.one (.im (xss.map rowC)))] [] K := by
  have hlt : lenTo xss xss.length = xss.flatten.length := by rw [lenTo_eq, List.take_length]
  refine acall_c Tryz.f217.results.toList mixed Tryz.func217 rfl rfl (by kernel_rfl) ?_
  intro Q hQ hQO
  simp only [go_sem, rowC]
  refine for_at (xss.length) [0, 9, 10] (fun i f h => f 11 = (.one (.c (.int .i64 (i)))) ∧ f 3 = (.one (.c (.int .i64 ((lenTo xss i : Int))))) ∧ h = []) (GC.now ?_) ?_
  · simp only [go_sem, nc_0, true_and, rowC]
    simp [lenTo]
  · rintro i f h J hi hA ⟨e11, e3, rfl⟩ hJ
    simp only [go_sem, rowC] at hA
    simp only [go_sem, hA, e11, e3, rowC]
    refine c_split (fun hb => ?_) (fun hb => ?_)
    rotate_left
    · simp only [go_sem, hb, hA, e11, e3, rowC]
      obtain rfl := ge_len hb hi
      (try simp only [go_sem, hA, e11, e3, rowC, List.nil_append, List.length_nil, fee_rep]); repeat' (first | (with_reducible first | refine c_split ?_ ?_ | refine w_split ?_ ?_) <;> intro hb <;> try simp only [go_sem, hb, hA, e11, e3, rowC, List.nil_append, List.length_nil, fee_rep] | refine call_n (c_Grow (lenTo xss xss.length) [] h0 h1 _ ?_) <;> try simp only [go_sem, hA, e11, e3, rowC, List.nil_append, List.length_nil, fee_rep] | fail)
      refine for_at (xss.length) [25, 26] (fun i f h => f 27 = (.one (.c (.int .i64 (i)))) ∧ f 6 = .one (.sl 0 0 0 (lenTo xss i)) ∧ h = [.own 0 5 1 none (((xss.take i).flatten).map byteC ++ List.replicate (lenTo xss xss.length - lenTo xss i) [.c (.int .u8 (0))])]) (GC.now ?_) ?_
      · simp only [go_sem, nc_0, true_and, rowC]
        simp [lenTo]; exact .inr rfl
      · rintro i f h J hi hA ⟨e27, e6, rfl⟩ hJ
        simp only [go_sem, rowC] at hA
        simp only [go_sem, hA, e27, e6, rowC]
        refine c_split (fun hb => ?_) (fun hb => ?_)
        rotate_left
        · simp only [go_sem, hb, hA, e27, e6, rowC]
          obtain rfl := ge_len hb hi
          (try simp only [go_sem, hA, e27, e6, rowC]); repeat' (first | (with_reducible first | refine c_split ?_ ?_ | refine w_split ?_ ?_) <;> intro hb <;> try simp only [go_sem, hb, hA, e27, e6, rowC] | fail)
          refine hQO [0] _ _ (GC.now ?_) <;> simp only [Tryz.f217, go_sem, List.nodup_cons, List.nodup_nil, List.mem_cons, List.not_mem_nil, or_false, not_false_eq_true, List.idxOf?_cons, List.idxOf?_nil, Option.map_none, List.take_length, Nat.sub_self, List.replicate_zero, List.append_nil, hlt]
          exact hk
        have hi := lt_len hb
        have hw := wrap_nat i (by omega)
        have hil : (i : Int) < ((xss.length : Nat) : Int) := Int.ofNat_lt.2 hi
        have hg0 : (xss)[i]? = some ((xss)[i]) := List.getElem?_eq_getElem (by omega)
        simp only [go_sem, hb, hA, e27, e6, rowC, hg0]
        try simp only [go_sem, hA, e27, e6, rowC, hil, hg0]
        have hm := lenTo_mono xss (show i + 1 ≤ xss.length by omega)
        have hs : lenTo xss (i + 1) = lenTo xss i + xss[i].length := by rw [lenTo, hg0]; rfl
        (try simp only [go_sem, hA, e27, e6, rowC, hil, hg0]); repeat' (first | (with_reducible first | refine c_split ?_ ?_ | refine w_split ?_ ?_) <;> intro hb <;> try simp only [go_sem, hb, hA, e27, e6, rowC, hil, hg0] | fail)
        have hle := lenTo_eq xss i
        have hl1 : ((xss.take i).flatten).length + xss[i].length ≤ lenTo xss xss.length := by omega
        have hfl : (xss.take (i + 1)).flatten = (xss.take i).flatten ++ xss[i] := by rw [List.take_add_one, hg0, Option.toList_some, List.flatten_append, List.flatten_cons, List.flatten_nil, List.append_nil]
        refine ap_in rfl (by simp only [List.length_map, List.length_append, List.length_replicate]; omega) ?_
        have hcs := cset_fill ((xss.take i).flatten) (lenTo xss xss.length) (lenTo xss xss.length - lenTo xss (i + 1)) xss[i] [.c (.int .u8 (0))] (by omega)
        rw [← hfl, ← lenTo_eq xss (i + 1), ← hle] at hcs
        (try simp only [go_sem, hA, e27, e6, rowC, hil, hg0, Nat.zero_add, hcs, List.length_map, ← hs]); repeat' (first | (with_reducible first | refine c_split ?_ ?_ | refine w_split ?_ ?_) <;> intro hb <;> try simp only [go_sem, hb, hA, e27, e6, rowC, hil, hg0, Nat.zero_add, hcs, List.length_map, ← hs] | fail)
        refine GC.now (hJ _ _ hi (by simp only [go_sem, hA, e27, e6, rowC]) ⟨?_, ?_, ?_⟩) <;> try simp only [go_sem, hA, e27, e6, rowC, hw]
    have hi := lt_len hb
    have hw := wrap_nat i (by omega)
    have hil : (i : Int) < ((xss.length : Nat) : Int) := Int.ofNat_lt.2 hi
    have hg0 : (xss)[i]? = some ((xss)[i]) := List.getElem?_eq_getElem (by omega)
    simp only [go_sem, hb, hA, e11, e3, rowC, hg0]
    try simp only [go_sem, hA, e11, e3, rowC, hil, hg0]
    have hm := lenTo_mono xss (show i + 1 ≤ xss.length by omega)
    have hs : lenTo xss (i + 1) = lenTo xss i + xss[i].length := by rw [lenTo, hg0]; rfl
    have hw2 : wrap64 ((lenTo xss i : Int) + (xss[i].length : Int)) = ((lenTo xss (i + 1) : Nat) : Int) := by rw [hs]; unfold wrap64; omega
    have hng : decide (((lenTo xss (i + 1) : Nat) : Int) < 0) = false := decide_eq_false (by omega)
    (try simp only [go_sem, hA, e11, e3, rowC, hil, hg0, hw2, hng]); repeat' (first | (with_reducible first | refine c_split ?_ ?_ | refine w_split ?_ ?_) <;> intro hb <;> try simp only [go_sem, hb, hA, e11, e3, rowC, hil, hg0, hw2, hng] | fail)
    refine GC.now (hJ _ _ hi (by simp only [go_sem, hA, e11, e3, rowC]) ⟨?_, ?_, ?_⟩) <;> try simp only [go_sem, hA, e11, e3, rowC, hw]
theorem c_Concat_im (xss : List (List UInt8)) (hn : xss.length ≤ 1000000000) (h0 : 0 < lenTo xss xss.length) (h1 : lenTo xss xss.length ≤ 1000000000000) (K : AV → AH → Prop) (hk : K (.one (.im (xss.flatten.map byteC))) []) : ACalls Tryz.prog 217 [(.one (.im (xss.map rowC)))] [] K := acall_im (c_Concat xss hn h0 h1 _ (im_row _ hk))
def sealS (bs : List UInt8) : List UInt8 × Bool := if 9000 < bs.length then ([], false) else (putNum bs.length ++ bs ++ ckBytes (ckN bs), true)
def sealR (s : List UInt8 × Bool) : AV := .tup [(.one (.im (s.1.map byteC))), (.one (.c (.bool (s.2))))]
theorem putN_len (x : Nat) : 0 < (putN x).length := by rw [putN]; split <;> simp
theorem putNum_nat (n : Nat) : putNum (n : Int) = putN n := by rw [putNum, if_neg (by omega), Int.toNat_natCast]
theorem putN_le : ∀ (f x : Nat), x < 128 ^ f → (putN x).length ≤ f + 1
  | 0, x, h => by rw [putN_small (by simp at h; omega)]; simp
  | f + 1, x, h => by
    by_cases hb : 127 < x
    · rw [putN_big hb]
      have := putN_le f (x / 128) (Nat.div_lt_of_lt_mul (by rw [Nat.pow_succ] at h; rw [Nat.mul_comm]; exact h))
      simp; omega
    · rw [putN_small hb]; simp
theorem putNum_le (n : Nat) (h : n < 9223372036854775808) : (putNum (n : Int)).length ≤ 10 := by
  rw [putNum_nat]; exact putN_le 9 n (by rw [show (128 : Nat) ^ 9 = 9223372036854775808 by decide]; exact h)
theorem c_impl_Seal (bs : List UInt8) (hn : bs.length ≤ 1000000000000) (K : AV → AH → Prop) (hk : K (sealR (sealS bs)) []) : ACalls Tryz.prog 152 [(.one (.im (bs.map byteC)))] [] K := by
  refine acall_c Tryz.f152.results.toList mixed Tryz.func152 rfl rfl (by kernel_rfl) ?_
  intro Q hQ hQO
  simp only [go_sem]
  (try simp only [go_sem]); repeat' (first | (with_reducible first | refine c_split ?_ ?_ | refine w_split ?_ ?_) <;> intro hb <;> try simp only [go_sem, hb] | fail)
  · have hb' : 9000 < bs.length := by have := of_decide_eq_true hb; omega
    rw [sealS, if_pos hb'] at hk
    (try simp only [go_sem]); repeat' (first | (with_reducible first | refine c_split ?_ ?_ | refine w_split ?_ ?_) <;> intro hb <;> try simp only [go_sem, hb] | with_reducible refine hQ _ _ ?_ <;> simp only [Tryz.f152, go_sem])
    exact hk
  · have hb' : ¬ 9000 < bs.length := by have := of_decide_eq_false hb; omega
    rw [sealS, if_neg hb'] at hk
    (try simp only [go_sem]); repeat' (first | (with_reducible first | refine c_split ?_ ?_ | refine w_split ?_ ?_) <;> intro hb <;> try simp only [go_sem, hb] | (first | refine call_c (c_checkBytes bs (by omega) _ ?_) | refine call_c (c_impl_PutNum_im bs.length (by omega) _ ?_) | fail) <;> try simp only [go_sem] | fail)
    refine call_c (c_Concat_im [putNum bs.length, bs, ckBytes (ckN bs)] (Nat.le_of_ble_eq_true rfl) ?_ ?_ _ ?_)
    · rw [lenTo_eq]; simp [putNum_nat]; have := putN_len bs.length; omega
    · rw [lenTo_eq]; have := putNum_le bs.length (by omega); simp [ckBytes]; omega
    simp only [List.flatten_cons, List.flatten_nil, List.append_nil, ← List.append_assoc]
    (try simp only [go_sem]); repeat' (first | (with_reducible first | refine c_split ?_ ?_ | refine w_split ?_ ?_) <;> intro hb <;> try simp only [go_sem, hb] | with_reducible refine hQ _ _ ?_ <;> simp only [Tryz.f152, go_sem])
    exact hk
theorem c_spec_Seal (bs : List UInt8) (hn : bs.length ≤ 1000000000000) (K : AV → AH → Prop) (hk : K (sealR (sealS bs)) []) : ACalls Tryz.prog 157 [(.one (.im (bs.map byteC)))] [] K := by
  refine acall_c Tryz.f157.results.toList mixed Tryz.func157 rfl rfl (by kernel_rfl) ?_
  intro Q hQ hQO
  simp only [go_sem]
  (try simp only [go_sem]); repeat' (first | (with_reducible first | refine c_split ?_ ?_ | refine w_split ?_ ?_) <;> intro hb <;> try simp only [go_sem, hb] | fail)
  · have hb' : 9000 < bs.length := by have := of_decide_eq_true hb; omega
    rw [sealS, if_pos hb'] at hk
    (try simp only [go_sem]); repeat' (first | (with_reducible first | refine c_split ?_ ?_ | refine w_split ?_ ?_) <;> intro hb <;> try simp only [go_sem, hb] | with_reducible refine hQ _ _ ?_ <;> simp only [Tryz.f157, go_sem])
    exact hk
  · have hb' : ¬ 9000 < bs.length := by have := of_decide_eq_false hb; omega
    rw [sealS, if_neg hb'] at hk
    (try simp only [go_sem]); repeat' (first | (with_reducible first | refine c_split ?_ ?_ | refine w_split ?_ ?_) <;> intro hb <;> try simp only [go_sem, hb] | (first | refine call_c (c_spec_Check bs (by omega) _ ?_) | refine call_c (c_spec_PutNum bs.length (by omega) _ ?_) | fail) <;> try simp only [go_sem] | fail)
    have hpl := putNum_le bs.length (by omega)
    refine ap_end rfl (by simp) (by simp; omega) ?_
    have h8 : (0 : Int) ≤ 8 := by decide
    have h16 : (0 : Int) ≤ 16 := by decide
    have h24 : (0 : Int) ≤ 24 := by decide
    (try simp only [go_sem, b_shr, h8, h16, h24, shr8, shr16, shr24, u8_wrapn]); repeat' (first | (with_reducible first | refine c_split ?_ ?_ | refine w_split ?_ ?_) <;> intro hb <;> try simp only [go_sem, hb, b_shr, h8, h16, h24, shr8, shr16, shr24, u8_wrapn] | fail)
    refine ap_end rfl (by simp) (by simp; omega) ?_
    (try simp only [go_sem]); repeat' (first | (with_reducible first | refine c_split ?_ ?_ | refine w_split ?_ ?_) <;> intro hb <;> try simp only [go_sem, hb] | with_reducible refine hQ _ _ ?_ <;> simp only [Tryz.f157, go_sem])
    have hrow : List.map byteC (putNum bs.length) ++ List.map byteC bs ++ (ckBytes (ckN bs)).map byteC = (putNum bs.length ++ bs ++ ckBytes (ckN bs)).map byteC := by simp
    have hlen : (putNum bs.length).length + bs.length + 4 = (putNum bs.length ++ bs ++ ckBytes (ckN bs)).length := by rw [List.length_append, List.length_append]; rfl
    simp only [ckBytes, List.map_cons, List.map_nil] at hrow hlen
    simp only [byteC] at hrow
    simp only [hrow, hlen]
    rw [byteC_tk, byteC_clz]
    exact hk
end Go.Proofs.YtlefjpbhbiajfaaGreat
end
section
namespace Go.Proofs.YtlefjpbhbiajfaaGreat
open Go.BL Go.RowKit
set_option linter.unusedVariables false
set_option linter.unusedSimpArgs false
set_option maxRecDepth 100000
theorem d219_0_LPack : DrawL Tryz.prog 0 22 (.on [(0, true, true), (1, true, true), (2, true, true), (3, true, false), (4, true, true), (5, true, false), (6, true, false), (7, true, false), (8, true, false), (9, false, false), (10, false, false), (11, false, false), (12, false, false), (13, false, false), (14, false, false), (15, false, true)] .nil) := draw_L
theorem d219_1_LPack : DrawL Tryz.prog 0 50 (.on [(0, true, true), (1, true, true), (2, true, true), (3, true, false), (4, true, true), (5, true, false), (6, true, false), (7, true, false), (8, true, false), (9, false, false), (10, false, false), (11, false, false), (12, false, false), (13, false, false), (14, false, false), (15, false, true)] .nil) := draw_L
theorem d219_2_LPack : DrawL Tryz.prog 0 78 (.on [(0, true, true), (1, true, true), (2, true, true), (3, true, false), (4, true, true), (5, true, false), (6, true, false), (7, true, false), (8, true, false), (9, true, false), (10, true, false), (11, true, false), (12, true, false), (13, true, false), (14, true, false), (15, false, false), (16, false, false), (17, false, false), (18, false, false), (19, false, false), (20, false, false), (21, false, false), (22, false, true)] .nil) := draw_L
attribute [local go_sem] accountC balC lotC tradeC booksC intC byteC
def accN (x : Account) : List Int := [x.no, x.kind]
def balN (x : Bal) : List Int := [x.account, x.instr, wrap64 (x.amount + 1000000000000000)]
def lotN (x : Lot) : List Int := [x.account, x.instr, x.no, x.qty, x.cost]
def trdN (x : Trade) : List Int := [x.no, x.buyer, x.seller, x.paper, x.qty, x.cash, x.price, x.state]
def numsK {α : Type} (pre : List Int) (f : α → List Int) (xs : List α) (j : Nat) : List Int := pre ++ (xs.take j).flatMap f
theorem numsK_0 {α : Type} (pre : List Int) (f : α → List Int) (xs : List α) : numsK pre f xs 0 = pre := by simp [numsK]
theorem numsK_s {α : Type} (pre : List Int) (f : α → List Int) (xs : List α) (j : Nat) (hj : j < xs.length) : numsK pre f xs (j + 1) = numsK pre f xs j ++ f xs[j] := by
  rw [numsK, List.take_succ_eq_append_getElem hj, List.flatMap_append, numsK, List.append_assoc]; simp
theorem numsK_len {α : Type} (pre : List Int) (f : α → List Int) (xs : List α) (w : Nat) (hf : ∀ x, (f x).length = w) : ∀ j, (numsK pre f xs j).length ≤ pre.length + w * xs.length
  | 0 => by rw [numsK_0]; omega
  | j + 1 => by
    rw [numsK, List.length_append, List.length_flatMap]
    have : ∀ ys : List α, (ys.map fun x => (f x).length).sum = w * ys.length := by
      intro ys
      induction ys with
      | nil => simp
      | cons y r ih => rw [List.map_cons, List.sum_cons, ih, hf, List.length_cons, Nat.mul_add]; omega
    rw [this]
    have h2 : w * (xs.take (j + 1)).length ≤ w * xs.length := Nat.mul_le_mul_left _ (by rw [List.length_take]; omega)
    omega
theorem num_room {s : List Int} (h : s.length ≤ 100000000) {x : List (List CV)} (hx : x.length ≤ 8) : ((s.map intC).length + x.length) * 8 ≤ 140737488355328 := by rw [List.length_map]; omega
def preN0 (b : Books) : List Int := [(b.accounts.length : Int)]
def preN1 (b : Books) : List Int := numsK (preN0 b) accN b.accounts b.accounts.length ++ [(b.instrs.length : Int)]
def preN2 (b : Books) : List Int := numsK (preN1 b) accN b.instrs b.instrs.length ++ [(b.bals.length : Int)]
def preN3 (b : Books) : List Int := numsK (preN2 b) balN b.bals b.bals.length ++ [(b.lots.length : Int)]
def preN4 (b : Books) : List Int := numsK (preN3 b) lotN b.lots b.lots.length ++ [(b.trades.length : Int)]
def booksN (b : Books) : List Int := numsK (preN4 b) trdN b.trades b.trades.length ++ [b.lot]
theorem pre_len {b : Books} (h : booksOk b = true) : (preN0 b).length ≤ 2000 ∧ (preN1 b).length ≤ 2000 ∧ (preN2 b).length ≤ 2000 ∧ (preN3 b).length ≤ 2000 ∧ (preN4 b).length ≤ 2000 ∧ (booksN b).length ≤ 2000 ∧ (∀ j, (numsK (preN0 b) accN b.accounts j).length ≤ 2000) ∧ (∀ j, (numsK (preN1 b) accN b.instrs j).length ≤ 2000) ∧ (∀ j, (numsK (preN2 b) balN b.bals j).length ≤ 2000) ∧ (∀ j, (numsK (preN3 b) lotN b.lots j).length ≤ 2000) ∧ (∀ j, (numsK (preN4 b) trdN b.trades j).length ≤ 2000) := by
  obtain ⟨p1, p2, p3, p4, p5⟩ := booksOk_parts h
  have q1 := okL_len p1
  have q2 := okL_len p2
  have q3 := (balsOk_amt p3).2
  have q4 : b.lots.length ≤ 120 := by
    rw [lotsOk, Bool.and_eq_true] at p4
    have := okL_len p4.1
    omega
  have q5 := okL_len p5
  have l0 : (preN0 b).length = 1 := rfl
  have k0 := numsK_len (preN0 b) accN b.accounts 2 (fun _ => rfl)
  have l1 : (preN1 b).length = (numsK (preN0 b) accN b.accounts b.accounts.length).length + 1 := by rw [preN1, List.length_append]; rfl
  have m0 := k0 b.accounts.length
  have k1 := numsK_len (preN1 b) accN b.instrs 2 (fun _ => rfl)
  have l2 : (preN2 b).length = (numsK (preN1 b) accN b.instrs b.instrs.length).length + 1 := by rw [preN2, List.length_append]; rfl
  have m1 := k1 b.instrs.length
  have k2 := numsK_len (preN2 b) balN b.bals 3 (fun _ => rfl)
  have l3 : (preN3 b).length = (numsK (preN2 b) balN b.bals b.bals.length).length + 1 := by rw [preN3, List.length_append]; rfl
  have m2 := k2 b.bals.length
  have k3 := numsK_len (preN3 b) lotN b.lots 5 (fun _ => rfl)
  have l4 : (preN4 b).length = (numsK (preN3 b) lotN b.lots b.lots.length).length + 1 := by rw [preN4, List.length_append]; rfl
  have m3 := k3 b.lots.length
  have k4 := numsK_len (preN4 b) trdN b.trades 8 (fun _ => rfl)
  have m4 := k4 b.trades.length
  have l5 : (booksN b).length = (numsK (preN4 b) trdN b.trades b.trades.length).length + 1 := by rw [booksN, List.length_append]; rfl
  refine ⟨by omega, by omega, by omega, by omega, by omega, by omega, ?_, ?_, ?_, ?_, ?_⟩
  · intro j; have := k0 j; omega
  · intro j; have := k1 j; omega
  · intro j; have := k2 j; omega
  · intro j; have := k3 j; omega
  · intro j; have := k4 j; omega
theorem c_l13Nums (b : Books) (hs : Small b) (hok : booksOk b = true) (K : AV → AH → Prop) (hk : K (.one (.im ((booksN b).map intC))) []) : ACalls Tryz.prog 219 [.agg (booksC b)] [] K := by
  have lens := (pre_len hok).2.2.2.2.2.2
  have l0 : b.accounts.length ≤ 1000000000 := hs.ha
  have l1 : b.instrs.length ≤ 1000000000 := hs.hi
  have l2 : b.bals.length ≤ 1000000000 := hs.hb
  have l3 : b.lots.length ≤ 1000000000 := hs.hl
  have l4 : b.trades.length ≤ 1000000000 := hs.ht
  refine acall_c Tryz.f219.results.toList mixed Tryz.func219 rfl rfl (by kernel_rfl) ?_
  intro Q hQ hQO
  simp only [go_sem]
  (try simp only [go_sem]); repeat' (first | (with_reducible first | refine c_split ?_ ?_ | refine w_split ?_ ?_ | refine tw_split ?_ ?_) <;> intro hb <;> try simp only [go_sem, hb] | (first | with_reducible refine d219_0_LPack (by with_unfolding_all rfl) (by kernel_rfl) ?_ | with_reducible refine d219_1_LPack (by with_unfolding_all rfl) (by kernel_rfl) ?_ | with_reducible refine d219_2_LPack (by with_unfolding_all rfl) (by kernel_rfl) ?_ | fail) <;> try simp only [go_sem] | fail)
  have z0 := lens.1
  refine while_at (α := Nat × Nat × Option Nat) (fun ⟨j0, g0, c0⟩ => b.accounts.length - j0) [1] (fun ⟨j0, g0, c0⟩ f h => f 4 = (.one (.c (.int .i64 ((j0 : Int))))) ∧ f 3 = .one (.sl 1 g0 0 (numsK (preN0 b) accN b.accounts j0).length) ∧ h = [.own 0 31 6 (some 1) [booksC b], .own g0 3 1 c0 ((numsK (preN0 b) accN b.accounts j0).map intC)] ∧ j0 ≤ b.accounts.length) (0, 0, some 1) (GC.now ?_) ?_
  · simp only [go_sem, nc_0, true_and]
    rw [numsK_0]; exact ⟨rfl, rfl, Nat.zero_le _⟩
  · rintro ⟨j0, g0, c0⟩ f h J hA ⟨e4, e3, rfl, hP⟩ hJ
    simp only [go_sem] at hA
    try dsimp only at hJ
    simp only [go_sem, hA, e4, e3]
    have hr := fun (x : List (List CV)) hx => num_room (x := x) (Nat.le_trans (z0 j0) (by decide : 2000 ≤ 100000000)) hx
    by_cases hj : j0 < b.accounts.length
    · have hdl : decide ((j0 : Int) < (b.accounts.length : Int)) = true := decide_eq_true (Int.ofNat_lt.2 hj)
      have hg2 : b.accounts[j0]? = some b.accounts[j0] := List.getElem?_eq_getElem hj
      have hil2 : (j0 : Int) < (b.accounts.length : Int) := Int.ofNat_lt.2 hj
      have hsn := numsK_s (preN0 b) accN b.accounts j0 hj
      rw [accN] at hsn
      have hw : wrap64 ((j0 : Int) + 1) = ((j0 + 1 : Nat) : Int) := wrap_nat j0 (Nat.lt_of_lt_of_le hj (Nat.le_trans l0 (by decide)))
      have hdec : b.accounts.length - (j0 + 1) < b.accounts.length - j0 := Nat.sub_lt_sub_left hj (Nat.lt_succ_self j0)
      (try simp only [go_sem, hA, e4, e3, hdl, hg2, hil2]); repeat' (first | (with_reducible first | refine c_split ?_ ?_ | refine w_split ?_ ?_ | refine tw_split ?_ ?_) <;> intro hb <;> try simp only [go_sem, hb, hA, e4, e3, hdl, hg2, hil2] | (first | with_reducible refine d219_0_LPack (by with_unfolding_all rfl) (by kernel_rfl) ?_ | with_reducible refine d219_1_LPack (by with_unfolding_all rfl) (by kernel_rfl) ?_ | with_reducible refine d219_2_LPack (by with_unfolding_all rfl) (by kernel_rfl) ?_ | fail) <;> try simp only [go_sem, hA, e4, e3, hdl, hg2, hil2] | fail)
      refine ap_end rfl (List.length_map ..).symm (by exact hr _ (Nat.le_of_ble_eq_true rfl)) ?_
      simp only [go_sem, hA, e4, e3]
      (try simp only [go_sem, hA, e4, e3]); repeat' (first | (with_reducible first | refine c_split ?_ ?_ | refine w_split ?_ ?_ | refine tw_split ?_ ?_) <;> intro hb <;> try simp only [go_sem, hb, hA, e4, e3] | (first | with_reducible refine d219_0_LPack (by with_unfolding_all rfl) (by kernel_rfl) ?_ | with_reducible refine d219_1_LPack (by with_unfolding_all rfl) (by kernel_rfl) ?_ | with_reducible refine d219_2_LPack (by with_unfolding_all rfl) (by kernel_rfl) ?_ | fail) <;> try simp only [go_sem, hA, e4, e3] | fail)
      refine gc_trim 2 (by decide) (by simp only [go_sem]) (by simp only [go_sem, hw, hsn, List.map_append, List.map_cons, List.map_nil]) (hJ (j0 + 1, g0 + 1, none) _ _ (by exact hdec) (by simp only [go_sem, hA, e4, e3]) ⟨?_, ?_, ?_, ?_⟩) <;> try simp only [go_sem, hA, e4, e3, hw, hsn, List.map_append, List.map_cons, List.map_nil]
      exact hj
    · have hjl : j0 = b.accounts.length := Nat.le_antisymm hP (Nat.le_of_not_lt hj)
      have hdl : decide ((j0 : Int) < (b.accounts.length : Int)) = false := decide_eq_false (fun q => hj (Int.ofNat_lt.1 q))
      (try simp only [go_sem, hA, e4, e3, hdl]); repeat' (first | (with_reducible first | refine c_split ?_ ?_ | refine w_split ?_ ?_ | refine tw_split ?_ ?_) <;> intro hb <;> try simp only [go_sem, hb, hA, e4, e3, hdl] | (first | with_reducible refine d219_0_LPack (by with_unfolding_all rfl) (by kernel_rfl) ?_ | with_reducible refine d219_1_LPack (by with_unfolding_all rfl) (by kernel_rfl) ?_ | with_reducible refine d219_2_LPack (by with_unfolding_all rfl) (by kernel_rfl) ?_ | fail) <;> try simp only [go_sem, hA, e4, e3, hdl] | fail)
      refine ap_end rfl (List.length_map ..).symm (by exact hr _ (Nat.le_of_ble_eq_true rfl)) ?_
      simp only [go_sem, hA, e4, e3]
      have hp1 : preN1 b = numsK (preN0 b) accN b.accounts j0 ++ [(b.instrs.length : Int)] := by rw [preN1, hjl]
      (try simp only [go_sem, hA, e4, e3]); repeat' (first | (with_reducible first | refine c_split ?_ ?_ | refine w_split ?_ ?_ | refine tw_split ?_ ?_) <;> intro hb <;> try simp only [go_sem, hb, hA, e4, e3] | (first | with_reducible refine d219_0_LPack (by with_unfolding_all rfl) (by kernel_rfl) ?_ | with_reducible refine d219_1_LPack (by with_unfolding_all rfl) (by kernel_rfl) ?_ | with_reducible refine d219_2_LPack (by with_unfolding_all rfl) (by kernel_rfl) ?_ | fail) <;> try simp only [go_sem, hA, e4, e3] | fail)
      have hq0 := hA
      clear hJ hA hj hdl hr
      have z1 := lens.2.1
      refine while_at (α := Nat × Nat × Option Nat) (fun ⟨j1, g1, c1⟩ => b.instrs.length - j1) [1] (fun ⟨j1, g1, c1⟩ f h => f 5 = (.one (.c (.int .i64 ((j1 : Int))))) ∧ f 3 = .one (.sl 1 g1 0 (numsK (preN1 b) accN b.instrs j1).length) ∧ h = [.own 0 31 6 (some 1) [booksC b], .own g1 3 1 c1 ((numsK (preN1 b) accN b.instrs j1).map intC), .own 0 3 1 (some 1) [[.c (.int .i64 ((b.instrs.length : Int)))]]] ∧ j1 ≤ b.instrs.length) (0, g0 + 1, none) (GC.now ?_) ?_
      · simp only [go_sem, nc_0, true_and, hq0]
        rw [numsK_0, hp1]; exact ⟨by rw [List.length_append]; rfl, by first | (rw [List.map_append]; done) | (rw [List.map_append]; rfl), Nat.zero_le _⟩
      · rintro ⟨j1, g1, c1⟩ f h J hA ⟨e5, e3, rfl, hP⟩ hJ
        simp only [go_sem, hq0] at hA
        try dsimp only at hJ
        simp only [go_sem, hA, e5, e3, hq0]
        try simp only [hq0] at hA
        have hr := fun (x : List (List CV)) hx => num_room (x := x) (Nat.le_trans (z1 j1) (by decide : 2000 ≤ 100000000)) hx
        by_cases hj : j1 < b.instrs.length
        · have hdl : decide ((j1 : Int) < (b.instrs.length : Int)) = true := decide_eq_true (Int.ofNat_lt.2 hj)
          have hg2 : b.instrs[j1]? = some b.instrs[j1] := List.getElem?_eq_getElem hj
          have hil2 : (j1 : Int) < (b.instrs.length : Int) := Int.ofNat_lt.2 hj
          have hsn := numsK_s (preN1 b) accN b.instrs j1 hj
          rw [accN] at hsn
          have hw : wrap64 ((j1 : Int) + 1) = ((j1 + 1 : Nat) : Int) := wrap_nat j1 (Nat.lt_of_lt_of_le hj (Nat.le_trans l1 (by decide)))
          have hdec : b.instrs.length - (j1 + 1) < b.instrs.length - j1 := Nat.sub_lt_sub_left hj (Nat.lt_succ_self j1)
          (try simp only [go_sem, hA, e5, e3, hq0, hdl, hg2, hil2]); repeat' (first | (with_reducible first | refine c_split ?_ ?_ | refine w_split ?_ ?_ | refine tw_split ?_ ?_) <;> intro hb <;> try simp only [go_sem, hb, hA, e5, e3, hq0, hdl, hg2, hil2] | (first | with_reducible refine d219_0_LPack (by with_unfolding_all rfl) (by kernel_rfl) ?_ | with_reducible refine d219_1_LPack (by with_unfolding_all rfl) (by kernel_rfl) ?_ | with_reducible refine d219_2_LPack (by with_unfolding_all rfl) (by kernel_rfl) ?_ | fail) <;> try simp only [go_sem, hA, e5, e3, hq0, hdl, hg2, hil2] | fail)
          refine ap_end rfl (List.length_map ..).symm (by exact hr _ (Nat.le_of_ble_eq_true rfl)) ?_
          simp only [go_sem, hA, e5, e3, hq0]
          (try simp only [go_sem, hA, e5, e3, hq0]); repeat' (first | (with_reducible first | refine c_split ?_ ?_ | refine w_split ?_ ?_ | refine tw_split ?_ ?_) <;> intro hb <;> try simp only [go_sem, hb, hA, e5, e3, hq0] | (first | with_reducible refine d219_0_LPack (by with_unfolding_all rfl) (by kernel_rfl) ?_ | with_reducible refine d219_1_LPack (by with_unfolding_all rfl) (by kernel_rfl) ?_ | with_reducible refine d219_2_LPack (by with_unfolding_all rfl) (by kernel_rfl) ?_ | fail) <;> try simp only [go_sem, hA, e5, e3, hq0] | fail)
          refine gc_trim 3 (by decide) (by simp only [go_sem]) (by simp only [go_sem, hw, hsn, List.map_append, List.map_cons, List.map_nil]) (hJ (j1 + 1, g1 + 1, none) _ _ (by exact hdec) (by simp only [go_sem, hA, e5, e3, hq0]) ⟨?_, ?_, ?_, ?_⟩) <;> try simp only [go_sem, hA, e5, e3, hq0, hw, hsn, List.map_append, List.map_cons, List.map_nil]
          exact hj
        · have hjl : j1 = b.instrs.length := Nat.le_antisymm hP (Nat.le_of_not_lt hj)
          have hdl : decide ((j1 : Int) < (b.instrs.length : Int)) = false := decide_eq_false (fun q => hj (Int.ofNat_lt.1 q))
          (try simp only [go_sem, hA, e5, e3, hq0, hdl]); repeat' (first | (with_reducible first | refine c_split ?_ ?_ | refine w_split ?_ ?_ | refine tw_split ?_ ?_) <;> intro hb <;> try simp only [go_sem, hb, hA, e5, e3, hq0, hdl] | (first | with_reducible refine d219_0_LPack (by with_unfolding_all rfl) (by kernel_rfl) ?_ | with_reducible refine d219_1_LPack (by with_unfolding_all rfl) (by kernel_rfl) ?_ | with_reducible refine d219_2_LPack (by with_unfolding_all rfl) (by kernel_rfl) ?_ | fail) <;> try simp only [go_sem, hA, e5, e3, hq0, hdl] | fail)
          refine ap_end rfl (List.length_map ..).symm (by exact hr _ (Nat.le_of_ble_eq_true rfl)) ?_
          simp only [go_sem, hA, e5, e3, hq0]
          have hp2 : preN2 b = numsK (preN1 b) accN b.instrs j1 ++ [(b.bals.length : Int)] := by rw [preN2, hjl]
          (try simp only [go_sem, hA, e5, e3, hq0]); repeat' (first | (with_reducible first | refine c_split ?_ ?_ | refine w_split ?_ ?_ | refine tw_split ?_ ?_) <;> intro hb <;> try simp only [go_sem, hb, hA, e5, e3, hq0] | (first | with_reducible refine d219_0_LPack (by with_unfolding_all rfl) (by kernel_rfl) ?_ | with_reducible refine d219_1_LPack (by with_unfolding_all rfl) (by kernel_rfl) ?_ | with_reducible refine d219_2_LPack (by with_unfolding_all rfl) (by kernel_rfl) ?_ | fail) <;> try simp only [go_sem, hA, e5, e3, hq0] | fail)
          have hq1 := hA
          clear hJ hA hj hdl hr
          have z2 := lens.2.2.1
          refine while_at (α := Nat × Nat × Option Nat) (fun ⟨j2, g2, c2⟩ => b.bals.length - j2) [1] (fun ⟨j2, g2, c2⟩ f h => f 6 = (.one (.c (.int .i64 ((j2 : Int))))) ∧ f 3 = .one (.sl 1 g2 0 (numsK (preN2 b) balN b.bals j2).length) ∧ h = [.own 0 31 6 (some 1) [booksC b], .own g2 3 1 c2 ((numsK (preN2 b) balN b.bals j2).map intC), .own 0 3 1 (some 1) [[.c (.int .i64 ((b.instrs.length : Int)))]], .own 0 3 1 (some 1) [[.c (.int .i64 ((b.bals.length : Int)))]]] ∧ j2 ≤ b.bals.length) (0, g1 + 1, none) (GC.now ?_) ?_
          · simp only [go_sem, nc_0, true_and, hq1]
            rw [numsK_0, hp2]; exact ⟨by rw [List.length_append]; rfl, by first | (rw [List.map_append]; done) | (rw [List.map_append]; rfl), Nat.zero_le _⟩
          · rintro ⟨j2, g2, c2⟩ f h J hA ⟨e6, e3, rfl, hP⟩ hJ
            simp only [go_sem, hq1] at hA
            try dsimp only at hJ
            simp only [go_sem, hA, e6, e3, hq1]
            try simp only [hq1] at hA
            have hr := fun (x : List (List CV)) hx => num_room (x := x) (Nat.le_trans (z2 j2) (by decide : 2000 ≤ 100000000)) hx
            by_cases hj : j2 < b.bals.length
            · have hdl : decide ((j2 : Int) < (b.bals.length : Int)) = true := decide_eq_true (Int.ofNat_lt.2 hj)
              have hg2 : b.bals[j2]? = some b.bals[j2] := List.getElem?_eq_getElem hj
              have hil2 : (j2 : Int) < (b.bals.length : Int) := Int.ofNat_lt.2 hj
              have hsn := numsK_s (preN2 b) balN b.bals j2 hj
              rw [balN] at hsn
              have hw : wrap64 ((j2 : Int) + 1) = ((j2 + 1 : Nat) : Int) := wrap_nat j2 (Nat.lt_of_lt_of_le hj (Nat.le_trans l2 (by decide)))
              have hdec : b.bals.length - (j2 + 1) < b.bals.length - j2 := Nat.sub_lt_sub_left hj (Nat.lt_succ_self j2)
              (try simp only [go_sem, hA, e6, e3, hq1, hdl, hg2, hil2]); repeat' (first | (with_reducible first | refine c_split ?_ ?_ | refine w_split ?_ ?_ | refine tw_split ?_ ?_) <;> intro hb <;> try simp only [go_sem, hb, hA, e6, e3, hq1, hdl, hg2, hil2] | (first | with_reducible refine d219_0_LPack (by with_unfolding_all rfl) (by kernel_rfl) ?_ | with_reducible refine d219_1_LPack (by with_unfolding_all rfl) (by kernel_rfl) ?_ | with_reducible refine d219_2_LPack (by with_unfolding_all rfl) (by kernel_rfl) ?_ | fail) <;> try simp only [go_sem, hA, e6, e3, hq1, hdl, hg2, hil2] | fail)
              refine ap_end rfl (List.length_map ..).symm (by exact hr _ (Nat.le_of_ble_eq_true rfl)) ?_
              simp only [go_sem, hA, e6, e3, hq1]
              (try simp only [go_sem, hA, e6, e3, hq1]); repeat' (first | (with_reducible first | refine c_split ?_ ?_ | refine w_split ?_ ?_ | refine tw_split ?_ ?_) <;> intro hb <;> try simp only [go_sem, hb, hA, e6, e3, hq1] | (first | with_reducible refine d219_0_LPack (by with_unfolding_all rfl) (by kernel_rfl) ?_ | with_reducible refine d219_1_LPack (by with_unfolding_all rfl) (by kernel_rfl) ?_ | with_reducible refine d219_2_LPack (by with_unfolding_all rfl) (by kernel_rfl) ?_ | fail) <;> try simp only [go_sem, hA, e6, e3, hq1] | fail)
              refine gc_trim 4 (by decide) (by simp only [go_sem]) (by simp only [go_sem, hw, hsn, List.map_append, List.map_cons, List.map_nil]) (hJ (j2 + 1, g2 + 1, none) _ _ (by exact hdec) (by simp only [go_sem, hA, e6, e3, hq1]) ⟨?_, ?_, ?_, ?_⟩) <;> try simp only [go_sem, hA, e6, e3, hq1, hw, hsn, List.map_append, List.map_cons, List.map_nil]
              exact hj
            · have hjl : j2 = b.bals.length := Nat.le_antisymm hP (Nat.le_of_not_lt hj)
              have hdl : decide ((j2 : Int) < (b.bals.length : Int)) = false := decide_eq_false (fun q => hj (Int.ofNat_lt.1 q))
              (try simp only [go_sem, hA, e6, e3, hq1, hdl]); repeat' (first | (with_reducible first | refine c_split ?_ ?_ | refine w_split ?_ ?_ | refine tw_split ?_ ?_) <;> intro hb <;> try simp only [go_sem, hb, hA, e6, e3, hq1, hdl] | (first | with_reducible refine d219_0_LPack (by with_unfolding_all rfl) (by kernel_rfl) ?_ | with_reducible refine d219_1_LPack (by with_unfolding_all rfl) (by kernel_rfl) ?_ | with_reducible refine d219_2_LPack (by with_unfolding_all rfl) (by kernel_rfl) ?_ | fail) <;> try simp only [go_sem, hA, e6, e3, hq1, hdl] | fail)
              refine ap_end rfl (List.length_map ..).symm (by exact hr _ (Nat.le_of_ble_eq_true rfl)) ?_
              simp only [go_sem, hA, e6, e3, hq1]
              have hp3 : preN3 b = numsK (preN2 b) balN b.bals j2 ++ [(b.lots.length : Int)] := by rw [preN3, hjl]
              (try simp only [go_sem, hA, e6, e3, hq1]); repeat' (first | (with_reducible first | refine c_split ?_ ?_ | refine w_split ?_ ?_ | refine tw_split ?_ ?_) <;> intro hb <;> try simp only [go_sem, hb, hA, e6, e3, hq1] | (first | with_reducible refine d219_0_LPack (by with_unfolding_all rfl) (by kernel_rfl) ?_ | with_reducible refine d219_1_LPack (by with_unfolding_all rfl) (by kernel_rfl) ?_ | with_reducible refine d219_2_LPack (by with_unfolding_all rfl) (by kernel_rfl) ?_ | fail) <;> try simp only [go_sem, hA, e6, e3, hq1] | fail)
              have hq2 := hA
              clear hJ hA hj hdl hr
              have z3 := lens.2.2.2.1
              refine while_at (α := Nat × Nat × Option Nat) (fun ⟨j3, g3, c3⟩ => b.lots.length - j3) [1] (fun ⟨j3, g3, c3⟩ f h => f 7 = (.one (.c (.int .i64 ((j3 : Int))))) ∧ f 3 = .one (.sl 1 g3 0 (numsK (preN3 b) lotN b.lots j3).length) ∧ h = [.own 0 31 6 (some 1) [booksC b], .own g3 3 1 c3 ((numsK (preN3 b) lotN b.lots j3).map intC), .own 0 3 1 (some 1) [[.c (.int .i64 ((b.instrs.length : Int)))]], .own 0 3 1 (some 1) [[.c (.int .i64 ((b.bals.length : Int)))]], .own 0 3 1 (some 1) [[.c (.int .i64 ((b.lots.length : Int)))]]] ∧ j3 ≤ b.lots.length) (0, g2 + 1, none) (GC.now ?_) ?_
              · simp only [go_sem, nc_0, true_and, hq2]
                rw [numsK_0, hp3]; exact ⟨by rw [List.length_append]; rfl, by first | (rw [List.map_append]; done) | (rw [List.map_append]; rfl), Nat.zero_le _⟩
              · rintro ⟨j3, g3, c3⟩ f h J hA ⟨e7, e3, rfl, hP⟩ hJ
                simp only [go_sem, hq2] at hA
                try dsimp only at hJ
                simp only [go_sem, hA, e7, e3, hq2]
                try simp only [hq2] at hA
                have hr := fun (x : List (List CV)) hx => num_room (x := x) (Nat.le_trans (z3 j3) (by decide : 2000 ≤ 100000000)) hx
                by_cases hj : j3 < b.lots.length
                · have hdl : decide ((j3 : Int) < (b.lots.length : Int)) = true := decide_eq_true (Int.ofNat_lt.2 hj)
                  have hg2 : b.lots[j3]? = some b.lots[j3] := List.getElem?_eq_getElem hj
                  have hil2 : (j3 : Int) < (b.lots.length : Int) := Int.ofNat_lt.2 hj
                  have hsn := numsK_s (preN3 b) lotN b.lots j3 hj
                  rw [lotN] at hsn
                  have hw : wrap64 ((j3 : Int) + 1) = ((j3 + 1 : Nat) : Int) := wrap_nat j3 (Nat.lt_of_lt_of_le hj (Nat.le_trans l3 (by decide)))
                  have hdec : b.lots.length - (j3 + 1) < b.lots.length - j3 := Nat.sub_lt_sub_left hj (Nat.lt_succ_self j3)
                  (try simp only [go_sem, hA, e7, e3, hq2, hdl, hg2, hil2]); repeat' (first | (with_reducible first | refine c_split ?_ ?_ | refine w_split ?_ ?_ | refine tw_split ?_ ?_) <;> intro hb <;> try simp only [go_sem, hb, hA, e7, e3, hq2, hdl, hg2, hil2] | (first | with_reducible refine d219_0_LPack (by with_unfolding_all rfl) (by kernel_rfl) ?_ | with_reducible refine d219_1_LPack (by with_unfolding_all rfl) (by kernel_rfl) ?_ | with_reducible refine d219_2_LPack (by with_unfolding_all rfl) (by kernel_rfl) ?_ | fail) <;> try simp only [go_sem, hA, e7, e3, hq2, hdl, hg2, hil2] | fail)
                  refine ap_end rfl (List.length_map ..).symm (by exact hr _ (Nat.le_of_ble_eq_true rfl)) ?_
                  simp only [go_sem, hA, e7, e3, hq2]
                  (try simp only [go_sem, hA, e7, e3, hq2]); repeat' (first | (with_reducible first | refine c_split ?_ ?_ | refine w_split ?_ ?_ | refine tw_split ?_ ?_) <;> intro hb <;> try simp only [go_sem, hb, hA, e7, e3, hq2] | (first | with_reducible refine d219_0_LPack (by with_unfolding_all rfl) (by kernel_rfl) ?_ | with_reducible refine d219_1_LPack (by with_unfolding_all rfl) (by kernel_rfl) ?_ | with_reducible refine d219_2_LPack (by with_unfolding_all rfl) (by kernel_rfl) ?_ | fail) <;> try simp only [go_sem, hA, e7, e3, hq2] | fail)
                  refine gc_trim 5 (by decide) (by simp only [go_sem]) (by simp only [go_sem, hw, hsn, List.map_append, List.map_cons, List.map_nil]) (hJ (j3 + 1, g3 + 1, none) _ _ (by exact hdec) (by simp only [go_sem, hA, e7, e3, hq2]) ⟨?_, ?_, ?_, ?_⟩) <;> try simp only [go_sem, hA, e7, e3, hq2, hw, hsn, List.map_append, List.map_cons, List.map_nil]
                  exact hj
                · have hjl : j3 = b.lots.length := Nat.le_antisymm hP (Nat.le_of_not_lt hj)
                  have hdl : decide ((j3 : Int) < (b.lots.length : Int)) = false := decide_eq_false (fun q => hj (Int.ofNat_lt.1 q))
                  (try simp only [go_sem, hA, e7, e3, hq2, hdl]); repeat' (first | (with_reducible first | refine c_split ?_ ?_ | refine w_split ?_ ?_ | refine tw_split ?_ ?_) <;> intro hb <;> try simp only [go_sem, hb, hA, e7, e3, hq2, hdl] | (first | with_reducible refine d219_0_LPack (by with_unfolding_all rfl) (by kernel_rfl) ?_ | with_reducible refine d219_1_LPack (by with_unfolding_all rfl) (by kernel_rfl) ?_ | with_reducible refine d219_2_LPack (by with_unfolding_all rfl) (by kernel_rfl) ?_ | fail) <;> try simp only [go_sem, hA, e7, e3, hq2, hdl] | fail)
                  refine ap_end rfl (List.length_map ..).symm (by exact hr _ (Nat.le_of_ble_eq_true rfl)) ?_
                  simp only [go_sem, hA, e7, e3, hq2]
                  have hp4 : preN4 b = numsK (preN3 b) lotN b.lots j3 ++ [(b.trades.length : Int)] := by rw [preN4, hjl]
                  (try simp only [go_sem, hA, e7, e3, hq2]); repeat' (first | (with_reducible first | refine c_split ?_ ?_ | refine w_split ?_ ?_ | refine tw_split ?_ ?_) <;> intro hb <;> try simp only [go_sem, hb, hA, e7, e3, hq2] | (first | with_reducible refine d219_0_LPack (by with_unfolding_all rfl) (by kernel_rfl) ?_ | with_reducible refine d219_1_LPack (by with_unfolding_all rfl) (by kernel_rfl) ?_ | with_reducible refine d219_2_LPack (by with_unfolding_all rfl) (by kernel_rfl) ?_ | fail) <;> try simp only [go_sem, hA, e7, e3, hq2] | fail)
                  have hq3 := hA
                  clear hJ hA hj hdl hr
                  have z4 := lens.2.2.2.2
                  refine while_at (α := Nat × Nat × Option Nat) (fun ⟨j4, g4, c4⟩ => b.trades.length - j4) [1] (fun ⟨j4, g4, c4⟩ f h => f 9 = (.one (.c (.int .i64 ((j4 : Int))))) ∧ f 3 = .one (.sl 1 g4 0 (numsK (preN4 b) trdN b.trades j4).length) ∧ h = [.own 0 31 6 (some 1) [booksC b], .own g4 3 1 c4 ((numsK (preN4 b) trdN b.trades j4).map intC), .own 0 3 1 (some 1) [[.c (.int .i64 ((b.instrs.length : Int)))]], .own 0 3 1 (some 1) [[.c (.int .i64 ((b.bals.length : Int)))]], .own 0 3 1 (some 1) [[.c (.int .i64 ((b.lots.length : Int)))]], .own 0 3 1 (some 1) [[.c (.int .i64 ((b.trades.length : Int)))]]] ∧ j4 ≤ b.trades.length) (0, g3 + 1, none) (GC.now ?_) ?_
                  · simp only [go_sem, nc_0, true_and, hq3]
                    rw [numsK_0, hp4]; exact ⟨by rw [List.length_append]; rfl, by first | (rw [List.map_append]; done) | (rw [List.map_append]; rfl), Nat.zero_le _⟩
                  · rintro ⟨j4, g4, c4⟩ f h J hA ⟨e9, e3, rfl, hP⟩ hJ
                    simp only [go_sem, hq3] at hA
                    try dsimp only at hJ
                    simp only [go_sem, hA, e9, e3, hq3]
                    try simp only [hq3] at hA
                    have hr := fun (x : List (List CV)) hx => num_room (x := x) (Nat.le_trans (z4 j4) (by decide : 2000 ≤ 100000000)) hx
                    by_cases hj : j4 < b.trades.length
                    · have hdl : decide ((j4 : Int) < (b.trades.length : Int)) = true := decide_eq_true (Int.ofNat_lt.2 hj)
                      have hg2 : b.trades[j4]? = some b.trades[j4] := List.getElem?_eq_getElem hj
                      have hil2 : (j4 : Int) < (b.trades.length : Int) := Int.ofNat_lt.2 hj
                      have hsn := numsK_s (preN4 b) trdN b.trades j4 hj
                      rw [trdN] at hsn
                      have hw : wrap64 ((j4 : Int) + 1) = ((j4 + 1 : Nat) : Int) := wrap_nat j4 (Nat.lt_of_lt_of_le hj (Nat.le_trans l4 (by decide)))
                      have hdec : b.trades.length - (j4 + 1) < b.trades.length - j4 := Nat.sub_lt_sub_left hj (Nat.lt_succ_self j4)
                      (try simp only [go_sem, hA, e9, e3, hq3, hdl, hg2, hil2]); repeat' (first | (with_reducible first | refine c_split ?_ ?_ | refine w_split ?_ ?_ | refine tw_split ?_ ?_) <;> intro hb <;> try simp only [go_sem, hb, hA, e9, e3, hq3, hdl, hg2, hil2] | (first | with_reducible refine d219_0_LPack (by with_unfolding_all rfl) (by kernel_rfl) ?_ | with_reducible refine d219_1_LPack (by with_unfolding_all rfl) (by kernel_rfl) ?_ | with_reducible refine d219_2_LPack (by with_unfolding_all rfl) (by kernel_rfl) ?_ | fail) <;> try simp only [go_sem, hA, e9, e3, hq3, hdl, hg2, hil2] | fail)
                      refine ap_end rfl (List.length_map ..).symm (by exact hr _ (Nat.le_of_ble_eq_true rfl)) ?_
                      simp only [go_sem, hA, e9, e3, hq3]
                      (try simp only [go_sem, hA, e9, e3, hq3]); repeat' (first | (with_reducible first | refine c_split ?_ ?_ | refine w_split ?_ ?_ | refine tw_split ?_ ?_) <;> intro hb <;> try simp only [go_sem, hb, hA, e9, e3, hq3] | (first | with_reducible refine d219_0_LPack (by with_unfolding_all rfl) (by kernel_rfl) ?_ | with_reducible refine d219_1_LPack (by with_unfolding_all rfl) (by kernel_rfl) ?_ | with_reducible refine d219_2_LPack (by with_unfolding_all rfl) (by kernel_rfl) ?_ | fail) <;> try simp only [go_sem, hA, e9, e3, hq3] | fail)
                      refine gc_trim 6 (by decide) (by simp only [go_sem]) (by simp only [go_sem, hw, hsn, List.map_append, List.map_cons, List.map_nil]) (hJ (j4 + 1, g4 + 1, none) _ _ (by exact hdec) (by simp only [go_sem, hA, e9, e3, hq3]) ⟨?_, ?_, ?_, ?_⟩) <;> try simp only [go_sem, hA, e9, e3, hq3, hw, hsn, List.map_append, List.map_cons, List.map_nil]
                      exact hj
                    · have hjl : j4 = b.trades.length := Nat.le_antisymm hP (Nat.le_of_not_lt hj)
                      have hdl : decide ((j4 : Int) < (b.trades.length : Int)) = false := decide_eq_false (fun q => hj (Int.ofNat_lt.1 q))
                      (try simp only [go_sem, hA, e9, e3, hq3, hdl]); repeat' (first | (with_reducible first | refine c_split ?_ ?_ | refine w_split ?_ ?_ | refine tw_split ?_ ?_) <;> intro hb <;> try simp only [go_sem, hb, hA, e9, e3, hq3, hdl] | (first | with_reducible refine d219_0_LPack (by with_unfolding_all rfl) (by kernel_rfl) ?_ | with_reducible refine d219_1_LPack (by with_unfolding_all rfl) (by kernel_rfl) ?_ | with_reducible refine d219_2_LPack (by with_unfolding_all rfl) (by kernel_rfl) ?_ | fail) <;> try simp only [go_sem, hA, e9, e3, hq3, hdl] | fail)
                      refine ap_end rfl (List.length_map ..).symm (by exact hr _ (Nat.le_of_ble_eq_true rfl)) ?_
                      simp only [go_sem, hA, e9, e3, hq3]
                      have hp5 : booksN b = numsK (preN4 b) trdN b.trades j4 ++ [b.lot] := by rw [booksN, hjl]
                      rw [hp5] at hk
                      have htk : ∀ x : Int, List.take ((numsK (preN4 b) trdN b.trades j4).length + 1) (List.map intC (numsK (preN4 b) trdN b.trades j4 ++ [x])) = List.map intC (numsK (preN4 b) trdN b.trades j4 ++ [x]) := fun x => List.take_of_length_le (by simp)
                      (try simp only [go_sem, hA, e9, e3, hq3, htk]); repeat' (first | (with_reducible first | refine c_split ?_ ?_ | refine w_split ?_ ?_ | refine tw_split ?_ ?_) <;> intro hb <;> try simp only [go_sem, hb, hA, e9, e3, hq3, htk] | (first | with_reducible refine d219_0_LPack (by with_unfolding_all rfl) (by kernel_rfl) ?_ | with_reducible refine d219_1_LPack (by with_unfolding_all rfl) (by kernel_rfl) ?_ | with_reducible refine d219_2_LPack (by with_unfolding_all rfl) (by kernel_rfl) ?_ | fail) <;> try simp only [go_sem, hA, e9, e3, hq3, htk] | with_reducible refine hQ _ _ ?_ <;> simp only [Tryz.f219, go_sem, hA, e9, e3, hq3, htk])
                      exact hk
def putNums (ns : List Int) : List UInt8 := if ns.any (fun n => decide (n < 0)) = true then [] else ns.flatMap putNum
theorem any_find {p : Int → Bool} (ns : List Int) : decide (0 ≤ findG p ns) = ns.any p := by
  rcases findO_cases p ns with ⟨k, hk, e1, e2⟩ | ⟨e1, e2⟩
  · rw [e1, decide_eq_true (Int.natCast_nonneg k)]
    exact (List.any_eq_true.2 ⟨_, List.getElem_mem hk, List.find?_some e2⟩).symm
  · rw [e1]
    have := List.find?_eq_none.1 e2
    symm
    rw [show decide ((0 : Int) ≤ -1) = false from rfl, List.any_eq_false]
    exact this
theorem c_IndexFuncInt (fs : List Int) (g : Nat) (caps : List Nat) (p : Int → Bool) (h0 : AH) (K : AV → AH → Prop) (hn : fs.length ≤ 1000000000)
    (hp : ∀ i (hi : i < fs.length) (K' : AV → AH → Prop), K' (.one (.c (.bool (p fs[i])))) h0 → callA Tryz.prog g ([(.one (.c (.int .i64 (fs[i]))))] ++ caps.map fun l => .one (.pt l 0 0 0)) h0 K')
    (hk : K (.one (.c (.int .i64 (findG p fs)))) h0) : ACalls Tryz.prog 295 [(.one (.im (fs.map intC))), .one (.clo g caps)] h0 K := by
  refine acall_m Tryz.f295.results.toList mixed Tryz.func295 rfl rfl (by kernel_rfl) ?_
  intro hwf Q hQ
  simp only [go_sem, ca_clos]
  refine for_at (fs.length) [0, 1, 7] (fun i f h => f 8 = (.one (.c (.int .i64 (i)))) ∧ f 7 = (.one (.c (.int .i64 (fs.length)))) ∧ h = h0 ∧ noneTo p fs i) (GC.now ?_) ?_
  · simp only [go_sem, nc_0, true_and, ca_clos]
    exact noneTo_0 p fs
  · rintro i f h J hi hA ⟨e8, e7, rfl, hP⟩ hJ
    simp only [go_sem, ca_clos] at hA
    simp only [go_sem, hA, e8, e7, ca_clos]
    refine c_split (fun hb => ?_) (fun hb => ?_)
    rotate_left
    · simp only [go_sem, hb, hA, e8, e7, ca_clos]
      obtain rfl := ge_len hb hi
      refine hQ (h) _ _ ?_; refine GC.now (ret_m (by simp only [go_sem, Tryz.f295, hA, e8, e7, ca_clos]; exact _root_.id rfl) (by simp only [go_sem]) (by simp) (by first | exact hwf | exact wf_set hwf (by simp only [go_sem, hA, e8, e7, ca_clos]) | exact wf_set2 hwf (by simp only [go_sem, hA, e8, e7, ca_clos]) (by simp only [go_sem, hA, e8, e7, ca_clos]) | (simp only [go_sem]; done)) (by first | exact ⟨_, _root_.id rfl⟩ | exact ⟨[], (List.append_nil _).symm⟩) ?_) <;> simp only [go_sem, hA, e8, e7, ca_clos]
      rw [findG_no hP] at hk
      exact hk
    have hi := lt_len hb
    have hw := wrap_nat i (by omega)
    have hil : (i : Int) < ((fs.length : Nat) : Int) := Int.ofNat_lt.2 hi
    have hg0 : (fs)[i]? = some ((fs)[i]) := List.getElem?_eq_getElem (by omega)
    simp only [go_sem, hb, hA, e8, e7, ca_clos, hg0]
    try simp only [go_sem, hA, e8, e7, ca_clos, hil, hg0]
    refine hp i hi _ ?_
    simp only [go_sem, hA, e8, e7, ca_clos, hil, hg0]
    (try simp only [go_sem, hA, e8, e7, ca_clos, hil, hg0]); repeat' (first | (with_reducible first | refine c_split ?_ ?_ | refine w_split ?_ ?_) <;> intro hb <;> try simp only [go_sem, hb, hA, e8, e7, ca_clos, hil, hg0] | fail)
    · refine hQ (h) _ _ ?_; refine GC.now (ret_m (by simp only [go_sem, Tryz.f295, hA, e8, e7, ca_clos, hil, hg0]; exact _root_.id rfl) (by simp only [go_sem]) (by simp) (by first | exact hwf | exact wf_set hwf (by simp only [go_sem, hA, e8, e7, ca_clos, hil, hg0]) | exact wf_set2 hwf (by simp only [go_sem, hA, e8, e7, ca_clos, hil, hg0]) (by simp only [go_sem, hA, e8, e7, ca_clos, hil, hg0]) | (simp only [go_sem]; done)) (by first | exact ⟨_, _root_.id rfl⟩ | exact ⟨[], (List.append_nil _).symm⟩) ?_) <;> simp only [go_sem, hA, e8, e7, ca_clos, hil, hg0]
      rw [findG_of hP hi hb] at hk
      exact hk
    · refine GC.now (hJ _ _ hi (by simp only [go_sem, hA, e8, e7, ca_clos]) ⟨?_, ?_, ?_, ?_⟩) <;> try simp only [go_sem, hA, e8, e7, ca_clos, hw]
      exact noneTo_s hP hi hb
theorem c_impl_PutNums1 (n : Int) (K : AV → AH → Prop) (hk : K (.one (.c (.bool (decide (n < 0))))) []) : ACalls Tryz.prog 261 [(.one (.c (.int .i64 (n))))] [] K := by
  refine acall_c Tryz.f261.results.toList mixed Tryz.func261 rfl rfl (by kernel_rfl) ?_
  intro Q hQ hQO
  simp only [go_sem]
  (try simp only [go_sem]); repeat' (first | (with_reducible first | refine c_split ?_ ?_ | refine w_split ?_ ?_) <;> intro hb <;> try simp only [go_sem, hb] | with_reducible refine hQ _ _ ?_ <;> simp only [Tryz.f261, go_sem])
  exact hk
theorem calK_b (args : List AV) (K : AV → AH → Prop) (b : Bool) (hk : K (.one (.c (.bool (b)))) []) : calK args [] K (.one (.c (.bool (b)))) [] := by
  unfold calK
  rw [if_pos ⟨rfl, rfl⟩]
  exact hk
theorem c_ContainsInt (xs : List Int) (g : Nat) (p : Int → Bool) (K : AV → AH → Prop) (hn : xs.length ≤ 1000000000)
    (hp : ∀ i (hi : i < xs.length) (K' : AV → AH → Prop), K' (.one (.c (.bool (p xs[i])))) [] → ACalls Tryz.prog g [(.one (.c (.int .i64 (xs[i]))))] [] K')
    (hk : K (.one (.c (.bool (decide (0 ≤ findG p xs))))) []) : ACalls Tryz.prog 260 [(.one (.im (xs.map intC))), .one (.clo g [])] [] K := by
  refine acall_c Tryz.f260.results.toList mixed Tryz.func260 rfl rfl (by kernel_rfl) ?_
  intro Q hQ hQO
  simp only [go_sem]
  (try simp only [go_sem]); repeat' (first | (with_reducible first | refine c_split ?_ ?_ | refine w_split ?_ ?_) <;> intro hb <;> try simp only [go_sem, hb] | refine call_c (c_IndexFuncInt xs g [] p [] _ hn (fun i hi K' hk' => .inr (.inr (.inr (.inl ⟨rfl, hp i hi _ (calK_b _ _ _ hk')⟩)))) ?_) <;> try simp only [go_sem] | with_reducible refine hQ _ _ ?_ <;> simp only [Tryz.f260, go_sem])
  exact hk
theorem putN_le10 {n : Int} (h : n < 9223372036854775808) : (putNum n).length ≤ 10 := by
  by_cases hn : n < 0
  · rw [putNum, if_pos hn]; exact Nat.zero_le _
  · obtain ⟨m, rfl⟩ : ∃ m : Nat, n = m := ⟨n.toNat, by omega⟩
    exact putNum_le m (by omega)
def putTo (ns : List Int) (j : Nat) : List UInt8 := (ns.take j).flatMap putNum
theorem putTo_s (ns : List Int) (j : Nat) (hj : j < ns.length) : putTo ns (j + 1) = putTo ns j ++ putNum ns[j] := by
  rw [putTo, List.take_succ_eq_append_getElem hj, List.flatMap_append, putTo]; simp
theorem putTo_len {ns : List Int} (hb : ∀ n ∈ ns, n < 9223372036854775808) : ∀ j, j ≤ ns.length → (putTo ns j).length ≤ 10 * j
  | 0, _ => by simp [putTo]
  | j + 1, hj => by
    have ih := putTo_len hb j (by omega)
    have := putN_le10 (hb _ (List.getElem_mem (show j < ns.length by omega)))
    rw [putTo_s ns j (by omega), List.length_append]; omega
theorem put_room {bs ds : List UInt8} {j : Nat} (h : bs.length ≤ 10 * j) (hj : j ≤ 1000000) (h2 : ds.length ≤ 10) : ((bs.map byteC).length + (ds.map byteC).length) * 1 ≤ 140737488355328 := by rw [List.length_map, List.length_map]; omega
theorem put_all (ns : List Int) (h : ns.any (fun n => decide (n < 0)) = false) : putNums ns = putTo ns ns.length := by rw [putNums, h, if_neg (by decide), putTo, List.take_length]
theorem c_spec_PutNum_im (x : Int) (hx : x < 9223372036854775808) (K : AV → AH → Prop) (hk : K (.one (.im ((putNum x).map byteC))) []) : ACalls Tryz.prog 158 [(.one (.c (.int .i64 (x))))] [] K := acall_im (c_spec_PutNum x hx _ (im_row _ hk))
theorem c_impl_PutNums (ns : List Int) (hn : ns.length ≤ 1000000) (hb : ∀ n ∈ ns, n < 9223372036854775808) (K : AV → AH → Prop) (hk : K (.one (.im ((putNums ns).map byteC))) []) : ACalls Tryz.prog 216 [(.one (.im (ns.map intC)))] [] K := by
  have hn9 : ns.length ≤ 1000000000 := Nat.le_trans hn (by decide)
  refine acall_c Tryz.f216.results.toList mixed Tryz.func216 rfl rfl (by kernel_rfl) ?_
  intro Q hQ hQO
  simp only [go_sem]
  cases hc : ns.any (fun n => decide (n < 0)) with
  | true =>
    rw [putNums, hc, if_pos rfl] at hk
    (try simp only [go_sem, any_find, hc]); repeat' (first | (with_reducible first | refine c_split ?_ ?_ | refine w_split ?_ ?_) <;> intro hb <;> try simp only [go_sem, hb, any_find, hc] | refine call_c (c_ContainsInt ns _ (fun n => decide (n < 0)) _ hn9 (fun i _ K' hk' => c_impl_PutNums1 ns[i] _ hk') ?_) <;> try simp only [go_sem, any_find, hc] | with_reducible refine hQ _ _ ?_ <;> simp only [Tryz.f216, go_sem, any_find, hc])
    exact hk
  | false =>
    rw [put_all ns hc] at hk
    (try simp only [go_sem, any_find, hc]); repeat' (first | (with_reducible first | refine c_split ?_ ?_ | refine w_split ?_ ?_) <;> intro hb <;> try simp only [go_sem, hb, any_find, hc] | refine call_c (c_ContainsInt ns _ (fun n => decide (n < 0)) _ hn9 (fun i _ K' hk' => c_impl_PutNums1 ns[i] _ hk') ?_) <;> try simp only [go_sem, any_find, hc] | fail)
    refine while_at (α := Nat × Nat × Option Nat) (fun ⟨j, g, cap⟩ => ns.length - j) [9, 10] (fun ⟨j, g, cap⟩ f h => f 11 = (.one (.c (.int .i64 ((j : Int))))) ∧ f 3 = .one (.sl 0 g 0 (putTo ns j).length) ∧ h = [.own g 5 1 cap ((putTo ns j).map byteC)] ∧ j ≤ ns.length) (0, 0, some 0) (GC.now ?_) ?_
    · simp only [go_sem, nc_0, true_and]
      exact ⟨rfl, rfl, Nat.zero_le _⟩
    · rintro ⟨j, g, cap⟩ f h J hA ⟨e11, e3, rfl, hP⟩ hJ
      simp only [go_sem] at hA
      try dsimp only at hJ
      simp only [go_sem, hA, e11, e3]
      by_cases hj : j < ns.length
      · have hdl : decide ((j : Int) < (ns.length : Int)) = true := decide_eq_true (Int.ofNat_lt.2 hj)
        have hg2 : ns[j]? = some ns[j] := List.getElem?_eq_getElem hj
        have hil2 : (j : Int) < (ns.length : Int) := Int.ofNat_lt.2 hj
        have hsn := putTo_s ns j hj
        have hw : wrap64 ((j : Int) + 1) = ((j + 1 : Nat) : Int) := wrap_nat j (Nat.lt_of_lt_of_le hj (Nat.le_trans hn (by decide)))
        have hdec : ns.length - (j + 1) < ns.length - j := Nat.sub_lt_sub_left hj (Nat.lt_succ_self j)
        have hx := hb _ (List.getElem_mem hj)
        have hr := put_room (putTo_len hb j hP) (Nat.le_trans hP hn) (putN_le10 hx)
        (try simp only [go_sem, hA, e11, e3, hdl, hg2, hil2]); repeat' (first | (with_reducible first | refine c_split ?_ ?_ | refine w_split ?_ ?_) <;> intro hb <;> try simp only [go_sem, hb, hA, e11, e3, hdl, hg2, hil2] | refine call_c (c_impl_PutNum_im _ hx _ ?_) <;> try simp only [go_sem, hA, e11, e3, hdl, hg2, hil2] | fail)
        refine ap_end rfl (List.length_map ..).symm hr ?_
        simp only [go_sem, hA, e11, e3]
        (try simp only [go_sem, hA, e11, e3]); repeat' (first | (with_reducible first | refine c_split ?_ ?_ | refine w_split ?_ ?_) <;> intro hb <;> try simp only [go_sem, hb, hA, e11, e3] | fail)
        refine gc_trim 1 (by decide) (by simp only [go_sem]) (by simp only [go_sem, hw, hsn, List.map_append, List.length_append]) (hJ (j + 1, g + 1, none) _ _ (by exact hdec) (by simp only [go_sem, hA, e11, e3]) ⟨?_, ?_, ?_, ?_⟩) <;> try simp only [go_sem, hA, e11, e3, hw, hsn, List.map_append, List.length_append]
        exact hj
      · have hjl : j = ns.length := Nat.le_antisymm hP (Nat.le_of_not_lt hj)
        have hdl : decide ((j : Int) < (ns.length : Int)) = false := decide_eq_false (fun q => hj (Int.ofNat_lt.1 q))
        rw [← hjl] at hk
        (try simp only [go_sem, hA, e11, e3, hdl]); repeat' (first | (with_reducible first | refine c_split ?_ ?_ | refine w_split ?_ ?_) <;> intro hb <;> try simp only [go_sem, hb, hA, e11, e3, hdl] | with_reducible refine hQ _ _ ?_ <;> simp only [Tryz.f216, go_sem, hA, e11, e3, hdl])
        exact hk
theorem c_spec_PutNums (ns : List Int) (hn : ns.length ≤ 1000000) (hb : ∀ n ∈ ns, n < 9223372036854775808) (K : AV → AH → Prop) (hk : K (.one (.im ((putNums ns).map byteC))) []) : ACalls Tryz.prog 218 [(.one (.im (ns.map intC)))] [] K := by
  refine acall_c Tryz.f218.results.toList mixed Tryz.func218 rfl rfl (by kernel_rfl) ?_
  intro Q hQ hQO
  simp only [go_sem]
  (try simp only [go_sem]); repeat' (first | (with_reducible first | refine c_split ?_ ?_ | refine w_split ?_ ?_) <;> intro hb <;> try simp only [go_sem, hb] | fail)
  refine while_at (α := Nat × Nat × Option Nat) (fun ⟨j, g, cap⟩ => ns.length - j) [0] (fun ⟨j, g, cap⟩ f h => f 4 = (.one (.c (.int .i64 ((j : Int))))) ∧ f 3 = .one (.sl 0 g 0 (putTo ns j).length) ∧ h = [.own g 5 1 cap ((putTo ns j).map byteC)] ∧ j ≤ ns.length ∧ noneTo (fun n => decide (n < 0)) ns j) (0, 0, some 0) (GC.now ?_) ?_
  · simp only [go_sem, nc_0, true_and]
    exact ⟨rfl, rfl, Nat.zero_le _, noneTo_0 _ _⟩
  · rintro ⟨j, g, cap⟩ f h J hA ⟨e4, e3, rfl, hP⟩ hJ
    simp only [go_sem] at hA
    try dsimp only at hJ
    simp only [go_sem, hA, e4, e3]
    obtain ⟨hP1, hP2⟩ := hP
    by_cases hj : j < ns.length
    · have hdl : decide ((j : Int) < (ns.length : Int)) = true := decide_eq_true (Int.ofNat_lt.2 hj)
      have hg2 : ns[j]? = some ns[j] := List.getElem?_eq_getElem hj
      have hil2 : (j : Int) < (ns.length : Int) := Int.ofNat_lt.2 hj
      have hsn := putTo_s ns j hj
      have hw : wrap64 ((j : Int) + 1) = ((j + 1 : Nat) : Int) := wrap_nat j (Nat.lt_of_lt_of_le hj (Nat.le_trans hn (by decide)))
      have hdec : ns.length - (j + 1) < ns.length - j := Nat.sub_lt_sub_left hj (Nat.lt_succ_self j)
      have hx := hb _ (List.getElem_mem hj)
      have hr := put_room (putTo_len hb j hP1) (Nat.le_trans hP1 hn) (putN_le10 hx)
      cases hc : decide (ns[j] < 0) with
      | true =>
        have hany : ns.any (fun n => decide (n < 0)) = true := List.any_eq_true.2 ⟨_, List.getElem_mem hj, hc⟩
        rw [putNums, if_pos hany] at hk
        (try simp only [go_sem, hA, e4, e3, hdl, hg2, hil2, hc]); repeat' (first | (with_reducible first | refine c_split ?_ ?_ | refine w_split ?_ ?_) <;> intro hb <;> try simp only [go_sem, hb, hA, e4, e3, hdl, hg2, hil2, hc] | with_reducible refine hQ _ _ ?_ <;> simp only [Tryz.f218, go_sem, hA, e4, e3, hdl, hg2, hil2, hc])
        exact hk
      | false =>
        (try simp only [go_sem, hA, e4, e3, hdl, hg2, hil2, hc]); repeat' (first | (with_reducible first | refine c_split ?_ ?_ | refine w_split ?_ ?_) <;> intro hb <;> try simp only [go_sem, hb, hA, e4, e3, hdl, hg2, hil2, hc] | refine call_c (c_spec_PutNum_im _ hx _ ?_) <;> try simp only [go_sem, hA, e4, e3, hdl, hg2, hil2, hc] | fail)
        refine ap_end rfl (List.length_map ..).symm hr ?_
        simp only [go_sem, hA, e4, e3]
        (try simp only [go_sem, hA, e4, e3]); repeat' (first | (with_reducible first | refine c_split ?_ ?_ | refine w_split ?_ ?_) <;> intro hb <;> try simp only [go_sem, hb, hA, e4, e3] | fail)
        refine gc_trim 1 (by decide) (by simp only [go_sem]) (by simp only [go_sem, hw, hsn, List.map_append, List.length_append]) (hJ (j + 1, g + 1, none) _ _ (by exact hdec) (by simp only [go_sem, hA, e4, e3]) ⟨?_, ?_, ?_, ?_⟩) <;> try simp only [go_sem, hA, e4, e3, hw, hsn, List.map_append, List.length_append]
        exact ⟨hj, noneTo_s hP2 hj hc⟩
    · have hjl : j = ns.length := Nat.le_antisymm hP1 (Nat.le_of_not_lt hj)
      have hdl : decide ((j : Int) < (ns.length : Int)) = false := decide_eq_false (fun q => hj (Int.ofNat_lt.1 q))
      subst hjl
      have hany : ns.any (fun n => decide (n < 0)) = false := List.any_eq_false.2 fun x hx => by
        obtain ⟨i, hi, rfl⟩ := List.mem_iff_getElem.1 hx
        have := hP2 i hi hi
        simpa using this
      rw [put_all ns hany] at hk
      (try simp only [go_sem, hA, e4, e3, hdl]); repeat' (first | (with_reducible first | refine c_split ?_ ?_ | refine w_split ?_ ?_) <;> intro hb <;> try simp only [go_sem, hb, hA, e4, e3, hdl] | with_reducible refine hQ _ _ ?_ <;> simp only [Tryz.f218, go_sem, hA, e4, e3, hdl])
      exact hk
theorem numsK_mem {α : Type} {pre : List Int} {f : α → List Int} {xs : List α} {j : Nat} {n : Int} (h : n ∈ numsK pre f xs j) : n ∈ pre ∨ ∃ x ∈ xs, n ∈ f x := by
  rw [numsK, List.mem_append, List.mem_flatMap] at h
  rcases h with h | ⟨x, hx, h⟩
  · exact .inl h
  · exact .inr ⟨x, List.mem_of_mem_take hx, h⟩
theorem wrap_lt (a : Int) : wrap64 a < 9223372036854775808 := by unfold wrap64; omega
theorem books_lt {b : Books} (h : booksOk b = true) : ∀ n ∈ booksN b, n < 9223372036854775808 := by
  obtain ⟨p1, p2, p3, p4, p5⟩ := booksOk_parts h
  have q1 := okL_len p1
  have q2 := okL_len p2
  have q3 := (balsOk_amt p3).2
  rw [lotsOk, Bool.and_eq_true] at p4
  have q4 := okL_len p4.1
  have q5 := okL_len p5
  have p6 : 0 ≤ b.lot ∧ b.lot ≤ 1000000000 := by
    simp only [booksOk, listsOk, Bool.and_eq_true] at h
    exact of_decide_eq_true h.1.1.1.2
  intro n hn
  rw [booksN, List.mem_append] at hn
  rcases hn with hn | hn
  · rcases numsK_mem hn with hn | ⟨x, hx, hn⟩
    · rw [preN4, List.mem_append] at hn
      rcases hn with hn | hn
      · rcases numsK_mem hn with hn | ⟨x, hx, hn⟩
        · rw [preN3, List.mem_append] at hn
          rcases hn with hn | hn
          · rcases numsK_mem hn with hn | ⟨x, hx, hn⟩
            · rw [preN2, List.mem_append] at hn
              rcases hn with hn | hn
              · rcases numsK_mem hn with hn | ⟨x, hx, hn⟩
                · rw [preN1, List.mem_append] at hn
                  rcases hn with hn | hn
                  · rcases numsK_mem hn with hn | ⟨x, hx, hn⟩
                    · simp only [preN0, List.mem_singleton] at hn; omega
                    · have q := okL_p p1 hx
                      simp only [accP, noOk, Bool.and_eq_true, decide_eq_true_eq] at q
                      simp only [accN, List.mem_cons, List.not_mem_nil, or_false] at hn
                      omega
                  · simp only [List.mem_singleton] at hn; omega
                · have q := okL_p p2 hx
                  simp only [insP, noOk, Bool.and_eq_true, decide_eq_true_eq] at q
                  simp only [accN, List.mem_cons, List.not_mem_nil, or_false] at hn
                  omega
              · simp only [List.mem_singleton] at hn; omega
            · have q := okL_p p3 hx
              have hw := wrap_lt (x.amount + 1000000000000000)
              simp only [balP, noOk, Bool.and_eq_true, decide_eq_true_eq] at q
              simp only [balN, List.mem_cons, List.not_mem_nil, or_false] at hn
              omega
          · simp only [List.mem_singleton] at hn; omega
        · have q := okL_p p4.1 hx
          simp only [lotP, noOk, Bool.and_eq_true, decide_eq_true_eq] at q
          simp only [lotN, List.mem_cons, List.not_mem_nil, or_false] at hn
          omega
      · simp only [List.mem_singleton] at hn; omega
    · have q := okL_p p5 hx
      simp only [trP, noOk, Bool.and_eq_true, decide_eq_true_eq] at q
      simp only [trdN, List.mem_cons, List.not_mem_nil, or_false] at hn
      omega
  · simp only [List.mem_singleton] at hn; omega
def packS (b : Books) : List UInt8 := putNums (booksN b)
theorem packS_len {b : Books} (h : booksOk b = true) : (packS b).length ≤ 20000 := by
  unfold packS putNums
  split
  · exact Nat.zero_le _
  · have h1 := putTo_len (books_lt h) (booksN b).length (Nat.le_refl _)
    have h2 := (pre_len h).2.2.2.2.2.1
    rw [putTo, List.take_length] at h1
    omega
theorem c_spec_BooksPack (b : Books) (hs : Small b) (K : AV → AH → Prop) (hk : K (.tup [(.one (.im ((if booksOk b = true then packS b else []).map byteC))), (.one (.c (.bool (booksOk b))))]) []) : ACalls Tryz.prog 156 [.agg (booksC b)] [] K := by
  refine acall_c Tryz.f156.results.toList mixed Tryz.func156 rfl rfl (by kernel_rfl) ?_
  intro Q hQ hQO
  simp only [go_sem]
  cases hok : booksOk b with
  | false =>
    rw [hok, if_neg (by decide)] at hk
    (try simp only [go_sem, hok]); repeat' (first | (with_reducible first | refine c_split ?_ ?_ | refine w_split ?_ ?_) <;> intro hb <;> try simp only [go_sem, hb, hok] | refine call_c (c_BooksOk b hs _ ?_) <;> try simp only [go_sem, hok] | with_reducible refine hQ _ _ ?_ <;> simp only [Tryz.f156, go_sem, hok])
    exact hk
  | true =>
    rw [hok, if_pos rfl] at hk
    (try simp only [go_sem, hok]); repeat' (first | (with_reducible first | refine c_split ?_ ?_ | refine w_split ?_ ?_) <;> intro hb <;> try simp only [go_sem, hb, hok] | (first | refine call_c (c_BooksOk b hs _ ?_) | refine call_c (c_l13Nums b hs hok _ ?_) | refine call_c (c_spec_PutNums (booksN b) (Nat.le_trans (pre_len hok).2.2.2.2.2.1 (by decide)) (books_lt hok) _ ?_) | fail) <;> try simp only [go_sem, hok] | with_reducible refine hQ _ _ ?_ <;> simp only [Tryz.f156, go_sem, hok])
    exact hk
theorem c_impl_BooksPack (b : Books) (hs : Small b) (K : AV → AH → Prop) (hk : K (.tup [(.one (.im ((if booksOk b = true then packS b else []).map byteC))), (.one (.c (.bool (booksOk b))))]) []) : ACalls Tryz.prog 151 [.agg (booksC b)] [] K := by
  refine acall_c Tryz.f151.results.toList mixed Tryz.func151 rfl rfl (by kernel_rfl) ?_
  intro Q hQ hQO
  simp only [go_sem]
  cases hok : booksOk b with
  | false =>
    rw [hok, if_neg (by decide)] at hk
    (try simp only [go_sem, hok]); repeat' (first | (with_reducible first | refine c_split ?_ ?_ | refine w_split ?_ ?_) <;> intro hb <;> try simp only [go_sem, hb, hok] | refine call_c (c_impl_BooksOk b hs _ ?_) <;> try simp only [go_sem, hok] | with_reducible refine hQ _ _ ?_ <;> simp only [Tryz.f151, go_sem, hok])
    exact hk
  | true =>
    rw [hok, if_pos rfl, packS] at hk
    have cP := fun K' hk' => c_impl_PutNums (booksN b) (Nat.le_trans (pre_len hok).2.2.2.2.2.1 (by decide)) (books_lt hok) K' hk'
    have lens := (pre_len hok).2.2.2.2.2.2
    have l0 : b.accounts.length ≤ 1000000000 := hs.ha
    have l1 : b.instrs.length ≤ 1000000000 := hs.hi
    have l2 : b.bals.length ≤ 1000000000 := hs.hb
    have l3 : b.lots.length ≤ 1000000000 := hs.hl
    have l4 : b.trades.length ≤ 1000000000 := hs.ht
    (try simp only [go_sem, hok]); repeat' (first | (with_reducible first | refine c_split ?_ ?_ | refine w_split ?_ ?_) <;> intro hb <;> try simp only [go_sem, hb, hok] | refine call_c (c_impl_BooksOk b hs _ ?_) <;> try simp only [go_sem, hok] | fail)
    have z0 := lens.1
    refine while_at (α := Nat × Nat × Option Nat) (fun ⟨j0, g0, c0⟩ => b.accounts.length - j0) [1, 23, 24] (fun ⟨j0, g0, c0⟩ f h => f 25 = (.one (.c (.int .i64 ((j0 : Int))))) ∧ f 4 = .one (.sl 1 g0 0 (numsK (preN0 b) accN b.accounts j0).length) ∧ h = [.own 0 31 6 (some 1) [booksC b], .own g0 3 1 c0 ((numsK (preN0 b) accN b.accounts j0).map intC)] ∧ j0 ≤ b.accounts.length) (0, 0, some 1) (GC.now ?_) ?_
    · simp only [go_sem, nc_0, true_and]
      rw [numsK_0]; exact ⟨rfl, rfl, Nat.zero_le _⟩
    · rintro ⟨j0, g0, c0⟩ f h J hA ⟨e25, e4, rfl, hP⟩ hJ
      simp only [go_sem] at hA
      try dsimp only at hJ
      simp only [go_sem, hA, e25, e4]
      have hr := fun (x : List (List CV)) hx => num_room (x := x) (Nat.le_trans (z0 j0) (by decide : 2000 ≤ 100000000)) hx
      by_cases hj : j0 < b.accounts.length
      · have hdl : decide ((j0 : Int) < (b.accounts.length : Int)) = true := decide_eq_true (Int.ofNat_lt.2 hj)
        have hg2 : b.accounts[j0]? = some b.accounts[j0] := List.getElem?_eq_getElem hj
        have hil2 : (j0 : Int) < (b.accounts.length : Int) := Int.ofNat_lt.2 hj
        have hsn := numsK_s (preN0 b) accN b.accounts j0 hj
        rw [accN] at hsn
        have hw : wrap64 ((j0 : Int) + 1) = ((j0 + 1 : Nat) : Int) := wrap_nat j0 (Nat.lt_of_lt_of_le hj (Nat.le_trans l0 (by decide)))
        have hdec : b.accounts.length - (j0 + 1) < b.accounts.length - j0 := Nat.sub_lt_sub_left hj (Nat.lt_succ_self j0)
        (try simp only [go_sem, hA, e25, e4, hdl, hg2, hil2]); repeat' (first | (with_reducible first | refine c_split ?_ ?_ | refine w_split ?_ ?_) <;> intro hb <;> try simp only [go_sem, hb, hA, e25, e4, hdl, hg2, hil2] | fail)
        refine ap_end rfl (List.length_map ..).symm (by exact hr _ (Nat.le_of_ble_eq_true rfl)) ?_
        simp only [go_sem, hA, e25, e4]
        (try simp only [go_sem, hA, e25, e4]); repeat' (first | (with_reducible first | refine c_split ?_ ?_ | refine w_split ?_ ?_) <;> intro hb <;> try simp only [go_sem, hb, hA, e25, e4] | fail)
        refine gc_trim 2 (by decide) (by simp only [go_sem]) (by simp only [go_sem, hw, hsn, List.map_append, List.map_cons, List.map_nil]) (hJ (j0 + 1, g0 + 1, none) _ _ (by exact hdec) (by simp only [go_sem, hA, e25, e4]) ⟨?_, ?_, ?_, ?_⟩) <;> try simp only [go_sem, hA, e25, e4, hw, hsn, List.map_append, List.map_cons, List.map_nil]
        exact hj
      · have hjl : j0 = b.accounts.length := Nat.le_antisymm hP (Nat.le_of_not_lt hj)
        have hdl : decide ((j0 : Int) < (b.accounts.length : Int)) = false := decide_eq_false (fun q => hj (Int.ofNat_lt.1 q))
        (try simp only [go_sem, hA, e25, e4, hdl]); repeat' (first | (with_reducible first | refine c_split ?_ ?_ | refine w_split ?_ ?_) <;> intro hb <;> try simp only [go_sem, hb, hA, e25, e4, hdl] | fail)
        refine ap_end rfl (List.length_map ..).symm (by exact hr _ (Nat.le_of_ble_eq_true rfl)) ?_
        simp only [go_sem, hA, e25, e4]
        have hp1 : preN1 b = numsK (preN0 b) accN b.accounts j0 ++ [(b.instrs.length : Int)] := by rw [preN1, hjl]
        (try simp only [go_sem, hA, e25, e4]); repeat' (first | (with_reducible first | refine c_split ?_ ?_ | refine w_split ?_ ?_) <;> intro hb <;> try simp only [go_sem, hb, hA, e25, e4] | fail)
        have hq0 := hA
        clear hJ hA hj hdl hr
        have z1 := lens.2.1
        refine while_at (α := Nat × Nat × Option Nat) (fun ⟨j1, g1, c1⟩ => b.instrs.length - j1) [1, 44, 45] (fun ⟨j1, g1, c1⟩ f h => f 46 = (.one (.c (.int .i64 ((j1 : Int))))) ∧ f 4 = .one (.sl 1 g1 0 (numsK (preN1 b) accN b.instrs j1).length) ∧ h = [.own 0 31 6 (some 1) [booksC b], .own g1 3 1 c1 ((numsK (preN1 b) accN b.instrs j1).map intC), .own 0 3 1 (some 1) [[.c (.int .i64 ((b.instrs.length : Int)))]]] ∧ j1 ≤ b.instrs.length) (0, g0 + 1, none) (GC.now ?_) ?_
        · simp only [go_sem, nc_0, true_and, hq0]
          rw [numsK_0, hp1]; exact ⟨by rw [List.length_append]; rfl, by first | (rw [List.map_append]; done) | (rw [List.map_append]; rfl), Nat.zero_le _⟩
        · rintro ⟨j1, g1, c1⟩ f h J hA ⟨e46, e4, rfl, hP⟩ hJ
          simp only [go_sem, hq0] at hA
          try dsimp only at hJ
          simp only [go_sem, hA, e46, e4, hq0]
          try simp only [hq0] at hA
          have hr := fun (x : List (List CV)) hx => num_room (x := x) (Nat.le_trans (z1 j1) (by decide : 2000 ≤ 100000000)) hx
          by_cases hj : j1 < b.instrs.length
          · have hdl : decide ((j1 : Int) < (b.instrs.length : Int)) = true := decide_eq_true (Int.ofNat_lt.2 hj)
            have hg2 : b.instrs[j1]? = some b.instrs[j1] := List.getElem?_eq_getElem hj
            have hil2 : (j1 : Int) < (b.instrs.length : Int) := Int.ofNat_lt.2 hj
            have hsn := numsK_s (preN1 b) accN b.instrs j1 hj
            rw [accN] at hsn
            have hw : wrap64 ((j1 : Int) + 1) = ((j1 + 1 : Nat) : Int) := wrap_nat j1 (Nat.lt_of_lt_of_le hj (Nat.le_trans l1 (by decide)))
            have hdec : b.instrs.length - (j1 + 1) < b.instrs.length - j1 := Nat.sub_lt_sub_left hj (Nat.lt_succ_self j1)
            (try simp only [go_sem, hA, e46, e4, hq0, hdl, hg2, hil2]); repeat' (first | (with_reducible first | refine c_split ?_ ?_ | refine w_split ?_ ?_) <;> intro hb <;> try simp only [go_sem, hb, hA, e46, e4, hq0, hdl, hg2, hil2] | fail)
            refine ap_end rfl (List.length_map ..).symm (by exact hr _ (Nat.le_of_ble_eq_true rfl)) ?_
            simp only [go_sem, hA, e46, e4, hq0]
            (try simp only [go_sem, hA, e46, e4, hq0]); repeat' (first | (with_reducible first | refine c_split ?_ ?_ | refine w_split ?_ ?_) <;> intro hb <;> try simp only [go_sem, hb, hA, e46, e4, hq0] | fail)
            refine gc_trim 3 (by decide) (by simp only [go_sem]) (by simp only [go_sem, hw, hsn, List.map_append, List.map_cons, List.map_nil]) (hJ (j1 + 1, g1 + 1, none) _ _ (by exact hdec) (by simp only [go_sem, hA, e46, e4, hq0]) ⟨?_, ?_, ?_, ?_⟩) <;> try simp only [go_sem, hA, e46, e4, hq0, hw, hsn, List.map_append, List.map_cons, List.map_nil]
            exact hj
          · have hjl : j1 = b.instrs.length := Nat.le_antisymm hP (Nat.le_of_not_lt hj)
            have hdl : decide ((j1 : Int) < (b.instrs.length : Int)) = false := decide_eq_false (fun q => hj (Int.ofNat_lt.1 q))
            (try simp only [go_sem, hA, e46, e4, hq0, hdl]); repeat' (first | (with_reducible first | refine c_split ?_ ?_ | refine w_split ?_ ?_) <;> intro hb <;> try simp only [go_sem, hb, hA, e46, e4, hq0, hdl] | fail)
            refine ap_end rfl (List.length_map ..).symm (by exact hr _ (Nat.le_of_ble_eq_true rfl)) ?_
            simp only [go_sem, hA, e46, e4, hq0]
            have hp2 : preN2 b = numsK (preN1 b) accN b.instrs j1 ++ [(b.bals.length : Int)] := by rw [preN2, hjl]
            (try simp only [go_sem, hA, e46, e4, hq0]); repeat' (first | (with_reducible first | refine c_split ?_ ?_ | refine w_split ?_ ?_) <;> intro hb <;> try simp only [go_sem, hb, hA, e46, e4, hq0] | fail)
            have hq1 := hA
            clear hJ hA hj hdl hr
            have z2 := lens.2.2.1
            refine while_at (α := Nat × Nat × Option Nat) (fun ⟨j2, g2, c2⟩ => b.bals.length - j2) [1, 65, 66] (fun ⟨j2, g2, c2⟩ f h => f 67 = (.one (.c (.int .i64 ((j2 : Int))))) ∧ f 4 = .one (.sl 1 g2 0 (numsK (preN2 b) balN b.bals j2).length) ∧ h = [.own 0 31 6 (some 1) [booksC b], .own g2 3 1 c2 ((numsK (preN2 b) balN b.bals j2).map intC), .own 0 3 1 (some 1) [[.c (.int .i64 ((b.instrs.length : Int)))]], .own 0 3 1 (some 1) [[.c (.int .i64 ((b.bals.length : Int)))]]] ∧ j2 ≤ b.bals.length) (0, g1 + 1, none) (GC.now ?_) ?_
            · simp only [go_sem, nc_0, true_and, hq1]
              rw [numsK_0, hp2]; exact ⟨by rw [List.length_append]; rfl, by first | (rw [List.map_append]; done) | (rw [List.map_append]; rfl), Nat.zero_le _⟩
            · rintro ⟨j2, g2, c2⟩ f h J hA ⟨e67, e4, rfl, hP⟩ hJ
              simp only [go_sem, hq1] at hA
              try dsimp only at hJ
              simp only [go_sem, hA, e67, e4, hq1]
              try simp only [hq1] at hA
              have hr := fun (x : List (List CV)) hx => num_room (x := x) (Nat.le_trans (z2 j2) (by decide : 2000 ≤ 100000000)) hx
              by_cases hj : j2 < b.bals.length
              · have hdl : decide ((j2 : Int) < (b.bals.length : Int)) = true := decide_eq_true (Int.ofNat_lt.2 hj)
                have hg2 : b.bals[j2]? = some b.bals[j2] := List.getElem?_eq_getElem hj
                have hil2 : (j2 : Int) < (b.bals.length : Int) := Int.ofNat_lt.2 hj
                have hsn := numsK_s (preN2 b) balN b.bals j2 hj
                rw [balN] at hsn
                have hw : wrap64 ((j2 : Int) + 1) = ((j2 + 1 : Nat) : Int) := wrap_nat j2 (Nat.lt_of_lt_of_le hj (Nat.le_trans l2 (by decide)))
                have hdec : b.bals.length - (j2 + 1) < b.bals.length - j2 := Nat.sub_lt_sub_left hj (Nat.lt_succ_self j2)
                (try simp only [go_sem, hA, e67, e4, hq1, hdl, hg2, hil2]); repeat' (first | (with_reducible first | refine c_split ?_ ?_ | refine w_split ?_ ?_) <;> intro hb <;> try simp only [go_sem, hb, hA, e67, e4, hq1, hdl, hg2, hil2] | fail)
                refine ap_end rfl (List.length_map ..).symm (by exact hr _ (Nat.le_of_ble_eq_true rfl)) ?_
                simp only [go_sem, hA, e67, e4, hq1]
                (try simp only [go_sem, hA, e67, e4, hq1]); repeat' (first | (with_reducible first | refine c_split ?_ ?_ | refine w_split ?_ ?_) <;> intro hb <;> try simp only [go_sem, hb, hA, e67, e4, hq1] | fail)
                refine gc_trim 4 (by decide) (by simp only [go_sem]) (by simp only [go_sem, hw, hsn, List.map_append, List.map_cons, List.map_nil]) (hJ (j2 + 1, g2 + 1, none) _ _ (by exact hdec) (by simp only [go_sem, hA, e67, e4, hq1]) ⟨?_, ?_, ?_, ?_⟩) <;> try simp only [go_sem, hA, e67, e4, hq1, hw, hsn, List.map_append, List.map_cons, List.map_nil]
                exact hj
              · have hjl : j2 = b.bals.length := Nat.le_antisymm hP (Nat.le_of_not_lt hj)
                have hdl : decide ((j2 : Int) < (b.bals.length : Int)) = false := decide_eq_false (fun q => hj (Int.ofNat_lt.1 q))
                (try simp only [go_sem, hA, e67, e4, hq1, hdl]); repeat' (first | (with_reducible first | refine c_split ?_ ?_ | refine w_split ?_ ?_) <;> intro hb <;> try simp only [go_sem, hb, hA, e67, e4, hq1, hdl] | fail)
                refine ap_end rfl (List.length_map ..).symm (by exact hr _ (Nat.le_of_ble_eq_true rfl)) ?_
                simp only [go_sem, hA, e67, e4, hq1]
                have hp3 : preN3 b = numsK (preN2 b) balN b.bals j2 ++ [(b.lots.length : Int)] := by rw [preN3, hjl]
                (try simp only [go_sem, hA, e67, e4, hq1]); repeat' (first | (with_reducible first | refine c_split ?_ ?_ | refine w_split ?_ ?_) <;> intro hb <;> try simp only [go_sem, hb, hA, e67, e4, hq1] | fail)
                have hq2 := hA
                clear hJ hA hj hdl hr
                have z3 := lens.2.2.2.1
                refine while_at (α := Nat × Nat × Option Nat) (fun ⟨j3, g3, c3⟩ => b.lots.length - j3) [1, 89, 90] (fun ⟨j3, g3, c3⟩ f h => f 91 = (.one (.c (.int .i64 ((j3 : Int))))) ∧ f 4 = .one (.sl 1 g3 0 (numsK (preN3 b) lotN b.lots j3).length) ∧ h = [.own 0 31 6 (some 1) [booksC b], .own g3 3 1 c3 ((numsK (preN3 b) lotN b.lots j3).map intC), .own 0 3 1 (some 1) [[.c (.int .i64 ((b.instrs.length : Int)))]], .own 0 3 1 (some 1) [[.c (.int .i64 ((b.bals.length : Int)))]], .own 0 3 1 (some 1) [[.c (.int .i64 ((b.lots.length : Int)))]]] ∧ j3 ≤ b.lots.length) (0, g2 + 1, none) (GC.now ?_) ?_
                · simp only [go_sem, nc_0, true_and, hq2]
                  rw [numsK_0, hp3]; exact ⟨by rw [List.length_append]; rfl, by first | (rw [List.map_append]; done) | (rw [List.map_append]; rfl), Nat.zero_le _⟩
                · rintro ⟨j3, g3, c3⟩ f h J hA ⟨e91, e4, rfl, hP⟩ hJ
                  simp only [go_sem, hq2] at hA
                  try dsimp only at hJ
                  simp only [go_sem, hA, e91, e4, hq2]
                  try simp only [hq2] at hA
                  have hr := fun (x : List (List CV)) hx => num_room (x := x) (Nat.le_trans (z3 j3) (by decide : 2000 ≤ 100000000)) hx
                  by_cases hj : j3 < b.lots.length
                  · have hdl : decide ((j3 : Int) < (b.lots.length : Int)) = true := decide_eq_true (Int.ofNat_lt.2 hj)
                    have hg2 : b.lots[j3]? = some b.lots[j3] := List.getElem?_eq_getElem hj
                    have hil2 : (j3 : Int) < (b.lots.length : Int) := Int.ofNat_lt.2 hj
                    have hsn := numsK_s (preN3 b) lotN b.lots j3 hj
                    rw [lotN] at hsn
                    have hw : wrap64 ((j3 : Int) + 1) = ((j3 + 1 : Nat) : Int) := wrap_nat j3 (Nat.lt_of_lt_of_le hj (Nat.le_trans l3 (by decide)))
                    have hdec : b.lots.length - (j3 + 1) < b.lots.length - j3 := Nat.sub_lt_sub_left hj (Nat.lt_succ_self j3)
                    (try simp only [go_sem, hA, e91, e4, hq2, hdl, hg2, hil2]); repeat' (first | (with_reducible first | refine c_split ?_ ?_ | refine w_split ?_ ?_) <;> intro hb <;> try simp only [go_sem, hb, hA, e91, e4, hq2, hdl, hg2, hil2] | fail)
                    refine ap_end rfl (List.length_map ..).symm (by exact hr _ (Nat.le_of_ble_eq_true rfl)) ?_
                    simp only [go_sem, hA, e91, e4, hq2]
                    (try simp only [go_sem, hA, e91, e4, hq2]); repeat' (first | (with_reducible first | refine c_split ?_ ?_ | refine w_split ?_ ?_) <;> intro hb <;> try simp only [go_sem, hb, hA, e91, e4, hq2] | fail)
                    refine gc_trim 5 (by decide) (by simp only [go_sem]) (by simp only [go_sem, hw, hsn, List.map_append, List.map_cons, List.map_nil]) (hJ (j3 + 1, g3 + 1, none) _ _ (by exact hdec) (by simp only [go_sem, hA, e91, e4, hq2]) ⟨?_, ?_, ?_, ?_⟩) <;> try simp only [go_sem, hA, e91, e4, hq2, hw, hsn, List.map_append, List.map_cons, List.map_nil]
                    exact hj
                  · have hjl : j3 = b.lots.length := Nat.le_antisymm hP (Nat.le_of_not_lt hj)
                    have hdl : decide ((j3 : Int) < (b.lots.length : Int)) = false := decide_eq_false (fun q => hj (Int.ofNat_lt.1 q))
                    (try simp only [go_sem, hA, e91, e4, hq2, hdl]); repeat' (first | (with_reducible first | refine c_split ?_ ?_ | refine w_split ?_ ?_) <;> intro hb <;> try simp only [go_sem, hb, hA, e91, e4, hq2, hdl] | fail)
                    refine ap_end rfl (List.length_map ..).symm (by exact hr _ (Nat.le_of_ble_eq_true rfl)) ?_
                    simp only [go_sem, hA, e91, e4, hq2]
                    have hp4 : preN4 b = numsK (preN3 b) lotN b.lots j3 ++ [(b.trades.length : Int)] := by rw [preN4, hjl]
                    (try simp only [go_sem, hA, e91, e4, hq2]); repeat' (first | (with_reducible first | refine c_split ?_ ?_ | refine w_split ?_ ?_) <;> intro hb <;> try simp only [go_sem, hb, hA, e91, e4, hq2] | fail)
                    have hq3 := hA
                    clear hJ hA hj hdl hr
                    have z4 := lens.2.2.2.2
                    refine while_at (α := Nat × Nat × Option Nat) (fun ⟨j4, g4, c4⟩ => b.trades.length - j4) [1, 116, 117] (fun ⟨j4, g4, c4⟩ f h => f 118 = (.one (.c (.int .i64 ((j4 : Int))))) ∧ f 4 = .one (.sl 1 g4 0 (numsK (preN4 b) trdN b.trades j4).length) ∧ h = [.own 0 31 6 (some 1) [booksC b], .own g4 3 1 c4 ((numsK (preN4 b) trdN b.trades j4).map intC), .own 0 3 1 (some 1) [[.c (.int .i64 ((b.instrs.length : Int)))]], .own 0 3 1 (some 1) [[.c (.int .i64 ((b.bals.length : Int)))]], .own 0 3 1 (some 1) [[.c (.int .i64 ((b.lots.length : Int)))]], .own 0 3 1 (some 1) [[.c (.int .i64 ((b.trades.length : Int)))]]] ∧ j4 ≤ b.trades.length) (0, g3 + 1, none) (GC.now ?_) ?_
                    · simp only [go_sem, nc_0, true_and, hq3]
                      rw [numsK_0, hp4]; exact ⟨by rw [List.length_append]; rfl, by first | (rw [List.map_append]; done) | (rw [List.map_append]; rfl), Nat.zero_le _⟩
                    · rintro ⟨j4, g4, c4⟩ f h J hA ⟨e118, e4, rfl, hP⟩ hJ
                      simp only [go_sem, hq3] at hA
                      try dsimp only at hJ
                      simp only [go_sem, hA, e118, e4, hq3]
                      try simp only [hq3] at hA
                      have hr := fun (x : List (List CV)) hx => num_room (x := x) (Nat.le_trans (z4 j4) (by decide : 2000 ≤ 100000000)) hx
                      by_cases hj : j4 < b.trades.length
                      · have hdl : decide ((j4 : Int) < (b.trades.length : Int)) = true := decide_eq_true (Int.ofNat_lt.2 hj)
                        have hg2 : b.trades[j4]? = some b.trades[j4] := List.getElem?_eq_getElem hj
                        have hil2 : (j4 : Int) < (b.trades.length : Int) := Int.ofNat_lt.2 hj
                        have hsn := numsK_s (preN4 b) trdN b.trades j4 hj
                        rw [trdN] at hsn
                        have hw : wrap64 ((j4 : Int) + 1) = ((j4 + 1 : Nat) : Int) := wrap_nat j4 (Nat.lt_of_lt_of_le hj (Nat.le_trans l4 (by decide)))
                        have hdec : b.trades.length - (j4 + 1) < b.trades.length - j4 := Nat.sub_lt_sub_left hj (Nat.lt_succ_self j4)
                        (try simp only [go_sem, hA, e118, e4, hq3, hdl, hg2, hil2]); repeat' (first | (with_reducible first | refine c_split ?_ ?_ | refine w_split ?_ ?_) <;> intro hb <;> try simp only [go_sem, hb, hA, e118, e4, hq3, hdl, hg2, hil2] | fail)
                        refine ap_end rfl (List.length_map ..).symm (by exact hr _ (Nat.le_of_ble_eq_true rfl)) ?_
                        simp only [go_sem, hA, e118, e4, hq3]
                        (try simp only [go_sem, hA, e118, e4, hq3]); repeat' (first | (with_reducible first | refine c_split ?_ ?_ | refine w_split ?_ ?_) <;> intro hb <;> try simp only [go_sem, hb, hA, e118, e4, hq3] | fail)
                        refine gc_trim 6 (by decide) (by simp only [go_sem]) (by simp only [go_sem, hw, hsn, List.map_append, List.map_cons, List.map_nil]) (hJ (j4 + 1, g4 + 1, none) _ _ (by exact hdec) (by simp only [go_sem, hA, e118, e4, hq3]) ⟨?_, ?_, ?_, ?_⟩) <;> try simp only [go_sem, hA, e118, e4, hq3, hw, hsn, List.map_append, List.map_cons, List.map_nil]
                        exact hj
                      · have hjl : j4 = b.trades.length := Nat.le_antisymm hP (Nat.le_of_not_lt hj)
                        have hdl : decide ((j4 : Int) < (b.trades.length : Int)) = false := decide_eq_false (fun q => hj (Int.ofNat_lt.1 q))
                        (try simp only [go_sem, hA, e118, e4, hq3, hdl]); repeat' (first | (with_reducible first | refine c_split ?_ ?_ | refine w_split ?_ ?_) <;> intro hb <;> try simp only [go_sem, hb, hA, e118, e4, hq3, hdl] | fail)
                        refine ap_end rfl (List.length_map ..).symm (by exact hr _ (Nat.le_of_ble_eq_true rfl)) ?_
                        simp only [go_sem, hA, e118, e4, hq3]
                        have hp5 : booksN b = numsK (preN4 b) trdN b.trades j4 ++ [b.lot] := by rw [booksN, hjl]
                        rw [hp5] at hk cP
                        have htk : ∀ x : Int, List.take ((numsK (preN4 b) trdN b.trades j4).length + 1) (List.map intC (numsK (preN4 b) trdN b.trades j4 ++ [x])) = List.map intC (numsK (preN4 b) trdN b.trades j4 ++ [x]) := fun x => List.take_of_length_le (by simp)
                        (try simp only [go_sem, hA, e118, e4, hq3, htk]); repeat' (first | (with_reducible first | refine c_split ?_ ?_ | refine w_split ?_ ?_) <;> intro hb <;> try simp only [go_sem, hb, hA, e118, e4, hq3, htk] | refine call_c (cP _ ?_) <;> try simp only [go_sem, hA, e118, e4, hq3, htk] | with_reducible refine hQ _ _ ?_ <;> simp only [Tryz.f151, go_sem, hA, e118, e4, hq3, htk])
                        exact hk
end Go.Proofs.YtlefjpbhbiajfaaGreat
end
section
namespace Go.Proofs.YtlefjpbhbiajfaaGreat
open Go.BL Go.RowKit
set_option linter.unusedVariables false
set_option linter.unusedSimpArgs false
set_option maxRecDepth 100000
attribute [local go_sem] accountC balC lotC tradeC booksC booksA fileC diskC
structure Save where
  from_ : Int
  books : Books
def saveC (s : Save) : List CV := [.c (.int .i64 (s.from_)), .im (s.books.accounts.map accountC), .im (s.books.instrs.map accountC), .im (s.books.bals.map balC), .im (s.books.lots.map lotC), .im (s.books.trades.map tradeC), .c (.int .i64 (s.books.lot))]
structure Eng where
  up : Bool
  disk : Disk
  books : Books
  seg : Int
  count : Int
def engC (e : Eng) : List CV := [.c (.bool (e.up)), .c (.int .i64 (e.disk.room)), .im (e.disk.files.map fileC), .im (e.books.accounts.map accountC), .im (e.books.instrs.map accountC), .im (e.books.bals.map balC), .im (e.books.lots.map lotC), .im (e.books.trades.map tradeC), .c (.int .i64 (e.books.lot)), .c (.int .i64 (e.seg)), .c (.int .i64 (e.count))]
structure LargeE (e : Eng) : Prop where
  hz : SizedF e.disk.files
  hn : e.disk.files.length ≤ 1000000000000000
  hb : Large e.books
end Go.Proofs.YtlefjpbhbiajfaaGreat
end
section
namespace Go.Proofs.YtlefjpbhbiajfaaGreat
open Go.BL Go.RowKit
set_option linter.unusedVariables false
set_option linter.unusedSimpArgs false
set_option maxRecDepth 100000
attribute [local go_sem] accountC balC lotC tradeC booksC booksA saveC byteC
def saveBody (s : Save) : List UInt8 := putNum s.from_ ++ packS s.books
def saveGood (s : Save) : Bool := booksOk s.books && decide (0 ≤ s.from_ ∧ s.from_ ≤ 19) && !decide (9000 < (saveBody s).length)
def saveT (s : Save) : ByteArray := if saveGood s = true then ⟨(sealS (saveBody s)).1.toArray⟩ else ⟨#[]⟩
theorem save_sealed {s : Save} (h1 : booksOk s.books = true) (h2 : decide (0 ≤ s.from_ ∧ s.from_ ≤ 19) = true) : saveGood s = (sealS (saveBody s)).2 ∧ saveT s = ⟨(sealS (saveBody s)).1.toArray⟩ := by
  unfold saveT saveGood sealS
  rw [h1, h2]
  by_cases h : 9000 < (saveBody s).length
  · simp [h]
  · simp [h]
theorem save_len {s : Save} (h1 : booksOk s.books = true) (h2 : decide (0 ≤ s.from_ ∧ s.from_ ≤ 19) = true) : (saveBody s).length ≤ 1000000 ∧ (putNum s.from_).length ≤ 10 := by
  have h3 := of_decide_eq_true h2
  have := packS_len h1
  have h4 := putN_le10 (n := s.from_) (by omega)
  rw [saveBody, List.length_append]
  omega
theorem save_room {p q : List UInt8} (h1 : p.length ≤ 10) (h2 : q.length ≤ 20000) : ((p.map byteC).length + (q.map byteC).length) * 1 ≤ 140737488355328 := by rw [List.length_map, List.length_map]; omega
theorem c_impl_SavePack (s : Save) (hs : Small s.books) (K : AV → AH → Prop) (hk : K (.tup [(.one (.c (.string (saveT s)))), (.one (.c (.bool (saveGood s))))]) []) : ACalls Tryz.prog 68 [.agg (saveC s)] [] K := by
  refine acall_c Tryz.f68.results.toList mixed Tryz.func68 rfl rfl (by kernel_rfl) ?_
  intro Q hQ hQO
  simp only [go_sem]
  cases h1 : booksOk s.books with
  | false =>
    have e : saveGood s = false := by rw [saveGood, h1]; rfl
    rw [saveT, e, if_neg (by decide)] at hk
    (try simp only [go_sem, h1]); repeat' (first | (with_reducible first | refine c_split ?_ ?_ | refine w_split ?_ ?_) <;> intro hb <;> try simp only [go_sem, hb, h1] | refine call_c (c_impl_BooksPack s.books hs _ ?_) <;> try simp only [go_sem, h1] | with_reducible refine hQ _ _ ?_ <;> simp only [Tryz.f68, go_sem, h1])
    exact hk
  | true =>
    cases h2 : decide (0 ≤ s.from_ ∧ s.from_ ≤ 19) with
    | false =>
      have e : saveGood s = false := by rw [saveGood, h1, h2]; rfl
      rw [saveT, e, if_neg (by decide)] at hk
      (try simp only [go_sem, h1, h2]); repeat' (first | (with_reducible first | refine c_split ?_ ?_ | refine w_split ?_ ?_) <;> intro hb <;> try simp only [go_sem, hb, h1, h2] | (first | refine call_c (c_impl_BooksPack s.books hs _ ?_) | refine call_c (c_isSeg _ _ ?_) | fail) <;> try simp only [go_sem, h1, h2] | with_reducible refine hQ _ _ ?_ <;> simp only [Tryz.f68, go_sem, h1, h2])
      exact hk
    | true =>
      obtain ⟨e1, e2⟩ := save_sealed h1 h2
      obtain ⟨hl, hl2⟩ := save_len h1 h2
      have hfr := of_decide_eq_true h2
      rw [e1, e2] at hk
      have hsb : saveBody s = putNum s.from_ ++ packS s.books := rfl
      have cS := fun K' hk' => c_impl_Seal (saveBody s) (Nat.le_trans hl (by decide)) K' hk'
      rw [hsb] at cS
      have hso : strOf (List.map (fun b => (b.toNat : Int)) (sealS (saveBody s)).1) = (⟨(sealS (saveBody s)).1.toArray⟩ : ByteArray) := so_map _
      rw [hsb] at hk hso
      (try simp only [go_sem, h1, h2]); repeat' (first | (with_reducible first | refine c_split ?_ ?_ | refine w_split ?_ ?_) <;> intro hb <;> try simp only [go_sem, hb, h1, h2] | (first | refine call_c (c_impl_BooksPack s.books hs _ ?_) | refine call_c (c_isSeg _ _ ?_) | refine call_c (c_impl_PutNum s.from_ (by omega) _ ?_) | fail) <;> try simp only [go_sem, h1, h2] | fail)
      refine ap_end rfl (List.length_map ..).symm (save_room hl2 (packS_len h1)) ?_
      simp only [go_sem]
      have htk : List.take ((putNum s.from_).length + (packS s.books).length) (List.map byteC (putNum s.from_) ++ List.map byteC (packS s.books)) = List.map byteC (putNum s.from_ ++ packS s.books) := by rw [← List.map_append]; exact List.take_of_length_le (by simp)
      cases hg : (sealS (putNum s.from_ ++ packS s.books)).2 with
      | false =>
        have hem : (sealS (putNum s.from_ ++ packS s.books)).1 = [] := by
          unfold sealS at hg ⊢
          split at hg
          · rename_i q; rw [if_pos q]
          · cases hg
        rw [hg, hem] at hk
        rw [hem] at hso
        (try simp only [go_sem, List.length_map, htk, sealR, hg, hem, bo_map, so_some, hso, bytesE_map]); repeat' (first | (with_reducible first | refine c_split ?_ ?_ | refine w_split ?_ ?_) <;> intro hb <;> try simp only [go_sem, hb, List.length_map, htk, sealR, hg, hem, bo_map, so_some, hso, bytesE_map] | refine call_c (cS _ ?_) <;> try simp only [go_sem, List.length_map, htk, sealR, hg, hem, bo_map, so_some, hso, bytesE_map] | with_reducible refine hQ _ _ ?_ <;> simp only [Tryz.f68, go_sem, List.length_map, htk, sealR, hg, hem, bo_map, so_some, hso, bytesE_map])
        exact hk
      | true =>
        rw [hg] at hk
        (try simp only [go_sem, List.length_map, htk, sealR, hg, bo_map, so_some, hso, bytesE_map]); repeat' (first | (with_reducible first | refine c_split ?_ ?_ | refine w_split ?_ ?_) <;> intro hb <;> try simp only [go_sem, hb, List.length_map, htk, sealR, hg, bo_map, so_some, hso, bytesE_map] | refine call_c (cS _ ?_) <;> try simp only [go_sem, List.length_map, htk, sealR, hg, bo_map, so_some, hso, bytesE_map] | with_reducible refine hQ _ _ ?_ <;> simp only [Tryz.f68, go_sem, List.length_map, htk, sealR, hg, bo_map, so_some, hso, bytesE_map])
        exact hk
theorem c_spec_SavePack (s : Save) (hs : Small s.books) (K : AV → AH → Prop) (hk : K (.tup [(.one (.c (.string (saveT s)))), (.one (.c (.bool (saveGood s))))]) []) : ACalls Tryz.prog 71 [.agg (saveC s)] [] K := by
  refine acall_c Tryz.f71.results.toList mixed Tryz.func71 rfl rfl (by kernel_rfl) ?_
  intro Q hQ hQO
  simp only [go_sem]
  cases h1 : booksOk s.books with
  | false =>
    have e : saveGood s = false := by rw [saveGood, h1]; rfl
    rw [saveT, e, if_neg (by decide)] at hk
    (try simp only [go_sem, h1]); repeat' (first | (with_reducible first | refine c_split ?_ ?_ | refine w_split ?_ ?_) <;> intro hb <;> try simp only [go_sem, hb, h1] | refine call_c (c_spec_BooksPack s.books hs _ ?_) <;> try simp only [go_sem, h1] | with_reducible refine hQ _ _ ?_ <;> simp only [Tryz.f71, go_sem, h1])
    exact hk
  | true =>
    cases h2 : decide (0 ≤ s.from_ ∧ s.from_ ≤ 19) with
    | false =>
      have e : saveGood s = false := by rw [saveGood, h1, h2]; rfl
      rw [saveT, e, if_neg (by decide)] at hk
      (try simp only [go_sem, h1, h2]); repeat' (first | (with_reducible first | refine c_split ?_ ?_ | refine w_split ?_ ?_) <;> intro hb <;> try simp only [go_sem, hb, h1, h2] | (first | refine call_c (c_spec_BooksPack s.books hs _ ?_) | refine call_c (c_l15Seg _ _ ?_) | fail) <;> try simp only [go_sem, h1, h2] | with_reducible refine hQ _ _ ?_ <;> simp only [Tryz.f71, go_sem, h1, h2])
      exact hk
    | true =>
      obtain ⟨e1, e2⟩ := save_sealed h1 h2
      obtain ⟨hl, hl2⟩ := save_len h1 h2
      have hfr := of_decide_eq_true h2
      rw [e1, e2] at hk
      have hsb : saveBody s = putNum s.from_ ++ packS s.books := rfl
      have cS := fun K' hk' => c_spec_Seal (saveBody s) (Nat.le_trans hl (by decide)) K' hk'
      rw [hsb] at cS
      have hso : strOf (List.map (fun b => (b.toNat : Int)) (sealS (saveBody s)).1) = (⟨(sealS (saveBody s)).1.toArray⟩ : ByteArray) := so_map _
      rw [hsb] at hk hso
      (try simp only [go_sem, h1, h2]); repeat' (first | (with_reducible first | refine c_split ?_ ?_ | refine w_split ?_ ?_) <;> intro hb <;> try simp only [go_sem, hb, h1, h2] | (first | refine call_c (c_spec_BooksPack s.books hs _ ?_) | refine call_c (c_l15Seg _ _ ?_) | refine call_c (c_spec_PutNum s.from_ (by omega) _ ?_) | fail) <;> try simp only [go_sem, h1, h2] | fail)
      refine ap_end rfl (List.length_map ..).symm (save_room hl2 (packS_len h1)) ?_
      simp only [go_sem]
      have htk : List.take ((putNum s.from_).length + (packS s.books).length) (List.map byteC (putNum s.from_) ++ List.map byteC (packS s.books)) = List.map byteC (putNum s.from_ ++ packS s.books) := by rw [← List.map_append]; exact List.take_of_length_le (by simp)
      cases hg : (sealS (putNum s.from_ ++ packS s.books)).2 with
      | false =>
        have hem : (sealS (putNum s.from_ ++ packS s.books)).1 = [] := by
          unfold sealS at hg ⊢
          split at hg
          · rename_i q; rw [if_pos q]
          · cases hg
        rw [hg, hem] at hk
        rw [hem] at hso
        (try simp only [go_sem, List.length_map, htk, sealR, hg, hem, bo_map, so_some, hso, bytesE_map]); repeat' (first | (with_reducible first | refine c_split ?_ ?_ | refine w_split ?_ ?_) <;> intro hb <;> try simp only [go_sem, hb, List.length_map, htk, sealR, hg, hem, bo_map, so_some, hso, bytesE_map] | refine call_c (cS _ ?_) <;> try simp only [go_sem, List.length_map, htk, sealR, hg, hem, bo_map, so_some, hso, bytesE_map] | with_reducible refine hQ _ _ ?_ <;> simp only [Tryz.f71, go_sem, List.length_map, htk, sealR, hg, hem, bo_map, so_some, hso, bytesE_map])
        exact hk
      | true =>
        rw [hg] at hk
        (try simp only [go_sem, List.length_map, htk, sealR, hg, bo_map, so_some, hso, bytesE_map]); repeat' (first | (with_reducible first | refine c_split ?_ ?_ | refine w_split ?_ ?_) <;> intro hb <;> try simp only [go_sem, hb, List.length_map, htk, sealR, hg, bo_map, so_some, hso, bytesE_map] | refine call_c (cS _ ?_) <;> try simp only [go_sem, List.length_map, htk, sealR, hg, bo_map, so_some, hso, bytesE_map] | with_reducible refine hQ _ _ ?_ <;> simp only [Tryz.f71, go_sem, List.length_map, htk, sealR, hg, bo_map, so_some, hso, bytesE_map])
        exact hk
end Go.Proofs.YtlefjpbhbiajfaaGreat
end
section
namespace Go.Proofs.YtlefjpbhbiajfaaGreat
open Go.BL Go.RowKit
set_option linter.unusedVariables false
set_option linter.unusedSimpArgs false
set_option maxRecDepth 100000
attribute [local go_sem] byteC
end Go.Proofs.YtlefjpbhbiajfaaGreat
end
section
namespace Go.Proofs.YtlefjpbhbiajfaaGreat
open Go.BL Go.RowKit
set_option linter.unusedVariables false
set_option linter.unusedSimpArgs false
set_option maxRecDepth 100000
theorem d220_0_LInsert : DrawL Tryz.prog 0 46 (.on [(0, true, true), (1, true, true), (2, true, true), (3, true, true), (4, true, true), (5, true, true), (6, false, true), (7, false, true), (8, false, true)] .nil) := draw_L
theorem d220_1_LInsert : DrawL Tryz.prog 0 69 (.on [(0, true, true), (1, true, true), (2, true, true), (3, true, true), (4, true, true), (5, true, true), (6, false, true), (7, false, true), (8, false, true)] .nil) := draw_L
attribute [local go_sem] fileC fileC_len
def insAt {α : Type} (xs : List α) (i : Nat) (x : α) : List α := xs.take i ++ x :: xs.drop i
theorem insAt_len {α : Type} (xs : List α) (i : Nat) (x : α) (hi : i ≤ xs.length) : (insAt xs i x).length = xs.length + 1 := by simp [insAt]; omega
theorem insAt_end {α : Type} (xs : List α) (x : α) : insAt xs xs.length x = xs ++ [x] := by simp [insAt]
theorem ins_w {i n : Nat} (hi : i < n) (hn : n ≤ 1000000000) : wrap64 ((n : Int) + 1) = ((n + 1 : Nat) : Int) ∧ wrap64 (((n + 1 : Nat) : Int) - (i : Int)) = ((n + 1 - i : Nat) : Int) ∧ wrap64 ((i : Int) + 1) = ((i + 1 : Nat) : Int) ∧ ((i : Int) == (n : Int)) = false ∧ (0 : Int) ≤ ((n + 1 - i : Nat) : Int) ∧ ((n + 1 - i : Nat) : Int) ≤ 9223372036854775807 ∧ i + (n + 1 - i) = n + 1 := by
  refine ⟨by unfold wrap64; omega, by unfold wrap64; omega, by unfold wrap64; omega, ?_, by omega, by omega, by omega⟩
  simp; omega
theorem ins_new {α : Type} (es : List α) (z x : α) (i n : Nat) (hn : es.length = n) (hi : i < n) :
    cset (cset (es.take i ++ List.replicate (n + 1 - i) z) i [x]) (i + 1) ((es.drop i).take (n - i)) = es.take i ++ x :: es.drop i := by
  have hd : (es.drop i).take (n - i) = es.drop i := List.take_of_length_le (by simp; omega)
  have hl : (es.take i ++ List.replicate (n + 1 - i) z).length = n + 1 := by simp; omega
  rw [hd, cset_end _ _ _ (by rw [cset_length, hl]; simp; omega)]
  have h2 : (cset (es.take i ++ List.replicate (n + 1 - i) z) i [x]).take (i + 1) = es.take i ++ [x] := by
    apply List.ext_getElem?
    intro j
    rw [List.getElem?_take]
    by_cases hj : j < i + 1
    · rw [if_pos hj, cset_get _ _ _ _ (by rw [hl]; simp; omega)]
      by_cases hji : j = i
      · subst hji
        rw [if_pos (by simp), List.getElem?_append_right (by simp; omega)]
        congr 1; simp; omega
      · rw [if_neg (by simp; omega), List.getElem?_append_left (by simp; omega), List.getElem?_append_left (by simp; omega)]
    · rw [if_neg hj, List.getElem?_eq_none (by simp; omega)]
  rw [h2]; simp
theorem ins_old {α : Type} (E es : List α) (x : α) (i n : Nat) (hE : n + 1 ≤ E.length) (htk : E.take n = es) (hn : es.length = n) (hi : i < n) :
    ((cset E (i + 1) ((E.drop i).take (n - i))).set i x).take (n + 1) = es.take i ++ x :: es.drop i := by
  have hget : ∀ j, j < n → es[j]? = E[j]? := fun j hj => by rw [← htk, List.getElem?_take, if_pos hj]
  have hyl : ((E.drop i).take (n - i)).length = n - i := by simp; omega
  apply List.ext_getElem?
  intro j
  rw [List.getElem?_take]
  by_cases hj : j < n + 1
  · rw [if_pos hj]
    by_cases hji : j = i
    · subst hji
      rw [List.getElem?_set_self (by rw [cset_length]; omega), List.getElem?_append_right (by simp; omega)]
      rw [show j - (es.take j).length = 0 by simp; omega]
      rfl
    · rw [List.getElem?_set_ne (Ne.symm hji), cset_get _ _ _ _ (by rw [hyl]; omega), hyl]
      by_cases hlt : j < i
      · rw [if_neg (by omega), List.getElem?_append_left (by simp; omega), List.getElem?_take, if_pos hlt, hget j (by omega)]
      · obtain ⟨q, rfl⟩ : ∃ q, j = i + 1 + q := ⟨j - (i + 1), by omega⟩
        rw [if_pos (by omega), List.getElem?_take, if_pos (by omega), List.getElem?_drop, List.getElem?_append_right (by simp; omega)]
        rw [show i + 1 + q - (es.take i).length = q + 1 by simp; omega, List.getElem?_cons_succ, List.getElem?_drop, show i + 1 + q - (i + 1) = q by omega, hget _ (by omega)]
  · rw [if_neg hj, List.getElem?_eq_none (by simp; omega)]
theorem c_Insert (xs : List File) (x : File) (i l g lv gv : Nat) (cap cv : Option Nat) (h0 : AH) (hl : h0[l]? = some (.own g 125 3 cap (xs.map fileC))) (hv : h0[lv]? = some (.own gv 125 3 cv [fileC x])) (hne : l ≠ lv) (hi : i ≤ xs.length) (hn : xs.length ≤ 1000000000)
    (K : AV → AH → Prop) (hk : ∀ g', K (.one (.sl l g' 0 (xs.length + 1))) (h0.set l (.own g' 125 3 none ((insAt xs i x).map fileC)))) : ACalls Tryz.prog 220 [.one (.sl l g 0 xs.length), (.one (.c (.int .i64 (i)))), .one (.sl lv gv 0 1)] h0 K := by
  have hlt := (List.getElem?_eq_some_iff.1 hl).1
  have hall : ∀ o, (h0.set l o)[l]? = some o := set_at hl
  have hvv : ∀ o, (h0.set l o)[lv]? = some (.own gv 125 3 cv [fileC x]) := fun o => by rw [List.getElem?_set_ne hne]; exact hv
  have h10 : ((1 : Int) == 0) = false := rfl
  have h1c : ((1 : Nat) : Int) = 1 := rfl
  rcases Nat.eq_or_lt_of_le hi with rfl | hi
  · refine acall_m Tryz.f220.results.toList mixed Tryz.func220 rfl rfl (by kernel_rfl) ?_
    intro hwf Q hQ
    simp only [go_sem, hl, hv]
    (try simp only [go_sem, hl, hv, BEq.rfl, sx_some, Nat.sub_self, Nat.lt_irrefl, h10, h1c]); repeat' (first | (with_reducible first | refine c_split ?_ ?_ | refine w_split ?_ ?_ | refine tw_split ?_ ?_) <;> intro hb <;> try simp only [go_sem, hb, hl, hv, BEq.rfl, sx_some, Nat.sub_self, Nat.lt_irrefl, h10, h1c] | (first | with_reducible refine d220_0_LInsert (by with_unfolding_all rfl) (by kernel_rfl) ?_ | with_reducible refine d220_1_LInsert (by with_unfolding_all rfl) (by kernel_rfl) ?_ | fail) <;> try simp only [go_sem, hl, hv, BEq.rfl, sx_some, Nat.sub_self, Nat.lt_irrefl, h10, h1c] | fail)
    split
    · (try simp only [go_sem, hl, hv, BEq.rfl, sx_some, Nat.sub_self, Nat.lt_irrefl, h10, h1c]); repeat' (first | (with_reducible first | refine c_split ?_ ?_ | refine w_split ?_ ?_ | refine tw_split ?_ ?_) <;> intro hb <;> try simp only [go_sem, hb, hl, hv, BEq.rfl, sx_some, Nat.sub_self, Nat.lt_irrefl, h10, h1c] | (first | with_reducible refine d220_0_LInsert (by with_unfolding_all rfl) (by kernel_rfl) ?_ | with_reducible refine d220_1_LInsert (by with_unfolding_all rfl) (by kernel_rfl) ?_ | fail) <;> try simp only [go_sem, hl, hv, BEq.rfl, sx_some, Nat.sub_self, Nat.lt_irrefl, h10, h1c] | fail)
      refine ap_end hl (by simp) (by simp; omega) ?_
      (try simp only [go_sem, List.length_map]); repeat' (first | (with_reducible first | refine c_split ?_ ?_ | refine w_split ?_ ?_ | refine tw_split ?_ ?_) <;> intro hb <;> try simp only [go_sem, hb, List.length_map] | (first | with_reducible refine d220_0_LInsert (by with_unfolding_all rfl) (by kernel_rfl) ?_ | with_reducible refine d220_1_LInsert (by with_unfolding_all rfl) (by kernel_rfl) ?_ | fail) <;> try simp only [go_sem, List.length_map] | fail)
      refine hQ (h0.set l (.own (g + 1) 125 3 none ((xs ++ [(⟨x.name, x.safe, x.late⟩ : File)]).map fileC))) _ _ ?_; refine GC.now (ret_m (by simp only [go_sem, Tryz.f220, hlt]; exact _root_.id rfl) (by simp only [go_sem]) (by simp) (by first | exact hwf | exact wf_set hwf (by simp only [go_sem, hlt]) | exact wf_set2 hwf (by simp only [go_sem, hlt]) (by simp only [go_sem, hlt]) | (simp only [go_sem]; done)) (by first | exact ⟨_, _root_.id rfl⟩ | exact ⟨[], (List.append_nil _).symm⟩) ?_) <;> simp only [go_sem, hlt]
      have := hk (g + 1)
      rw [insAt_end] at this
      exact this
    · (try simp only [go_sem, hl, hv, BEq.rfl, sx_some, Nat.sub_self, Nat.lt_irrefl, h10, h1c]); repeat' (first | (with_reducible first | refine c_split ?_ ?_ | refine w_split ?_ ?_ | refine tw_split ?_ ?_) <;> intro hb <;> try simp only [go_sem, hb, hl, hv, BEq.rfl, sx_some, Nat.sub_self, Nat.lt_irrefl, h10, h1c] | (first | with_reducible refine d220_0_LInsert (by with_unfolding_all rfl) (by kernel_rfl) ?_ | with_reducible refine d220_1_LInsert (by with_unfolding_all rfl) (by kernel_rfl) ?_ | fail) <;> try simp only [go_sem, hl, hv, BEq.rfl, sx_some, Nat.sub_self, Nat.lt_irrefl, h10, h1c] | fail)
      refine ap_end hl (by simp) (by simp; omega) ?_
      (try simp only [go_sem, List.length_map]); repeat' (first | (with_reducible first | refine c_split ?_ ?_ | refine w_split ?_ ?_ | refine tw_split ?_ ?_) <;> intro hb <;> try simp only [go_sem, hb, List.length_map] | (first | with_reducible refine d220_0_LInsert (by with_unfolding_all rfl) (by kernel_rfl) ?_ | with_reducible refine d220_1_LInsert (by with_unfolding_all rfl) (by kernel_rfl) ?_ | fail) <;> try simp only [go_sem, List.length_map] | fail)
      refine hQ (h0.set l (.own (g + 1) 125 3 none ((xs ++ [(⟨x.name, x.safe, x.late⟩ : File)]).map fileC))) _ _ ?_; refine GC.now (ret_m (by simp only [go_sem, Tryz.f220, hlt]; exact _root_.id rfl) (by simp only [go_sem]) (by simp) (by first | exact hwf | exact wf_set hwf (by simp only [go_sem, hlt]) | exact wf_set2 hwf (by simp only [go_sem, hlt]) (by simp only [go_sem, hlt]) | (simp only [go_sem]; done)) (by first | exact ⟨_, _root_.id rfl⟩ | exact ⟨[], (List.append_nil _).symm⟩) ?_) <;> simp only [go_sem, hlt]
      have := hk (g + 1)
      rw [insAt_end] at this
      exact this
  · obtain ⟨w1, w2, w3, w4, w5, w6, w7⟩ := ins_w hi hn
    have hile := Nat.le_of_lt hi
    refine acall_m Tryz.f220.results.toList mixed Tryz.func220 rfl rfl (by kernel_rfl) ?_
    intro hwf Q hQ
    simp only [go_sem, hl, hv]
    (try simp only [go_sem, hl, hv, BEq.rfl, hi, hile, w1, w2, w3, w4, h10, h1c]); repeat' (first | (with_reducible first | refine c_split ?_ ?_ | refine w_split ?_ ?_ | refine tw_split ?_ ?_) <;> intro hb <;> try simp only [go_sem, hb, hl, hv, BEq.rfl, hi, hile, w1, w2, w3, w4, h10, h1c] | (first | with_reducible refine d220_0_LInsert (by with_unfolding_all rfl) (by kernel_rfl) ?_ | with_reducible refine d220_1_LInsert (by with_unfolding_all rfl) (by kernel_rfl) ?_ | fail) <;> try simp only [go_sem, hl, hv, BEq.rfl, hi, hile, w1, w2, w3, w4, h10, h1c] | fail)
    refine cg_sp hl (fun c hc1 hc2 => ?_)
    by_cases hcn : c < xs.length + 1
    · have hb : decide (((c - 0 : Nat) : Int) < ((xs.length + 1 : Nat) : Int)) = true := decide_eq_true (by omega)
      left
      (try simp only [go_sem, hall, hvv, BEq.rfl, hi, hile, w1, w2, w3, w4, w5, w6, h10, h1c, hb]); repeat' (first | (with_reducible first | refine c_split ?_ ?_ | refine w_split ?_ ?_ | refine tw_split ?_ ?_) <;> intro hb <;> try simp only [go_sem, hb, hall, hvv, BEq.rfl, hi, hile, w1, w2, w3, w4, w5, w6, h10, h1c, hb] | (first | with_reducible refine d220_0_LInsert (by with_unfolding_all rfl) (by kernel_rfl) ?_ | with_reducible refine d220_1_LInsert (by with_unfolding_all rfl) (by kernel_rfl) ?_ | fail) <;> try simp only [go_sem, hall, hvv, BEq.rfl, hi, hile, w1, w2, w3, w4, w5, w6, h10, h1c, hb] | fail)
      have hnew : ∀ (o : AO) (a : AO), (h0.set l o ++ [a])[h0.length]? = some a := fun o a => by rw [List.getElem?_append_right (by simp)]; simp
      have hset : ∀ (o : AO) (a b : AO), (h0.set l o ++ [a]).set h0.length b = h0.set l o ++ [b] := fun o a b => by rw [List.set_append_right _ _ (by simp)]; simp
      have hold : ∀ (o : AO) (a : List AO), (h0.set l o ++ a)[l]? = some o := fun o a => h_old a (hall o)
      have hvo : ∀ (o : AO) (a : List AO), (h0.set l o ++ a)[lv]? = some (.own gv 125 3 cv [fileC x]) := fun o a => h_old a (hvv o)
      have w8 : (xs.length + 1 - i) * 40 ≤ 281474976710656 := by omega
      simp only [Option.isSome_none, srB_i, w5, w6, w8, Int.toNat_natCast, and_self, if_true]
      refine ap_new (hall _) (by simpa using hile) (by have := of_decide_eq_true hb; simp; omega) (by simp; omega) ?_
      generalize hE : List.take i (xs.map fileC) ++ List.replicate (xs.length + 1 - i) [.c (.int .i64 (0)), .c (.string (⟨#[]⟩)), .c (.string (⟨#[]⟩))] = E
      have hEl : E.length = xs.length + 1 := by rw [← hE]; simp; omega
      have hi1 : i < xs.length + 1 := by omega
      have hi2 : i ≤ xs.length + 1 := by omega
      have hi3 : i + 1 < xs.length + 1 := by omega
      have hi4 : i + 1 ≤ xs.length + 1 := by omega
      (try simp only [go_sem, hnew, hset, hold, hvo, hi, hile, w3, List.length_map, List.length_replicate, w7, hEl, hi1, hi2, hi3, hi4]); repeat' (first | (with_reducible first | refine c_split ?_ ?_ | refine w_split ?_ ?_ | refine tw_split ?_ ?_) <;> intro hb <;> try simp only [go_sem, hb, hnew, hset, hold, hvo, hi, hile, w3, List.length_map, List.length_replicate, w7, hEl, hi1, hi2, hi3, hi4] | (first | with_reducible refine d220_0_LInsert (by with_unfolding_all rfl) (by kernel_rfl) ?_ | with_reducible refine d220_1_LInsert (by with_unfolding_all rfl) (by kernel_rfl) ?_ | fail) <;> try simp only [go_sem, hnew, hset, hold, hvo, hi, hile, w3, List.length_map, List.length_replicate, w7, hEl, hi1, hi2, hi3, hi4] | fail)
      refine cp_sl (news := [fileC x]) (by simp only [row_sl, objR_at, hvo, obR_own, rw_some]; rfl) (hnew _ _) (by omega) ?_
      have hmin : min 1 (xs.length + 1 - i) = 1 := by omega
      have hcl : ∀ y, (E.set i y).length = xs.length + 1 := fun y => by rw [List.length_set]; exact hEl
      have hdl : i + (xs.length - i) = xs.length := by omega
      (try simp only [go_sem, hnew, hset, hold, hvo, hi, hile, w3, List.length_map, List.length_replicate, w7, hEl, hi1, hi2, hi3, hi4, hmin, hcl]); repeat' (first | (with_reducible first | refine c_split ?_ ?_ | refine w_split ?_ ?_ | refine tw_split ?_ ?_) <;> intro hb <;> try simp only [go_sem, hb, hnew, hset, hold, hvo, hi, hile, w3, List.length_map, List.length_replicate, w7, hEl, hi1, hi2, hi3, hi4, hmin, hcl] | (first | with_reducible refine d220_0_LInsert (by with_unfolding_all rfl) (by kernel_rfl) ?_ | with_reducible refine d220_1_LInsert (by with_unfolding_all rfl) (by kernel_rfl) ?_ | fail) <;> try simp only [go_sem, hnew, hset, hold, hvo, hi, hile, w3, List.length_map, List.length_replicate, w7, hEl, hi1, hi2, hi3, hi4, hmin, hcl] | fail)
      have hm2 : min (List.take (xs.length - i) (List.drop i (xs.map fileC))).length (xs.length + 1 - (i + 1)) = xs.length - i := by simp
      have htt : List.take (xs.length - i) (List.take (xs.length - i) (List.drop i (xs.map fileC))) = List.take (xs.length - i) (List.drop i (xs.map fileC)) := by rw [List.take_take, Nat.min_self]
      have hnw := ins_new (xs.map fileC) [.c (.int .i64 (0)), .c (.string (⟨#[]⟩)), .c (.string (⟨#[]⟩))] [.c (.int .i64 (x.name)), .c (.string (x.safe)), .c (.string (x.late))] i xs.length (by simp) hi
      rw [hE] at hnw
      simp only [cset] at hnw
      have hI : List.take i (xs.map fileC) ++ [.c (.int .i64 (x.name)), .c (.string (x.safe)), .c (.string (x.late))] :: List.drop i (xs.map fileC) = (insAt xs i x).map fileC := by simp [insAt, fileC, List.map_take, List.map_drop]
      rw [hI] at hnw
      refine cp_sl (news := (List.drop i (xs.map fileC)).take (xs.length - i)) (by simp only [row_sl, objR_at, hold, obR_own, rw_some, List.length_map, hdl, Nat.le_refl, if_true]) (hnew _ _) (by simp; omega) ?_
      simp only [hm2, htt, hnw, hset]
      (try simp only [go_sem, hnew, hset, hold, hvo]); repeat' (first | (with_reducible first | refine c_split ?_ ?_ | refine w_split ?_ ?_ | refine tw_split ?_ ?_) <;> intro hb <;> try simp only [go_sem, hb, hnew, hset, hold, hvo] | (first | with_reducible refine d220_0_LInsert (by with_unfolding_all rfl) (by kernel_rfl) ?_ | with_reducible refine d220_1_LInsert (by with_unfolding_all rfl) (by kernel_rfl) ?_ | fail) <;> try simp only [go_sem, hnew, hset, hold, hvo] | fail)
      refine hQ (h0.set l (.own (g + 1) 125 3 none ((insAt xs i x).map fileC))) _ _ ?_; refine GC.step (Ghost.move (l := l) (l' := h0.length) (n := xs.length + 1) 6 (by simp only [go_sem]) (hold _ _) (hnew _ _) (by omega)) (GC.now (ret_m (by simp only [go_sem, Tryz.f220, hlt]; exact _root_.id rfl) (by simp only [go_sem]) (by simp) (by first | exact hwf | exact wf_set hwf (by simp only [go_sem, hlt]) | exact wf_set2 hwf (by simp only [go_sem, hlt]) (by simp only [go_sem, hlt]) | (simp only [go_sem]; done)) (by first | exact ⟨[.dead], by rw [List.set_append_left _ _ (by simpa using hlt), List.set_append_right _ _ (by simp)]; simp⟩ | exact ⟨_, _root_.id rfl⟩ | exact ⟨[], (List.append_nil _).symm⟩) ?_)) <;> simp only [go_sem, hlt]
      exact hk _
    · have hb : decide (((c - 0 : Nat) : Int) < ((xs.length + 1 : Nat) : Int)) = false := decide_eq_false (by omega)
      right
      have hcl0 : (spareE 3 c (xs.map fileC)).length = c := by simp [spareE]; simp at hc1; omega
      have hcc : xs.length + 1 ≤ c := by omega
      have htk : (spareE 3 c (xs.map fileC)).take xs.length = xs.map fileC := by rw [spareE, List.take_append_of_le_length (by simp)]; exact List.take_of_length_le (by simp)
      generalize hE : spareE 3 c (xs.map fileC) = E at *
      have hi1 : i < c := by omega
      have hi2 : i ≤ xs.length + 1 := by omega
      have hi3 : i + 1 < c := by omega
      have hi4 : i + 1 ≤ xs.length + 1 := by omega
      have hi5 : xs.length ≤ c := by omega
      (try simp only [go_sem, hall, hvv, BEq.rfl, hi, hile, w1, w2, w3, w4, w5, w6, h10, h1c, hb, hcl0, hcc, hi1, hi2, hi3, hi4, hi5]); repeat' (first | (with_reducible first | refine c_split ?_ ?_ | refine w_split ?_ ?_ | refine tw_split ?_ ?_) <;> intro hb <;> try simp only [go_sem, hb, hall, hvv, BEq.rfl, hi, hile, w1, w2, w3, w4, w5, w6, h10, h1c, hb, hcl0, hcc, hi1, hi2, hi3, hi4, hi5] | (first | with_reducible refine d220_0_LInsert (by with_unfolding_all rfl) (by kernel_rfl) ?_ | with_reducible refine d220_1_LInsert (by with_unfolding_all rfl) (by kernel_rfl) ?_ | refine call_e (x_overlaps Tryz.func263 (by kernel_rfl) (by kernel_rfl) (by kernel_rfl) (e := 125) (tS := 22) (tR := 4) (k := 3) (by kernel_rfl) (by kernel_rfl) (by kernel_rfl) (hvv _) (hall _) (Ne.symm hne) (by decide) (by simp) (by intro q; subst q; simp at hcl0; omega) ?_) | fail) <;> try simp only [go_sem, hall, hvv, BEq.rfl, hi, hile, w1, w2, w3, w4, w5, w6, h10, h1c, hb, hcl0, hcc, hi1, hi2, hi3, hi4, hi5] | fail)
      have hd1 : i + (xs.length + 1 - i) ≤ c := by omega
      have hm1 : min ((E.drop i).take (xs.length + 1 - i)).length (xs.length + 1 - (i + 1)) = xs.length - i := by simp; omega
      have ht1 : ((E.drop i).take (xs.length + 1 - i)).take (xs.length - i) = (E.drop i).take (xs.length - i) := by rw [List.take_take]; congr 1; omega
      have hmin : min 1 (xs.length + 1 - i) = 1 := by omega
      have hcl : ∀ y, (cset E (i + 1) y).length = c := fun y => by rw [cset_length]; exact hcl0
      have hio := ins_old E (xs.map fileC) [.c (.int .i64 (x.name)), .c (.string (x.safe)), .c (.string (x.late))] i xs.length (by omega) htk (by simp) hi
      have hI : List.take i (xs.map fileC) ++ [.c (.int .i64 (x.name)), .c (.string (x.safe)), .c (.string (x.late))] :: List.drop i (xs.map fileC) = (insAt xs i x).map fileC := by simp [insAt, fileC, List.map_take, List.map_drop]
      rw [hI] at hio
      refine cp_sl (news := (E.drop i).take (xs.length + 1 - i)) (by simp only [row_sl, objR_at, hall, obR_own, rw_some, hcl0, hd1, if_true]) (hall _) (by omega) ?_
      simp only [hm1, ht1]
      (try simp only [go_sem, hall, hvv, hi, hile, w1, w3, hcl, hcc, hi1, hi2, hi3, hi4, hi5]); repeat' (first | (with_reducible first | refine c_split ?_ ?_ | refine w_split ?_ ?_ | refine tw_split ?_ ?_) <;> intro hb <;> try simp only [go_sem, hb, hall, hvv, hi, hile, w1, w3, hcl, hcc, hi1, hi2, hi3, hi4, hi5] | (first | with_reducible refine d220_0_LInsert (by with_unfolding_all rfl) (by kernel_rfl) ?_ | with_reducible refine d220_1_LInsert (by with_unfolding_all rfl) (by kernel_rfl) ?_ | fail) <;> try simp only [go_sem, hall, hvv, hi, hile, w1, w3, hcl, hcc, hi1, hi2, hi3, hi4, hi5] | fail)
      refine cp_sl (news := [fileC x]) (by simp only [row_sl, objR_at, hvv, obR_own, rw_some]; rfl) (hall _) (by rw [hcl]; omega) ?_
      (try simp only [go_sem, hall, hvv, hmin]); repeat' (first | (with_reducible first | refine c_split ?_ ?_ | refine w_split ?_ ?_ | refine tw_split ?_ ?_) <;> intro hb <;> try simp only [go_sem, hb, hall, hvv, hmin] | (first | with_reducible refine d220_0_LInsert (by with_unfolding_all rfl) (by kernel_rfl) ?_ | with_reducible refine d220_1_LInsert (by with_unfolding_all rfl) (by kernel_rfl) ?_ | fail) <;> try simp only [go_sem, hall, hvv, hmin] | fail)
      refine hQ (h0.set l (.own g 125 3 none ((insAt xs i x).map fileC))) _ _ ?_; refine GC.step (Ghost.cut (l := l) (hall _) (xs.length + 1)) (GC.now (ret_m (by simp only [go_sem, Tryz.f220, hlt]; exact _root_.id rfl) (by simp only [go_sem]) (by simp) (by first | exact hwf | exact wf_set hwf (by simp only [go_sem, hlt]) | exact wf_set2 hwf (by simp only [go_sem, hlt]) (by simp only [go_sem, hlt]) | (simp only [go_sem]; done)) (by first | exact ⟨[], by simp only [List.set_set, hio, List.append_nil]⟩ | exact ⟨_, _root_.id rfl⟩ | exact ⟨[], (List.append_nil _).symm⟩) ?_)) <;> simp only [go_sem, hlt]
      exact hk _
end Go.Proofs.YtlefjpbhbiajfaaGreat
end
section
namespace Go.Proofs.YtlefjpbhbiajfaaGreat
open Go.BL Go.RowKit
set_option linter.unusedVariables false
set_option linter.unusedSimpArgs false
set_option maxRecDepth 100000
theorem d77_0_LDisk : DrawL Tryz.prog 0 3 (.on [(0, true, true), (1, true, true), (3, true, false), (4, true, false), (2, false, false), (5, false, false), (6, false, false), (7, false, true)] .nil) := draw_L
theorem d75_0_LDisk : DrawL Tryz.prog 0 20 (.on [(0, true, true), (1, true, true), (2, true, false), (3, true, false), (4, false, false), (5, false, false), (6, false, false), (7, false, false), (8, false, false), (9, false, true), (10, false, true)] .nil) := draw_L
theorem d160_0_LDisk : DrawL Tryz.prog 0 18 (.on [(0, false, true), (1, false, true), (2, false, true), (3, true, true), (4, true, true), (5, true, false), (6, true, true), (7, true, false), (8, true, false), (9, false, false), (10, false, false), (11, false, false), (12, false, false)] .nil) := draw_L
theorem d160_1_LDisk : DrawL Tryz.prog 0 37 (.on [(0, true, true), (1, true, true), (2, true, false), (3, true, true), (4, true, false), (5, true, false), (6, false, false), (7, false, false), (8, false, false)] .nil) := draw_L
theorem d160_2_LDisk : DrawL Tryz.prog 0 46 (.on [(0, true, true), (1, true, true), (2, true, false), (3, true, false), (4, false, false), (5, false, false), (6, false, false), (7, false, false), (8, false, false), (9, false, true), (10, false, true)] .nil) := draw_L
theorem d76_0_LDisk : DrawL Tryz.prog 0 21 (.on [(0, true, true), (1, true, true), (2, true, true), (3, true, true), (4, false, false), (5, false, false), (6, false, true), (7, false, true), (8, false, true)] .nil) := draw_L
theorem d169_0_LDisk : DrawL Tryz.prog 0 5 (.on [(0, true, true), (1, false, true), (2, false, true), (3, false, true), (4, false, true), (5, false, true), (6, false, true), (7, false, true), (8, true, true), (9, true, true), (10, true, true), (11, true, true), (12, true, false), (13, true, true), (14, true, false), (15, true, false), (16, false, false), (17, false, false), (18, false, false), (19, false, false)] .nil) := draw_L
theorem d169_1_LDisk : DrawL Tryz.prog 0 27 (.on [(0, true, true), (1, true, true), (2, true, true), (3, true, true), (4, true, true), (5, true, false), (6, false, false), (7, false, false), (8, false, true), (9, false, true), (10, false, true), (11, false, true)] .nil) := draw_L
attribute [local go_sem] fileC diskC fileC_len
/-! ### Rows in order -/
def SortedF (fs : List File) : Prop := fs.Pairwise fun a b => a.name < b.name
theorem rows_to {fs : List File} {n i : Nat} (h : rowsTo fs n = true) (hi : i < n) : rowOk fs i = true := by
  cases hh : rowOk fs i
  · rw [rowsTo_false fs i hh n hi] at h; cases h
  · rfl
theorem frows_lt {fs : List File} (h : rowsTo fs fs.length = true) : ∀ (j i : Nat) (hj : j < fs.length) (hij : i < j), (fs[i]'(Nat.lt_trans hij hj)).name < fs[j].name
  | j + 1, i, hj, hij => by
    have h1 := rows_to h hj
    rw [rowOk_s fs j hj, Bool.and_eq_true] at h1
    have h2 := of_decide_eq_true h1.2
    rcases Nat.eq_or_lt_of_le (Nat.le_of_lt_succ hij) with rfl | hij
    · exact h2
    · exact Int.lt_trans (frows_lt h j i (by omega) hij) h2
theorem disk_rows {d : Disk} (h : diskOk d = true) : rowsTo d.files d.files.length = true := by
  simp only [diskOk, Bool.and_eq_true] at h; exact h.1.1
theorem disk_sorted {d : Disk} (h : diskOk d = true) : SortedF d.files := by
  rw [SortedF, List.pairwise_iff_getElem]
  exact fun i j hi hj hij => frows_lt (disk_rows h) j i hj hij
theorem room_bound {fs : List File} (hz : SmallF fs) : ∀ i, i ≤ fs.length → roomTo fs i ≤ 2000000000000000 * i
  | 0, _ => by simp [roomTo]
  | i + 1, hi => by
    have h1 := room_bound hz i (by omega)
    have h2 := hz _ (List.getElem_mem (show i < fs.length by omega))
    rw [roomTo_succ fs i (by omega)]
    omega
theorem disk_room {d : Disk} (hz : SmallF d.files) (h : diskOk d = true) : wrap64 (roomTo d.files d.files.length) = roomTo d.files d.files.length ∧ roomTo d.files d.files.length ≤ d.room ∧ 0 ≤ d.room ∧ d.room ≤ 60000 := by
  have h1 := disk_len h
  have h2 := room_bound hz d.files.length (Nat.le_refl _)
  have h3 := roomTo_nonneg d.files d.files.length
  have hw : wrap64 (roomTo d.files d.files.length) = roomTo d.files d.files.length := by unfold wrap64; omega
  simp only [diskOk, Bool.and_eq_true] at h
  have h4 := of_decide_eq_true h.1.2
  have h5 := of_decide_eq_true h.2
  rw [hw] at h5
  exact ⟨hw, h5, h4.1, h4.2⟩
/-! ### Folds over a row's beginning -/
def foldT {α σ : Type} (f : σ → α → σ) (s : σ) (xs : List α) (i : Nat) : σ := (xs.take i).foldl f s
theorem foldT_0 {α σ : Type} (f : σ → α → σ) (s : σ) (xs : List α) : foldT f s xs 0 = s := rfl
theorem foldT_s {α σ : Type} (f : σ → α → σ) (s : σ) (xs : List α) (i : Nat) (hi : i < xs.length) : foldT f s xs (i + 1) = f (foldT f s xs i) xs[i] := by
  rw [foldT, List.take_succ_eq_append_getElem hi, List.foldl_append]; rfl
theorem foldT_n {α σ : Type} (f : σ → α → σ) (s : σ) (xs : List α) : foldT f s xs xs.length = xs.foldl f s := by rw [foldT, List.take_length]
/-! ### One file put into its place -/
def putF (fs : List File) (f : File) : List File := fs.filter (fun g => decide (g.name < f.name)) ++ f :: fs.filter (fun g => decide (f.name < g.name))
def stepP (f : File) (s : List File × Bool) (g : File) : List File × Bool := ((if (!s.2 && decide (f.name ≤ g.name)) = true then s.1 ++ [f] else s.1) ++ (if g.name = f.name then [] else [g]), s.2 || decide (f.name ≤ g.name))
theorem stepP_len (f : File) : ∀ (xs : List File) (s : List File × Bool), (xs.foldl (stepP f) s).1.length ≤ s.1.length + 2 * xs.length
  | [], s => by simp
  | g :: r, s => by
    rw [List.foldl_cons]
    refine Nat.le_trans (stepP_len f r _) ?_
    simp only [stepP, List.length_append, List.length_cons]
    split <;> split <;> simp <;> omega
theorem foldP_len (f : File) (fs : List File) (i : Nat) : (foldT (stepP f) ([], false) fs i).1.length ≤ 2 * i := by
  have h := stepP_len f (fs.take i) ([], false)
  have h2 : (fs.take i).length ≤ i := by simp; omega
  simp only [foldT, List.length_nil, Nat.zero_add] at h ⊢
  omega
def putL (f : File) (s : List File × Bool) : List File := if s.2 = true then s.1 else s.1 ++ [f]
theorem putL_t (f : File) : ∀ (fs : List File) (out : List File), SortedF fs → (∀ g ∈ fs, f.name ≤ g.name) → fs.foldl (stepP f) (out, true) = (out ++ fs.filter (fun g => decide (f.name < g.name)), true)
  | [], out, _, _ => by simp
  | g :: r, out, hs, hm => by
    have h1 := hm g (by simp)
    rw [List.foldl_cons]
    have h2 : stepP f (out, true) g = (out ++ (if g.name = f.name then [] else [g]), true) := by simp [stepP]
    rw [h2, putL_t f r _ (List.pairwise_cons.1 hs).2 (fun x hx => hm x (by simp [hx]))]
    by_cases he : g.name = f.name
    · have : ¬ f.name < g.name := by omega
      simp [he]
    · have : f.name < g.name := by omega
      simp [he, this]
theorem putL_f (f : File) : ∀ (fs : List File) (out : List File), SortedF fs → putL f (fs.foldl (stepP f) (out, false)) = out ++ putF fs f
  | [], out, _ => by simp [putL, putF]
  | g :: r, out, hs => by
    have hs2 := List.pairwise_cons.1 hs
    rw [List.foldl_cons]
    by_cases hle : f.name ≤ g.name
    · have h2 : stepP f (out, false) g = (out ++ [f] ++ (if g.name = f.name then [] else [g]), true) := by simp [stepP, hle]
      rw [h2, putL_t f r _ hs2.2 (fun x hx => by have := hs2.1 x hx; omega)]
      have hf : (g :: r).filter (fun x => decide (x.name < f.name)) = [] := by
        rw [List.filter_eq_nil_iff]
        intro x hx
        rcases List.mem_cons.1 hx with rfl | hx
        · simp; omega
        · have := hs2.1 x hx; simp; omega
      simp only [putL, if_true, putF, hf, List.nil_append]
      by_cases he : g.name = f.name
      · have : ¬ f.name < g.name := by omega
        simp [he]
      · have : f.name < g.name := by omega
        simp [he, this]
    · have hlt : g.name < f.name := by omega
      have hne : ¬ g.name = f.name := by omega
      have hng : ¬ f.name < g.name := by omega
      have h2 : stepP f (out, false) g = (out ++ [g], false) := by simp [stepP, hle, hne]
      rw [h2, putL_f f r _ hs2.2]
      simp [putF, hlt, hng]
theorem put_fold (f : File) (fs : List File) (hs : SortedF fs) : putL f (foldT (stepP f) ([], false) fs fs.length) = putF fs f := by
  rw [foldT_n, putL_f f fs [] hs, List.nil_append]
/-! ### The specification's own -/
theorem c_l14Copy (d : Disk) (hn : d.files.length ≤ 1000000000) (K : AV → AH → Prop) (hk : K (.agg (diskC d)) []) : ACalls Tryz.prog 77 [.agg (diskC d)] [] K := by
  refine acall_c Tryz.f77.results.toList mixed Tryz.func77 rfl rfl (by kernel_rfl) ?_
  intro Q hQ hQO
  simp only [go_sem]
  (try simp only [go_sem]); repeat' (first | (with_reducible first | refine c_split ?_ ?_ | refine w_split ?_ ?_ | refine tw_split ?_ ?_) <;> intro hb <;> try simp only [go_sem, hb] | with_reducible refine d77_0_LDisk (by with_unfolding_all rfl) (by kernel_rfl) ?_ <;> try simp only [go_sem] | fail)
  refine ap_end rfl rfl (by simp; omega) ?_
  (try simp only [go_sem]); repeat' (first | (with_reducible first | refine c_split ?_ ?_ | refine w_split ?_ ?_ | refine tw_split ?_ ?_) <;> intro hb <;> try simp only [go_sem, hb] | with_reducible refine d77_0_LDisk (by with_unfolding_all rfl) (by kernel_rfl) ?_ <;> try simp only [go_sem] | with_reducible refine hQ _ _ ?_ <;> simp only [Tryz.f77, go_sem])
  exact hk
theorem c_l14Refused (d : Disk) (code : Int) (hn : d.files.length ≤ 1000000000) (K : AV → AH → Prop) (hk : K (.agg (diskC (if code = 1 then ⟨0, []⟩ else d))) []) : ACalls Tryz.prog 162 [.agg (diskC d), (.one (.c (.int .i64 (code))))] [] K := by
  refine acall_c Tryz.f162.results.toList mixed Tryz.func162 rfl rfl (by kernel_rfl) ?_
  intro Q hQ hQO
  simp only [go_sem]
  (try simp only [go_sem]); repeat' (first | (with_reducible first | refine c_split ?_ ?_ | refine w_split ?_ ?_) <;> intro hb <;> try simp only [go_sem, hb] | refine call_c (c_l14Copy d hn _ ?_) <;> try simp only [go_sem] | with_reducible refine hQ _ _ ?_ <;> simp only [Tryz.f162, go_sem])
  · rw [if_pos (by simpa using hb)] at hk; exact hk
  · rw [if_neg (by simpa using hb)] at hk; exact hk
def atR (d : Disk) (name : Int) : Int × Int := if diskOk d = true ∧ 0 ≤ name ∧ name ≤ 21 then (findG (fun f => f.name == name) d.files, if 0 ≤ findG (fun f => f.name == name) d.files then 0 else 2) else (-1, 1)
theorem c_l14At (d : Disk) (name : Int) (hn : d.files.length ≤ 1000000000) (K : AV → AH → Prop) (hk : K (.tup [(.one (.c (.int .i64 ((atR d name).1)))), (.one (.c (.int .i64 ((atR d name).2))))]) []) : ACalls Tryz.prog 161 [.agg (diskC d), (.one (.c (.int .i64 (name))))] [] K := by
  refine acall_c Tryz.f161.results.toList mixed Tryz.func161 rfl rfl (by kernel_rfl) ?_
  intro Q hQ hQO
  simp only [go_sem]
  (try simp only [go_sem]); repeat' (first | (with_reducible first | refine c_split ?_ ?_ | refine w_split ?_ ?_) <;> intro hb <;> try simp only [go_sem, hb] | (first | refine call_c (c_spec_DiskOk d hn _ ?_) | refine call_c (c_l14Name _ _ ?_) | refine call_c (c_l14Find d _ hn _ ?_) | fail) <;> try simp only [go_sem] | with_reducible refine hQ _ _ ?_ <;> simp only [Tryz.f161, go_sem])
  · rw [atR, if_neg (fun q => by simp [q.1] at hb)] at hk; exact hk
  · rw [atR, if_neg (fun q => by simp [q.2] at hb)] at hk; exact hk
  · rename_i hb1 hb2
    rw [atR, if_pos (by simp at hb1 hb2; exact ⟨hb1, hb2⟩)] at hk
    simp only at hk
    rw [if_neg (by have := of_decide_eq_true hb; omega)] at hk
    exact hk
  · rename_i hb1 hb2
    rw [atR, if_pos (by simp at hb1 hb2; exact ⟨hb1, hb2⟩)] at hk
    simp only at hk
    rw [if_pos (by have := of_decide_eq_false hb; omega)] at hk
    exact hk
theorem c_l14Less (d : Disk) (at_ : Nat) (hn : d.files.length ≤ 1000000000) (K : AV → AH → Prop) (hk : K (.agg (diskC ⟨d.room, d.files.eraseIdx at_⟩)) []) : ACalls Tryz.prog 75 [.agg (diskC d), (.one (.c (.int .i64 ((at_ : Int)))))] [] K := by
  refine acall_c Tryz.f75.results.toList mixed Tryz.func75 rfl rfl (by kernel_rfl) ?_
  intro Q hQ hQO
  simp only [go_sem]
  refine for_at (d.files.length) [1, 2, 4, 5] (fun i f h => f 6 = (.one (.c (.int .i64 (i)))) ∧ h = [.own 0 24 2 (some 1) [diskC d], .own 0 24 2 (some 1) [[.c (.int .i64 (0)), .nl]], .own 0 24 2 (some 1) [[.c (.int .i64 (d.room)), .sl 3 ((d.files.take i).eraseIdx at_).length 0 ((d.files.take i).eraseIdx at_).length]], .own ((d.files.take i).eraseIdx at_).length 125 3 none (((d.files.take i).eraseIdx at_).map fileC)]) (GC.step (Ghost.nlc (l := 2) rfl 0 1 rfl rfl 125 3) (GC.now ?_)) ?_
  · simp only [go_sem, nc_0, true_and]
    simp
  · rintro i f h J hi hA ⟨e6, rfl⟩ hJ
    simp only [go_sem] at hA
    simp only [go_sem, hA, e6]
    refine c_split (fun hb => ?_) (fun hb => ?_)
    rotate_left
    · simp only [go_sem, hb, hA, e6]
      obtain rfl := ge_len hb hi
      (try simp only [go_sem, hA, e6, List.take_length]); repeat' (first | (with_reducible first | refine c_split ?_ ?_ | refine w_split ?_ ?_ | refine tw_split ?_ ?_) <;> intro hb <;> try simp only [go_sem, hb, hA, e6, List.take_length] | with_reducible refine d75_0_LDisk (by with_unfolding_all rfl) (by kernel_rfl) ?_ <;> try simp only [go_sem, hA, e6, List.take_length] | with_reducible refine hQ _ _ ?_ <;> simp only [Tryz.f75, go_sem, hA, e6, List.take_length])
      exact hk
    have hi := lt_len hb
    have hw := wrap_nat i (by omega)
    have hil : (i : Int) < ((d.files.length : Nat) : Int) := Int.ofNat_lt.2 hi
    have hg0 : (d.files)[i]? = some ((d.files)[i]) := List.getElem?_eq_getElem (by omega)
    simp only [go_sem, hb, hA, e6, hg0]
    try simp only [go_sem, hA, e6, hil, hg0]
    have hlen : ((d.files.take i).eraseIdx at_).length ≤ i := by
      have := List.length_eraseIdx_le (d.files.take i) at_
      simp only [List.length_take] at this
      omega
    have htk : d.files.take (i + 1) = d.files.take i ++ [d.files[i]] := List.take_succ_eq_append_getElem hi
    have hli : (d.files.take i).length = i := by simp; omega
    (try simp only [go_sem, hA, e6, hil, hg0]); repeat' (first | (with_reducible first | refine c_split ?_ ?_ | refine w_split ?_ ?_ | refine tw_split ?_ ?_) <;> intro hb <;> try simp only [go_sem, hb, hA, e6, hil, hg0] | with_reducible refine d75_0_LDisk (by with_unfolding_all rfl) (by kernel_rfl) ?_ <;> try simp only [go_sem, hA, e6, hil, hg0] | fail)
    · have he : (d.files.take (i + 1)).eraseIdx at_ = (d.files.take i).eraseIdx at_ ++ [d.files[i]] := by
        have hne : i ≠ at_ := fun e => by subst e; simp at hb
        rcases Nat.lt_or_ge at_ i with h | h
        · rw [htk, List.eraseIdx_append_of_lt_length (by omega)]
        · rw [List.eraseIdx_of_length_le (by simp; omega), List.eraseIdx_of_length_le (by omega), htk]
      refine ap_end rfl (by simp) (by simp; omega) ?_
      (try simp only [go_sem, hA, e6, hil, hg0]); repeat' (first | (with_reducible first | refine c_split ?_ ?_ | refine w_split ?_ ?_ | refine tw_split ?_ ?_) <;> intro hb <;> try simp only [go_sem, hb, hA, e6, hil, hg0] | with_reducible refine d75_0_LDisk (by with_unfolding_all rfl) (by kernel_rfl) ?_ <;> try simp only [go_sem, hA, e6, hil, hg0] | fail)
      refine gc_trim 4 (by decide) (by simp only [go_sem]) (by simp only [go_sem]) (hJ _ _ hi (by simp only [go_sem, hA, e6]) ⟨?_, ?_⟩) <;> try simp only [go_sem, hA, e6, hw, he]
    · have he : (d.files.take (i + 1)).eraseIdx at_ = (d.files.take i).eraseIdx at_ := by
        have he2 : i = at_ := Int.ofNat_inj.1 (by simpa using hb)
        subst he2
        have h0 : (d.files.take i).eraseIdx i = d.files.take i := List.eraseIdx_of_length_le (by omega)
        rw [h0, htk, List.eraseIdx_append_of_length_le (by omega), hli, Nat.sub_self]; simp
      refine gc_trim 4 (by decide) (by simp only [go_sem]) (by simp only [go_sem]) (hJ _ _ hi (by simp only [go_sem, hA, e6]) ⟨?_, ?_⟩) <;> try simp only [go_sem, hA, e6, hw, he]
theorem c_l14Put (d : Disk) (x : File) (hn : d.files.length ≤ 1000000000) (hs : SortedF d.files) (K : AV → AH → Prop) (hk : K (.agg (diskC ⟨d.room, putF d.files x⟩)) []) : ACalls Tryz.prog 160 [.agg (diskC d), .agg (fileC x)] [] K := by
  rw [← put_fold x d.files hs] at hk
  refine acall_c Tryz.f160.results.toList mixed Tryz.func160 rfl rfl (by kernel_rfl) ?_
  intro Q hQ hQO
  simp only [go_sem]
  refine for_at (d.files.length) [2, 3, 4, 5] (fun i f h => f 7 = (.one (.c (.int .i64 (i)))) ∧ f 6 = (.one (.c (.bool ((foldT (stepP x) ([], false) d.files i).2)))) ∧ h = [.own 0 24 2 (some 1) [diskC d], .own 0 125 3 (some 1) [fileC x], .own 0 24 2 (some 1) [[.c (.int .i64 (0)), .nl]], .own 0 24 2 (some 1) [[.c (.int .i64 (d.room)), .sl 4 (foldT (stepP x) ([], false) d.files i).1.length 0 (foldT (stepP x) ([], false) d.files i).1.length]], .own (foldT (stepP x) ([], false) d.files i).1.length 125 3 none ((foldT (stepP x) ([], false) d.files i).1.map fileC)]) (GC.step (Ghost.nlc (l := 3) rfl 0 1 rfl rfl 125 3) (GC.now ?_)) ?_
  · simp only [go_sem, nc_0, true_and]
    simp [foldT_0]
  · rintro i f h J hi hA ⟨e7, e6, rfl⟩ hJ
    simp only [go_sem] at hA
    simp only [go_sem, hA, e7, e6]
    refine c_split (fun hb => ?_) (fun hb => ?_)
    rotate_left
    · simp only [go_sem, hb, hA, e7, e6]
      obtain rfl := ge_len hb hi
      have hlen := foldP_len x d.files d.files.length
      generalize foldT (stepP x) ([], false) d.files d.files.length = s at *
      obtain ⟨out, put⟩ := s
      simp only at hlen
      cases put
      · (try simp only [go_sem, hA, e7, e6]); repeat' (first | (with_reducible first | refine c_split ?_ ?_ | refine w_split ?_ ?_ | refine tw_split ?_ ?_) <;> intro hb <;> try simp only [go_sem, hb, hA, e7, e6] | (first | with_reducible refine d160_0_LDisk (by with_unfolding_all rfl) (by kernel_rfl) ?_ | with_reducible refine d160_1_LDisk (by with_unfolding_all rfl) (by kernel_rfl) ?_ | with_reducible refine d160_2_LDisk (by with_unfolding_all rfl) (by kernel_rfl) ?_ | fail) <;> try simp only [go_sem, hA, e7, e6] | fail)
        refine ap_end rfl (by simp) (by simp; omega) ?_
        have htk : List.take (out.length + 1) (List.map fileC (out ++ [(⟨x.name, x.safe, x.late⟩ : File)])) = List.map fileC (out ++ [(⟨x.name, x.safe, x.late⟩ : File)]) := List.take_of_length_le (by simp)
        (try simp only [go_sem, hA, e7, e6, htk]); repeat' (first | (with_reducible first | refine c_split ?_ ?_ | refine w_split ?_ ?_ | refine tw_split ?_ ?_) <;> intro hb <;> try simp only [go_sem, hb, hA, e7, e6, htk] | (first | with_reducible refine d160_0_LDisk (by with_unfolding_all rfl) (by kernel_rfl) ?_ | with_reducible refine d160_1_LDisk (by with_unfolding_all rfl) (by kernel_rfl) ?_ | with_reducible refine d160_2_LDisk (by with_unfolding_all rfl) (by kernel_rfl) ?_ | fail) <;> try simp only [go_sem, hA, e7, e6, htk] | with_reducible refine hQ _ _ ?_ <;> simp only [Tryz.f160, go_sem, hA, e7, e6, htk])
        exact hk
      · (try simp only [go_sem, hA, e7, e6]); repeat' (first | (with_reducible first | refine c_split ?_ ?_ | refine w_split ?_ ?_ | refine tw_split ?_ ?_) <;> intro hb <;> try simp only [go_sem, hb, hA, e7, e6] | (first | with_reducible refine d160_0_LDisk (by with_unfolding_all rfl) (by kernel_rfl) ?_ | with_reducible refine d160_1_LDisk (by with_unfolding_all rfl) (by kernel_rfl) ?_ | with_reducible refine d160_2_LDisk (by with_unfolding_all rfl) (by kernel_rfl) ?_ | fail) <;> try simp only [go_sem, hA, e7, e6] | with_reducible refine hQ _ _ ?_ <;> simp only [Tryz.f160, go_sem, hA, e7, e6])
        exact hk
    have hi := lt_len hb
    have hw := wrap_nat i (by omega)
    have hil : (i : Int) < ((d.files.length : Nat) : Int) := Int.ofNat_lt.2 hi
    have hg0 : (d.files)[i]? = some ((d.files)[i]) := List.getElem?_eq_getElem (by omega)
    simp only [go_sem, hb, hA, e7, e6, hg0]
    try simp only [go_sem, hA, e7, e6, hil, hg0]
    have hlen := foldP_len x d.files i
    have hst := foldT_s (stepP x) ([], false) d.files i hi
    generalize foldT (stepP x) ([], false) d.files i = s at *
    obtain ⟨out, put⟩ := s
    simp only at hlen hst
    cases put
    · (try simp only [go_sem, hA, e7, e6, hil, hg0]); repeat' (first | (with_reducible first | refine c_split ?_ ?_ | refine w_split ?_ ?_ | refine tw_split ?_ ?_) <;> intro hb <;> try simp only [go_sem, hb, hA, e7, e6, hil, hg0] | (first | with_reducible refine d160_0_LDisk (by with_unfolding_all rfl) (by kernel_rfl) ?_ | with_reducible refine d160_1_LDisk (by with_unfolding_all rfl) (by kernel_rfl) ?_ | with_reducible refine d160_2_LDisk (by with_unfolding_all rfl) (by kernel_rfl) ?_ | fail) <;> try simp only [go_sem, hA, e7, e6, hil, hg0] | fail)
      · have h1 : x.name ≤ d.files[i].name := of_decide_eq_true hb
        refine ap_end rfl (by simp) (by simp; omega) ?_
        (try simp only [go_sem, hA, e7, e6, hil, hg0]); repeat' (first | (with_reducible first | refine c_split ?_ ?_ | refine w_split ?_ ?_ | refine tw_split ?_ ?_) <;> intro hb <;> try simp only [go_sem, hb, hA, e7, e6, hil, hg0] | (first | with_reducible refine d160_0_LDisk (by with_unfolding_all rfl) (by kernel_rfl) ?_ | with_reducible refine d160_1_LDisk (by with_unfolding_all rfl) (by kernel_rfl) ?_ | with_reducible refine d160_2_LDisk (by with_unfolding_all rfl) (by kernel_rfl) ?_ | fail) <;> try simp only [go_sem, hA, e7, e6, hil, hg0] | fail)
        · have h2 : ¬ d.files[i].name = x.name := by simpa using hb
          have hst2 : foldT (stepP x) ([], false) d.files (i + 1) = ((out ++ [x]) ++ [d.files[i]], true) := by rw [hst]; simp [stepP, h1, h2]
          refine ap_end rfl (by simp) (by simp; omega) ?_
          (try simp only [go_sem, hA, e7, e6, hil, hg0]); repeat' (first | (with_reducible first | refine c_split ?_ ?_ | refine w_split ?_ ?_ | refine tw_split ?_ ?_) <;> intro hb <;> try simp only [go_sem, hb, hA, e7, e6, hil, hg0] | (first | with_reducible refine d160_0_LDisk (by with_unfolding_all rfl) (by kernel_rfl) ?_ | with_reducible refine d160_1_LDisk (by with_unfolding_all rfl) (by kernel_rfl) ?_ | with_reducible refine d160_2_LDisk (by with_unfolding_all rfl) (by kernel_rfl) ?_ | fail) <;> try simp only [go_sem, hA, e7, e6, hil, hg0] | fail)
          refine gc_trim 5 (by decide) (by simp only [go_sem]) (by simp only [go_sem]) (hJ _ _ hi (by simp only [go_sem, hA, e7, e6]) ⟨?_, ?_, ?_⟩) <;> try simp only [go_sem, hA, e7, e6, hw, hst2]
        · have h2 : d.files[i].name = x.name := by simpa using hb
          have hst2 : foldT (stepP x) ([], false) d.files (i + 1) = (out ++ [x], true) := by rw [hst]; simp [stepP, h1, h2]
          refine gc_trim 5 (by decide) (by simp only [go_sem]) (by simp only [go_sem]) (hJ _ _ hi (by simp only [go_sem, hA, e7, e6]) ⟨?_, ?_, ?_⟩) <;> try simp only [go_sem, hA, e7, e6, hw, hst2]
      · rename_i hb1
        have h1 : ¬ x.name ≤ d.files[i].name := of_decide_eq_false hb1
        have h2 : ¬ d.files[i].name = x.name := by omega
        have hst2 : foldT (stepP x) ([], false) d.files (i + 1) = (out ++ [d.files[i]], false) := by rw [hst]; simp [stepP, h1, h2]
        refine ap_end rfl (by simp) (by simp; omega) ?_
        (try simp only [go_sem, hA, e7, e6, hil, hg0]); repeat' (first | (with_reducible first | refine c_split ?_ ?_ | refine w_split ?_ ?_ | refine tw_split ?_ ?_) <;> intro hb <;> try simp only [go_sem, hb, hA, e7, e6, hil, hg0] | (first | with_reducible refine d160_0_LDisk (by with_unfolding_all rfl) (by kernel_rfl) ?_ | with_reducible refine d160_1_LDisk (by with_unfolding_all rfl) (by kernel_rfl) ?_ | with_reducible refine d160_2_LDisk (by with_unfolding_all rfl) (by kernel_rfl) ?_ | fail) <;> try simp only [go_sem, hA, e7, e6, hil, hg0] | fail)
        refine gc_trim 5 (by decide) (by simp only [go_sem]) (by simp only [go_sem]) (hJ _ _ hi (by simp only [go_sem, hA, e7, e6]) ⟨?_, ?_, ?_⟩) <;> try simp only [go_sem, hA, e7, e6, hw, hst2]
      · rename_i hb1
        have h1 : ¬ x.name ≤ d.files[i].name := of_decide_eq_false hb1
        have h2 : d.files[i].name = x.name := by simpa using hb
        omega
    · (try simp only [go_sem, hA, e7, e6, hil, hg0]); repeat' (first | (with_reducible first | refine c_split ?_ ?_ | refine w_split ?_ ?_ | refine tw_split ?_ ?_) <;> intro hb <;> try simp only [go_sem, hb, hA, e7, e6, hil, hg0] | (first | with_reducible refine d160_0_LDisk (by with_unfolding_all rfl) (by kernel_rfl) ?_ | with_reducible refine d160_1_LDisk (by with_unfolding_all rfl) (by kernel_rfl) ?_ | with_reducible refine d160_2_LDisk (by with_unfolding_all rfl) (by kernel_rfl) ?_ | fail) <;> try simp only [go_sem, hA, e7, e6, hil, hg0] | fail)
      · have h2 : ¬ d.files[i].name = x.name := by simpa using hb
        have hst2 : foldT (stepP x) ([], false) d.files (i + 1) = (out ++ [d.files[i]], true) := by rw [hst]; simp [stepP, h2]
        refine ap_end rfl (by simp) (by simp; omega) ?_
        (try simp only [go_sem, hA, e7, e6, hil, hg0]); repeat' (first | (with_reducible first | refine c_split ?_ ?_ | refine w_split ?_ ?_ | refine tw_split ?_ ?_) <;> intro hb <;> try simp only [go_sem, hb, hA, e7, e6, hil, hg0] | (first | with_reducible refine d160_0_LDisk (by with_unfolding_all rfl) (by kernel_rfl) ?_ | with_reducible refine d160_1_LDisk (by with_unfolding_all rfl) (by kernel_rfl) ?_ | with_reducible refine d160_2_LDisk (by with_unfolding_all rfl) (by kernel_rfl) ?_ | fail) <;> try simp only [go_sem, hA, e7, e6, hil, hg0] | fail)
        refine gc_trim 5 (by decide) (by simp only [go_sem]) (by simp only [go_sem]) (hJ _ _ hi (by simp only [go_sem, hA, e7, e6]) ⟨?_, ?_, ?_⟩) <;> try simp only [go_sem, hA, e7, e6, hw, hst2]
      · have h2 : d.files[i].name = x.name := by simpa using hb
        have hst2 : foldT (stepP x) ([], false) d.files (i + 1) = (out, true) := by rw [hst]; simp [stepP, h2]
        refine gc_trim 5 (by decide) (by simp only [go_sem]) (by simp only [go_sem]) (hJ _ _ hi (by simp only [go_sem, hA, e7, e6]) ⟨?_, ?_, ?_⟩) <;> try simp only [go_sem, hA, e7, e6, hw, hst2]
/-! ### What the specification answers -/
theorem findG_find {α : Type} (p : α → Bool) (xs : List α) : (findG p xs = -1 ∧ xs.find? p = none) ∨ ∃ (i : Nat) (hi : i < xs.length), findG p xs = i ∧ p xs[i] = true ∧ xs.find? p = some xs[i] := by
  unfold findG
  cases hf : xs.findIdx? p with
  | none =>
    rw [List.findIdx?_eq_none_iff] at hf
    exact .inl ⟨rfl, List.find?_eq_none.2 fun x hx => by simp [hf x hx]⟩
  | some i =>
    rw [List.findIdx?_eq_some_iff_getElem] at hf
    obtain ⟨hi, h1, h2⟩ := hf
    refine .inr ⟨i, hi, rfl, h1, ?_⟩
    rw [List.find?_eq_some_iff_getElem]
    exact ⟨h1, i, hi, rfl, fun j hj => by simpa using h2 j hj⟩
def addF (fs : List File) (name : Int) (s : ByteArray) : File := match fs.find? (fun f => f.name == name) with | some f => ⟨f.name, f.safe, f.late ++ s⟩ | none => ⟨name, ⟨#[]⟩, ⟨#[]⟩ ++ s⟩
def appR (d : Disk) (name : Int) (s : ByteArray) : Disk × Int := if diskOk d = true ∧ 0 ≤ name ∧ name ≤ 21 then (if d.room < roomTo d.files d.files.length + s.size then (d, 3) else (⟨d.room, putF d.files (addF d.files name s)⟩, 0)) else (⟨0, []⟩, 1)
def diskR (r : Disk × Int) : AV := .tup [.agg (diskC r.1), (.one (.c (.int .i64 (r.2))))]
theorem okN {d : Disk} {name : Int} (h1 : (!diskOk d) = false) (h2 : (!decide (0 ≤ name ∧ name ≤ 21)) = false) : diskOk d = true ∧ 0 ≤ name ∧ name ≤ 21 := by simp at h1 h2; exact ⟨h1, h2⟩
theorem noN1 {d : Disk} {name : Int} (h1 : (!diskOk d) = true) : ¬ (diskOk d = true ∧ 0 ≤ name ∧ name ≤ 21) := fun q => by simp [q.1] at h1
theorem noN2 {d : Disk} {name : Int} (h2 : (!decide (0 ≤ name ∧ name ≤ 21)) = true) : ¬ (diskOk d = true ∧ 0 ≤ name ∧ name ≤ 21) := fun q => by simp [q.2] at h2
theorem full_w {d : Disk} {s : ByteArray} (hz : SmallF d.files) (hs : s.size ≤ 1000000000000) (h : diskOk d = true) : wrap64 (d.room - wrap64 (roomTo d.files d.files.length)) = d.room - roomTo d.files d.files.length ∧ wrap64 (wrap64 (roomTo d.files d.files.length) + (s.size : Int)) = roomTo d.files d.files.length + s.size := by
  obtain ⟨h1, h2, h3, h4⟩ := disk_room hz h
  have h5 := roomTo_nonneg d.files d.files.length
  rw [h1]
  constructor <;> (unfold wrap64; omega)
theorem file_small {fs : List File} (hz : SmallF fs) {i : Nat} (hi : i < fs.length) : fs[i].safe.size ≤ 1000000000000000 ∧ fs[i].late.size ≤ 1000000000000000 := hz _ (List.getElem_mem hi)
theorem c_spec_DiskAppend (d : Disk) (name : Int) (s : ByteArray) (hn : d.files.length ≤ 1000000000) (hz : SmallF d.files) (hs : s.size ≤ 1000000000000) (K : AV → AH → Prop) (hk : K (diskR (appR d name s)) []) : ACalls Tryz.prog 76 [.agg (diskC d), (.one (.c (.int .i64 (name)))), (.one (.c (.string (s))))] [] K := by
  refine acall_c Tryz.f76.results.toList mixed Tryz.func76 rfl rfl (by kernel_rfl) ?_
  intro Q hQ hQO
  simp only [go_sem]
  (try simp only [go_sem]); repeat' (first | (with_reducible first | refine c_split ?_ ?_ | refine w_split ?_ ?_ | refine tw_split ?_ ?_) <;> intro hb <;> try simp only [go_sem, hb] | (first | with_reducible refine d76_0_LDisk (by with_unfolding_all rfl) (by kernel_rfl) ?_ | refine call_c (c_spec_DiskOk d hn _ ?_) | refine call_c (c_l14Name _ _ ?_) | refine call_c (c_l14Size d hn _ ?_) | fail) <;> try simp only [go_sem] | fail)
  · rw [appR, if_neg (noN1 hb)] at hk
    (try simp only [go_sem]); repeat' (first | (with_reducible first | refine c_split ?_ ?_ | refine w_split ?_ ?_ | refine tw_split ?_ ?_) <;> intro hb <;> try simp only [go_sem, hb] | with_reducible refine d76_0_LDisk (by with_unfolding_all rfl) (by kernel_rfl) ?_ <;> try simp only [go_sem] | with_reducible refine hQ _ _ ?_ <;> simp only [Tryz.f76, go_sem])
    exact hk
  · rw [appR, if_neg (noN2 hb)] at hk
    (try simp only [go_sem]); repeat' (first | (with_reducible first | refine c_split ?_ ?_ | refine w_split ?_ ?_ | refine tw_split ?_ ?_) <;> intro hb <;> try simp only [go_sem, hb] | with_reducible refine d76_0_LDisk (by with_unfolding_all rfl) (by kernel_rfl) ?_ <;> try simp only [go_sem] | with_reducible refine hQ _ _ ?_ <;> simp only [Tryz.f76, go_sem])
    exact hk
  all_goals rename_i hb1 hb2
  · have ok := okN hb1 hb2
    rw [appR, if_pos ok] at hk
    obtain ⟨w1, w2⟩ := full_w (s := s) hz hs ok.1
    rw [w1] at hb
    rw [if_pos (by have := of_decide_eq_true hb; omega)] at hk
    (try simp only [go_sem]); repeat' (first | (with_reducible first | refine c_split ?_ ?_ | refine w_split ?_ ?_ | refine tw_split ?_ ?_) <;> intro hb <;> try simp only [go_sem, hb] | (first | with_reducible refine d76_0_LDisk (by with_unfolding_all rfl) (by kernel_rfl) ?_ | refine call_c (c_l14Copy d hn _ ?_) | fail) <;> try simp only [go_sem] | with_reducible refine hQ _ _ ?_ <;> simp only [Tryz.f76, go_sem])
    exact hk
  · have ok := okN hb1 hb2
    rw [appR, if_pos ok] at hk
    obtain ⟨w1, w2⟩ := full_w (s := s) hz hs ok.1
    rw [w1] at hb
    rw [if_neg (by have := of_decide_eq_false hb; omega)] at hk
    refine call_c (c_l14Find d name hn _ ?_)
    rcases findG_find (fun f => f.name == name) d.files with ⟨h1, h2⟩ | ⟨i, hi, h1, h3, h2⟩
    · rw [addF, h2] at hk
      simp only at hk
      have hsz : (ByteArray.mk #[]).size + s.size ≤ 9223372036854775807 := by show 0 + s.size ≤ _; omega
      (try simp only [go_sem, h1, Int.reduceLE, Int.reduceNeg]); repeat' (first | (with_reducible first | refine c_split ?_ ?_ | refine w_split ?_ ?_ | refine tw_split ?_ ?_) <;> intro hb <;> try simp only [go_sem, hb, h1, Int.reduceLE, Int.reduceNeg] | with_reducible refine d76_0_LDisk (by with_unfolding_all rfl) (by kernel_rfl) ?_ <;> try simp only [go_sem, h1, Int.reduceLE, Int.reduceNeg] | fail)
      rw [b_sadd (hs := hsz)]
      (try simp only [go_sem]); repeat' (first | (with_reducible first | refine c_split ?_ ?_ | refine w_split ?_ ?_ | refine tw_split ?_ ?_) <;> intro hb <;> try simp only [go_sem, hb] | (first | with_reducible refine d76_0_LDisk (by with_unfolding_all rfl) (by kernel_rfl) ?_ | refine call_c (c_l14Put d ⟨name, ⟨#[]⟩, (⟨#[]⟩ : ByteArray) ++ s⟩ hn (disk_sorted ok.1) _ ?_) | fail) <;> try simp only [go_sem] | with_reducible refine hQ _ _ ?_ <;> simp only [Tryz.f76, go_sem])
      exact hk
    · rw [addF, h2] at hk
      simp only at hk
      have hg : d.files[i]? = some d.files[i] := List.getElem?_eq_getElem hi
      have hsz : d.files[i].late.size + s.size ≤ 9223372036854775807 := by have := file_small hz hi; omega
      (try simp only [go_sem, h1, hg, hsz]); repeat' (first | (with_reducible first | refine c_split ?_ ?_ | refine w_split ?_ ?_ | refine tw_split ?_ ?_) <;> intro hb <;> try simp only [go_sem, hb, h1, hg, hsz] | (first | with_reducible refine d76_0_LDisk (by with_unfolding_all rfl) (by kernel_rfl) ?_ | refine call_c (c_l14Put d ⟨d.files[i].name, d.files[i].safe, d.files[i].late ++ s⟩ hn (disk_sorted ok.1) _ ?_) | fail) <;> try simp only [go_sem, h1, hg, hsz] | with_reducible refine hQ _ _ ?_ <;> simp only [Tryz.f76, go_sem, h1, hg, hsz])
      exact hk
def syncR (d : Disk) (name : Int) : Disk × Int := if diskOk d = true ∧ 0 ≤ name ∧ name ≤ 21 then (match d.files.find? (fun f => f.name == name) with | some f => (⟨d.room, putF d.files ⟨name, f.safe ++ f.late, ⟨#[]⟩⟩⟩, 0) | none => (d, 2)) else (⟨0, []⟩, 1)
theorem atR_cases (d : Disk) (name : Int) : (¬ (diskOk d = true ∧ 0 ≤ name ∧ name ≤ 21) ∧ atR d name = (-1, 1)) ∨ ((diskOk d = true ∧ 0 ≤ name ∧ name ≤ 21) ∧ ((atR d name = (-1, 2) ∧ d.files.find? (fun f => f.name == name) = none) ∨ ∃ (i : Nat) (hi : i < d.files.length), atR d name = ((i : Int), 0) ∧ d.files[i].name = name ∧ d.files.find? (fun f => f.name == name) = some d.files[i])) := by
  by_cases ok : diskOk d = true ∧ 0 ≤ name ∧ name ≤ 21
  · refine .inr ⟨ok, ?_⟩
    rw [atR, if_pos ok]
    rcases findG_find (fun f => f.name == name) d.files with ⟨h1, h2⟩ | ⟨i, hi, h1, h3, h2⟩
    · rw [h1]; exact .inl ⟨rfl, h2⟩
    · rw [h1, if_pos (by omega)]; exact .inr ⟨i, hi, rfl, by simpa using h3, h2⟩
  · exact .inl ⟨ok, by rw [atR, if_neg ok]⟩
theorem c_spec_DiskSync (d : Disk) (name : Int) (hn : d.files.length ≤ 1000000000) (hz : SmallF d.files) (K : AV → AH → Prop) (hk : K (diskR (syncR d name)) []) : ACalls Tryz.prog 78 [.agg (diskC d), (.one (.c (.int .i64 (name))))] [] K := by
  refine acall_c Tryz.f78.results.toList mixed Tryz.func78 rfl rfl (by kernel_rfl) ?_
  intro Q hQ hQO
  simp only [go_sem]
  refine call_c (c_l14At d name hn _ ?_)
  rcases atR_cases d name with ⟨ok, h1⟩ | ⟨ok, ⟨h1, h2⟩ | ⟨i, hi, h1, h3, h2⟩⟩
  · rw [syncR, if_neg ok] at hk
    (try simp only [go_sem, h1]); repeat' (first | (with_reducible first | refine c_split ?_ ?_ | refine w_split ?_ ?_) <;> intro hb <;> try simp only [go_sem, hb, h1] | refine call_c (c_l14Refused d 1 hn _ ?_) <;> try simp only [go_sem, h1] | with_reducible refine hQ _ _ ?_ <;> simp only [Tryz.f78, go_sem, h1])
    exact hk
  · rw [syncR, if_pos ok, h2] at hk
    simp only at hk
    (try simp only [go_sem, h1]); repeat' (first | (with_reducible first | refine c_split ?_ ?_ | refine w_split ?_ ?_) <;> intro hb <;> try simp only [go_sem, hb, h1] | refine call_c (c_l14Refused d 2 hn _ ?_) <;> try simp only [go_sem, h1] | with_reducible refine hQ _ _ ?_ <;> simp only [Tryz.f78, go_sem, h1])
    exact hk
  · rw [syncR, if_pos ok, h2] at hk
    simp only at hk
    have hg : d.files[i]? = some d.files[i] := List.getElem?_eq_getElem hi
    have hsz : d.files[i].safe.size + d.files[i].late.size ≤ 9223372036854775807 := by have := file_small hz hi; omega
    (try simp only [go_sem, h1, hg, hsz, BEq.rfl]); repeat' (first | (with_reducible first | refine c_split ?_ ?_ | refine w_split ?_ ?_) <;> intro hb <;> try simp only [go_sem, hb, h1, hg, hsz, BEq.rfl] | refine call_c (c_l14Put d ⟨name, d.files[i].safe ++ d.files[i].late, ⟨#[]⟩⟩ hn (disk_sorted ok.1) _ ?_) <;> try simp only [go_sem, h1, hg, hsz, BEq.rfl] | with_reducible refine hQ _ _ ?_ <;> simp only [Tryz.f78, go_sem, h1, hg, hsz, BEq.rfl])
    exact hk
/-! ### The program's own -/
def putPos (fs : List File) (x : File) : Nat := (fs.takeWhile (fun g => decide (g.name < x.name))).length
theorem putPos_le (fs : List File) (x : File) : putPos fs x ≤ fs.length := (List.takeWhile_prefix _).length_le
theorem takeWhile_at {α : Type} (p : α → Bool) : ∀ (xs : List α) (i : Nat) (hi : i ≤ xs.length), (∀ j (hj : j < i), p (xs[j]'(Nat.lt_of_lt_of_le hj hi)) = true) → (∀ h : i < xs.length, p xs[i] = false) → (xs.takeWhile p).length = i
  | [], 0, _, _, _ => rfl
  | x :: r, 0, _, _, h => by have := h (by simp); simp at this; simp [this]
  | x :: r, i + 1, hi, h1, h2 => by
    have h0 := h1 0 (by omega)
    simp only [List.getElem_cons_zero] at h0
    simp only [List.takeWhile_cons, h0, if_true, List.length_cons]
    rw [takeWhile_at p r i (by simpa using hi) (fun j hj => by have := h1 (j + 1) (by omega); simpa using this) (fun h => by have := h2 (by simpa using h); simpa using this)]
theorem low_s {xs : List File} {x : File} {i : Nat} (h : ∀ j (hj : j < xs.length), j < i → xs[j].name < x.name) (hi : i < xs.length) (h2 : xs[i].name < x.name) : ∀ j (hj : j < xs.length), j < i + 1 → xs[j].name < x.name := fun j hj hji => by
  rcases Nat.lt_or_ge j i with q | q
  · exact h j hj q
  · have e : j = i := by omega
    subst e; exact h2
theorem c_put (room : Int) (xs : List File) (x : File) (p l g : Nat) (cap : Option Nat) (h0 : AH) (hp : h0[p]? = some (.own 0 24 2 (some 1) [[.c (.int .i64 (room)), .sl l g 0 xs.length]])) (hl : h0[l]? = some (.own g 125 3 cap (xs.map fileC))) (hn : xs.length ≤ 1000000000)
    (K : AV → AH → Prop) (hk : ∀ g', K (.tup []) ((h0.set l (.own g' 125 3 none ((insAt xs (putPos xs x) x).map fileC))).set p (.own 0 24 2 (some 1) [[.c (.int .i64 (room)), .sl l g' 0 (xs.length + 1)]]))) : ACalls Tryz.prog 169 [.one (.pt p 0 0 0), .agg (fileC x)] h0 K := by
  have hpl : p ≠ l := fun e => by subst e; rw [hp] at hl; simp at hl
  have hlt := (List.getElem?_eq_some_iff.1 hl).1
  have hltp := (List.getElem?_eq_some_iff.1 hp).1
  have hpo : ∀ a : List AO, (h0 ++ a)[p]? = some (.own 0 24 2 (some 1) [[.c (.int .i64 (room)), .sl l g 0 xs.length]]) := fun a => h_old a hp
  have hlo : ∀ a : List AO, (h0 ++ a)[l]? = some (.own g 125 3 cap (xs.map fileC)) := fun a => h_old a hl
  have hnw : ∀ a : AO, (h0 ++ [a])[h0.length]? = some a := fun a => by simp
  have hsl : ∀ (o : AO) (a : List AO), (h0 ++ a).set l o = h0.set l o ++ a := fun o a => List.set_append_left _ _ hlt
  have hgp : ∀ (o : AO) (a : List AO), (h0.set l o ++ a)[p]? = some (.own 0 24 2 (some 1) [[.c (.int .i64 (room)), .sl l g 0 xs.length]]) := fun o a => by rw [List.getElem?_append_left (by simpa using hltp), List.getElem?_set_ne (Ne.symm hpl)]; exact hp
  have hsp : ∀ (o o' : AO) (a : List AO), (h0.set l o ++ a).set p o' = (h0.set l o).set p o' ++ a := fun o o' a => List.set_append_left _ _ (by simpa using hltp)
  refine acall_n Tryz.f169.results.toList mixed Tryz.func169 rfl rfl (by kernel_rfl) ?_
  intro hwf Q hQ
  simp only [go_sem, hpo, hlo, hnw]
  refine while_at (α := Nat) (fun i => xs.length - i) [0, 3] (fun i f h => f 4 = (.one (.c (.int .i64 ((i : Int))))) ∧ h = h0 ++ [.own 0 125 3 (some 1) [fileC x]] ∧ i ≤ xs.length ∧ ∀ j (hj : j < xs.length), j < i → xs[j].name < x.name) 0 (GC.now ?_) ?_
  · simp only [go_sem, nc_0, true_and, hpo, hlo, hnw]
    simp
  · rintro i f h J hA ⟨e4, rfl, hP⟩ hJ
    simp only [go_sem, hpo, hlo, hnw] at hA
    try dsimp only at hJ
    simp only [go_sem, hA, e4, hpo, hlo, hnw]
    obtain ⟨hi, hlow⟩ := hP
    (try simp only [go_sem, hA, e4, hpo, hlo, hnw]); repeat' (first | (with_reducible first | refine c_split ?_ ?_ | refine w_split ?_ ?_ | refine tw_split ?_ ?_) <;> intro hb <;> try simp only [go_sem, hb, hA, e4, hpo, hlo, hnw] | (first | with_reducible refine d169_0_LDisk (by with_unfolding_all rfl) (by kernel_rfl) ?_ | with_reducible refine d169_1_LDisk (by with_unfolding_all rfl) (by kernel_rfl) ?_ | fail) <;> try simp only [go_sem, hA, e4, hpo, hlo, hnw] | fail)
    · have hi2 := lt_len hb
      have hil : (i : Int) < (xs.length : Int) := Int.ofNat_lt.2 hi2
      have hg : xs[i]? = some xs[i] := List.getElem?_eq_getElem hi2
      have hw := wrap_nat i (by omega)
      (try simp only [go_sem, hA, e4, hpo, hlo, hnw, hil, hg]); repeat' (first | (with_reducible first | refine c_split ?_ ?_ | refine w_split ?_ ?_ | refine tw_split ?_ ?_) <;> intro hb <;> try simp only [go_sem, hb, hA, e4, hpo, hlo, hnw, hil, hg] | (first | with_reducible refine d169_0_LDisk (by with_unfolding_all rfl) (by kernel_rfl) ?_ | with_reducible refine d169_1_LDisk (by with_unfolding_all rfl) (by kernel_rfl) ?_ | fail) <;> try simp only [go_sem, hA, e4, hpo, hlo, hnw, hil, hg] | fail)
      · have hlt2 : xs[i].name < x.name := of_decide_eq_true (by assumption)
        refine GC.now (hJ (i + 1) _ _ (by omega) (by simp only [go_sem, hA, e4, hpo, hlo, hnw]) ⟨?_, ?_, ?_⟩) <;> try simp only [go_sem, hA, e4, hpo, hlo, hnw, hw]
        exact ⟨by omega, low_s hlow hi2 hlt2⟩
      · have hpp : putPos xs x = i := takeWhile_at _ xs i hi (fun j hj => decide_eq_true (hlow j (by omega) hj)) (fun _ => by assumption)
        subst hpp
        have hii : putPos xs x ≤ xs.length := hi
        have hvh : (h0 ++ [AO.own 0 125 3 (some 1) [fileC x], AO.own 0 125 3 (some 1) [fileC x]])[h0.length + 1]? = some (.own 0 125 3 (some 1) [fileC x]) := by rw [List.getElem?_append_right (by omega)]; simp
        (try simp only [go_sem, hA, e4, hpo, hlo, hnw, hpo, hlo, hnw]); repeat' (first | (with_reducible first | refine c_split ?_ ?_ | refine w_split ?_ ?_ | refine tw_split ?_ ?_) <;> intro hb <;> try simp only [go_sem, hb, hA, e4, hpo, hlo, hnw, hpo, hlo, hnw] | (first | with_reducible refine d169_0_LDisk (by with_unfolding_all rfl) (by kernel_rfl) ?_ | with_reducible refine d169_1_LDisk (by with_unfolding_all rfl) (by kernel_rfl) ?_ | fail) <;> try simp only [go_sem, hA, e4, hpo, hlo, hnw, hpo, hlo, hnw] | fail)
        (try simp only [go_sem, hA, e4, hpo, hlo, hnw, hpo, hlo, hnw]); repeat' (first | (with_reducible first | refine c_split ?_ ?_ | refine w_split ?_ ?_ | refine tw_split ?_ ?_) <;> intro hb <;> try simp only [go_sem, hb, hA, e4, hpo, hlo, hnw, hpo, hlo, hnw] | (first | with_reducible refine d169_0_LDisk (by with_unfolding_all rfl) (by kernel_rfl) ?_ | with_reducible refine d169_1_LDisk (by with_unfolding_all rfl) (by kernel_rfl) ?_ | refine call_h (c_Insert xs x (putPos xs x) l g (h0.length + 1) 0 cap (some 1) _ (hlo _) hvh (by omega) hii hn _ (fun g' => ?_)) | fail) <;> try simp only [go_sem, hA, e4, hpo, hlo, hnw, hpo, hlo, hnw] | fail)
        (try simp only [go_sem, hsl, hgp, hsp]); repeat' (first | (with_reducible first | refine c_split ?_ ?_ | refine w_split ?_ ?_ | refine tw_split ?_ ?_) <;> intro hb <;> try simp only [go_sem, hb, hsl, hgp, hsp] | (first | with_reducible refine d169_0_LDisk (by with_unfolding_all rfl) (by kernel_rfl) ?_ | with_reducible refine d169_1_LDisk (by with_unfolding_all rfl) (by kernel_rfl) ?_ | fail) <;> try simp only [go_sem, hsl, hgp, hsp] | fail)
        refine hQ ((h0.set l (.own g' 125 3 none ((insAt xs (putPos xs x) x).map fileC))).set p (.own 0 24 2 (some 1) [[.c (.int .i64 (room)), .sl l g' 0 (xs.length + 1)]])) _ _ ?_; refine GC.now (ret_m (by simp only [go_sem, Tryz.f169, hlt]; exact _root_.id rfl) (by simp only [go_sem]) (by simp) (by first | exact hwf | exact wf_set hwf (by simp only [go_sem, hlt]) | exact wf_set2 hwf (by simp only [go_sem, hlt]) (by simp only [go_sem, hlt]) | (simp only [go_sem]; done)) (by first | exact ⟨_, _root_.id rfl⟩ | exact ⟨[], (List.append_nil _).symm⟩) ?_) <;> simp only [go_sem, hlt]
        exact hk _
    · have hpp : putPos xs x = i := takeWhile_at _ xs i hi (fun j hj => decide_eq_true (hlow j (by omega) hj)) (fun h => by have := of_decide_eq_false hb; omega)
      subst hpp
      have hii : putPos xs x ≤ xs.length := hi
      have hvh : (h0 ++ [AO.own 0 125 3 (some 1) [fileC x], AO.own 0 125 3 (some 1) [fileC x]])[h0.length + 1]? = some (.own 0 125 3 (some 1) [fileC x]) := by rw [List.getElem?_append_right (by omega)]; simp
      (try simp only [go_sem, hA, e4, hpo, hlo, hnw, hpo, hlo, hnw]); repeat' (first | (with_reducible first | refine c_split ?_ ?_ | refine w_split ?_ ?_ | refine tw_split ?_ ?_) <;> intro hb <;> try simp only [go_sem, hb, hA, e4, hpo, hlo, hnw, hpo, hlo, hnw] | (first | with_reducible refine d169_0_LDisk (by with_unfolding_all rfl) (by kernel_rfl) ?_ | with_reducible refine d169_1_LDisk (by with_unfolding_all rfl) (by kernel_rfl) ?_ | fail) <;> try simp only [go_sem, hA, e4, hpo, hlo, hnw, hpo, hlo, hnw] | fail)
      (try simp only [go_sem, hA, e4, hpo, hlo, hnw, hpo, hlo, hnw]); repeat' (first | (with_reducible first | refine c_split ?_ ?_ | refine w_split ?_ ?_ | refine tw_split ?_ ?_) <;> intro hb <;> try simp only [go_sem, hb, hA, e4, hpo, hlo, hnw, hpo, hlo, hnw] | (first | with_reducible refine d169_0_LDisk (by with_unfolding_all rfl) (by kernel_rfl) ?_ | with_reducible refine d169_1_LDisk (by with_unfolding_all rfl) (by kernel_rfl) ?_ | refine call_h (c_Insert xs x (putPos xs x) l g (h0.length + 1) 0 cap (some 1) _ (hlo _) hvh (by omega) hii hn _ (fun g' => ?_)) | fail) <;> try simp only [go_sem, hA, e4, hpo, hlo, hnw, hpo, hlo, hnw] | fail)
      (try simp only [go_sem, hsl, hgp, hsp]); repeat' (first | (with_reducible first | refine c_split ?_ ?_ | refine w_split ?_ ?_ | refine tw_split ?_ ?_) <;> intro hb <;> try simp only [go_sem, hb, hsl, hgp, hsp] | (first | with_reducible refine d169_0_LDisk (by with_unfolding_all rfl) (by kernel_rfl) ?_ | with_reducible refine d169_1_LDisk (by with_unfolding_all rfl) (by kernel_rfl) ?_ | fail) <;> try simp only [go_sem, hsl, hgp, hsp] | fail)
      refine hQ ((h0.set l (.own g' 125 3 none ((insAt xs (putPos xs x) x).map fileC))).set p (.own 0 24 2 (some 1) [[.c (.int .i64 (room)), .sl l g' 0 (xs.length + 1)]])) _ _ ?_; refine GC.now (ret_m (by simp only [go_sem, Tryz.f169, hlt]; exact _root_.id rfl) (by simp only [go_sem]) (by simp) (by first | exact hwf | exact wf_set hwf (by simp only [go_sem, hlt]) | exact wf_set2 hwf (by simp only [go_sem, hlt]) (by simp only [go_sem, hlt]) | (simp only [go_sem]; done)) (by first | exact ⟨_, _root_.id rfl⟩ | exact ⟨[], (List.append_nil _).symm⟩) ?_) <;> simp only [go_sem, hlt]
      exact hk _
theorem c_drop1 (f : File) (name : Int) (h : AH) (l : Nat) (hl : h[l]? = some (.own 0 3 1 (some 1) [[.c (.int .i64 (name))]])) (K : AV → AH → Prop) (hk : K (.one (.c (.bool (f.name == name)))) h) : ACalls Tryz.prog 168 [.agg (fileC f), .one (.pt l 0 0 0)] h K := by
  refine acall_m Tryz.f168.results.toList mixed Tryz.func168 rfl rfl (by kernel_rfl) ?_
  intro hwf Q hQ
  simp only [go_sem, fun a => h_old a hl]
  refine hQ (h) _ _ ?_; refine GC.now (ret_m (by simp only [go_sem, Tryz.f168]; exact _root_.id rfl) (by simp only [go_sem]) (by simp) (by first | exact hwf | exact wf_set hwf (by simp only [go_sem]) | exact wf_set2 hwf (by simp only [go_sem]) (by simp only [go_sem]) | (simp only [go_sem]; done)) (by first | exact ⟨_, _root_.id rfl⟩ | exact ⟨[], (List.append_nil _).symm⟩) ?_) <;> simp only [go_sem]
  exact hk
def lessF (fs : List File) (name : Int) : List File := fs.filter fun f => !(f.name == name)
theorem c_drop (room : Int) (xs : List File) (name : Int) (p l g : Nat) (cap : Option Nat) (h0 : AH) (hp : h0[p]? = some (.own 0 24 2 (some 1) [[.c (.int .i64 (room)), .sl l g 0 xs.length]])) (hl : h0[l]? = some (.own g 125 3 cap (xs.map fileC))) (hn : xs.length ≤ 1000000000)
    (K : AV → AH → Prop) (hk : K (.tup []) ((h0.set l (.own g 125 3 none ((lessF xs name).map fileC))).set p (.own 0 24 2 (some 1) [[.c (.int .i64 (room)), .sl l g 0 (lessF xs name).length]]))) : ACalls Tryz.prog 84 [.one (.pt p 0 0 0), (.one (.c (.int .i64 (name))))] h0 K := by
  have hpl : p ≠ l := fun e => by subst e; rw [hp] at hl; simp at hl
  have hlt := (List.getElem?_eq_some_iff.1 hl).1
  have hltp := (List.getElem?_eq_some_iff.1 hp).1
  have hpo : ∀ a : List AO, (h0 ++ a)[p]? = some (.own 0 24 2 (some 1) [[.c (.int .i64 (room)), .sl l g 0 xs.length]]) := fun a => h_old a hp
  have hlo : ∀ a : List AO, (h0 ++ a)[l]? = some (.own g 125 3 cap (xs.map fileC)) := fun a => h_old a hl
  have hnw : ∀ a : AO, (h0 ++ [a])[h0.length]? = some a := fun a => by simp
  have hsl : ∀ (o : AO) (a : List AO), (h0 ++ a).set l o = h0.set l o ++ a := fun o a => List.set_append_left _ _ hlt
  have hgp : ∀ (o : AO) (a : List AO), (h0.set l o ++ a)[p]? = some (.own 0 24 2 (some 1) [[.c (.int .i64 (room)), .sl l g 0 xs.length]]) := fun o a => by rw [List.getElem?_append_left (by simpa using hltp), List.getElem?_set_ne (Ne.symm hpl)]; exact hp
  have hsp : ∀ (o o' : AO) (a : List AO), (h0.set l o ++ a).set p o' = (h0.set l o).set p o' ++ a := fun o o' a => List.set_append_left _ _ (by simpa using hltp)
  refine acall_n Tryz.f84.results.toList mixed Tryz.func84 rfl rfl (by kernel_rfl) ?_
  intro hwf Q hQ
  simp only [go_sem, hpo, hlo, hnw]
  refine call_h (c_DeleteFunc xs l g cap _ [h0.length] (fun f => f.name == name) _ (hlo _) hn ?_ (by simp; omega) (by simp) _ (fun rest => ?_))
  · intro h1 x K' hcap hk'
    exact .inr (.inl ⟨rfl, c_drop1 x name h1 h0.length ((hcap h0.length (by simp)).trans (hnw _)) _ hk'⟩)
  · have hf : (xs.filter fun f => !(f.name == name)) = lessF xs name := rfl
    have htk : (List.map fileC (lessF xs name ++ rest)).take (lessF xs name).length = (lessF xs name).map fileC := by rw [← List.map_take, List.take_left]
    simp only [go_sem, hf]
    (try simp only [go_sem, hpo, hlo, hnw, hsl, hgp, hsp]); repeat' (first | (with_reducible first | refine c_split ?_ ?_ | refine w_split ?_ ?_) <;> intro hb <;> try simp only [go_sem, hb, hpo, hlo, hnw, hsl, hgp, hsp] | fail)
    refine hQ ((h0.set l (.own g 125 3 none ((lessF xs name).map fileC))).set p (.own 0 24 2 (some 1) [[.c (.int .i64 (room)), .sl l g 0 (lessF xs name).length]])) _ _ ?_; refine GC.step (Ghost.cut (l := l) (g := g) (t := 125) (k := 3) (cap := cap) (es := (lessF xs name ++ rest).map fileC) (by rw [List.getElem?_append_left (by simpa using hlt), List.getElem?_set_ne hpl, List.getElem?_set_self hlt]) (lessF xs name).length) (GC.now (ret_m (by simp only [go_sem, Tryz.f84, hlt]; exact _root_.id rfl) (by simp only [go_sem]) (by simp) (by first | exact hwf | exact wf_set hwf (by simp only [go_sem, hlt]) | exact wf_set2 hwf (by simp only [go_sem, hlt]) (by simp only [go_sem, hlt]) | (simp only [go_sem]; done)) (by first | exact ⟨_, by rw [htk, List.set_append_left _ _ (by simpa using hlt), List.set_comm _ _ hpl, List.set_set]⟩ | exact ⟨_, _root_.id rfl⟩ | exact ⟨[], (List.append_nil _).symm⟩) ?_)) <;> simp only [go_sem, hlt]
    exact hk
theorem putF_cons_lt {g : File} {r : List File} {x : File} (h : g.name < x.name) : putF (g :: r) x = g :: putF r x := by
  have : ¬ x.name < g.name := by omega
  simp [putF, h, this]
theorem putF_head {g : File} {r : List File} {x : File} (hs : SortedF (g :: r)) (h : x.name ≤ g.name) : putF (g :: r) x = x :: (if g.name = x.name then r else g :: r) := by
  have hs2 := List.pairwise_cons.1 hs
  have h1 : (g :: r).filter (fun y => decide (y.name < x.name)) = [] := by
    rw [List.filter_eq_nil_iff]
    intro y hy
    rcases List.mem_cons.1 hy with rfl | hy
    · simp; omega
    · have := hs2.1 y hy; simp; omega
  have h2 : r.filter (fun y => decide (x.name < y.name)) = r := by
    rw [List.filter_eq_self]
    intro y hy
    have := hs2.1 y hy; simp; omega
  rw [putF, h1, List.nil_append, List.filter_cons, h2]
  by_cases he : g.name = x.name
  · rw [if_pos he, if_neg (by simp; omega)]
  · rw [if_neg he, if_pos (by simp; omega)]
theorem putF_absent (x : File) : ∀ (fs : List File), SortedF fs → (∀ g ∈ fs, g.name ≠ x.name) → insAt fs (putPos fs x) x = putF fs x
  | [], _, _ => by simp [insAt, putF, putPos]
  | g :: r, hs, h => by
    have hs2 := List.pairwise_cons.1 hs
    by_cases hlt : g.name < x.name
    · have hp : putPos (g :: r) x = putPos r x + 1 := by simp [putPos, hlt]
      have hr := putF_absent x r hs2.2 (fun y hy => h y (by simp [hy]))
      rw [putF_cons_lt hlt, hp, ← hr]
      simp [insAt]
    · have hne := h g (by simp)
      have hp : putPos (g :: r) x = 0 := by simp [putPos, hlt]
      rw [hp, putF_head hs (by omega), if_neg hne]
      rfl
theorem putF_set (x : File) : ∀ (fs : List File) (i : Nat) (hi : i < fs.length), SortedF fs → fs[i].name = x.name → fs.set i x = putF fs x
  | g :: r, 0, _, hs, h => by
    simp only [List.getElem_cons_zero] at h
    rw [putF_head hs (by omega), if_pos h]; rfl
  | g :: r, i + 1, hi, hs, h => by
    have hs2 := List.pairwise_cons.1 hs
    simp only [List.getElem_cons_succ] at h
    have hi' : i < r.length := by simpa using hi
    have := hs2.1 r[i] (List.getElem_mem hi')
    rw [putF_cons_lt (by omega), ← putF_set x r i hi' hs2.2 h]; rfl
theorem insAt_get {α : Type} (xs : List α) (i : Nat) (x : α) (hi : i ≤ xs.length) : (insAt xs i x)[i]? = some x := by
  rw [insAt, List.getElem?_append_right (by simp; omega)]
  rw [show i - (xs.take i).length = 0 by simp; omega]; rfl
theorem insAt_lt {α : Type} (xs : List α) (i : Nat) (x : α) (hi : i ≤ xs.length) (j : Nat) (hj : j < i) : (insAt xs i x)[j]? = xs[j]? := by
  rw [insAt, List.getElem?_append_left (by simp; omega), List.getElem?_take, if_pos hj]
theorem insAt_set {α : Type} (xs : List α) (i : Nat) (x y : α) (hi : i ≤ xs.length) : (insAt xs i x).set i y = insAt xs i y := by
  rw [insAt, List.set_append_right _ _ (by simp; omega), insAt]
  rw [show i - (xs.take i).length = 0 by simp; omega]; rfl
theorem findG_ins (xs : List File) (i : Nat) (x : File) (hi : i ≤ xs.length) (h : ∀ g ∈ xs, g.name ≠ x.name) : findG (fun f => f.name == x.name) (insAt xs i x) = i := by
  have hl := insAt_len xs i x hi
  have hil : i < (insAt xs i x).length := by omega
  refine findG_at hil (fun j hj => ?_) ?_
  · have h1 := insAt_lt xs i x hi j hj
    have hjl : j < xs.length := by omega
    rw [List.getElem?_eq_getElem (by omega), List.getElem?_eq_getElem hjl] at h1
    rw [Option.some.inj h1]
    simpa using h _ (List.getElem_mem hjl)
  · have h1 := insAt_get xs i x hi
    rw [List.getElem?_eq_getElem hil] at h1
    rw [Option.some.inj h1]; simp
theorem find_none {fs : List File} {name : Int} (h : fs.find? (fun f => f.name == name) = none) : ∀ g ∈ fs, g.name ≠ name := fun g hg => by
  have := List.find?_eq_none.1 h g hg
  simpa using this
theorem c_impl_DiskSync (d : Disk) (name : Int) (hn : d.files.length ≤ 1000000000) (hz : SmallF d.files) (K : AV → AH → Prop)
    (hk : K (.tup [.agg [.c (.int .i64 ((syncR d name).1.room)), .sl 0 0 0 (syncR d name).1.files.length], (.one (.c (.int .i64 ((syncR d name).2))))]) [.own 0 125 3 none ((syncR d name).1.files.map fileC)]) : ACalls Tryz.prog 86 [.agg (diskC d), (.one (.c (.int .i64 (name))))] [] K := by
  refine acall_c Tryz.f86.results.toList mixed Tryz.func86 rfl rfl (by kernel_rfl) ?_
  intro Q hQ hQO
  simp only [go_sem]
  (try simp only [go_sem]); repeat' (first | (with_reducible first | refine c_split ?_ ?_ | refine w_split ?_ ?_) <;> intro hb <;> try simp only [go_sem, hb] | (first | refine call_c (c_impl_DiskOk d hn _ ?_) | refine call_c (c_isFile _ _ ?_) | fail) <;> try simp only [go_sem] | fail)
  · rw [syncR, if_neg (noN1 hb)] at hk
    refine hQO [2] _ _ (GC.step (Ghost.nlc (l := 1) rfl 0 1 rfl rfl 125 3) (GC.now ?_)) <;> simp only [Tryz.f86, go_sem, List.nodup_cons, List.nodup_nil, List.mem_cons, List.not_mem_nil, or_false, not_false_eq_true, List.idxOf?_cons, List.idxOf?_nil, Option.map_none]
    exact hk
  · rw [syncR, if_neg (noN2 hb)] at hk
    refine hQO [2] _ _ (GC.step (Ghost.nlc (l := 1) rfl 0 1 rfl rfl 125 3) (GC.now ?_)) <;> simp only [Tryz.f86, go_sem, List.nodup_cons, List.nodup_nil, List.mem_cons, List.not_mem_nil, or_false, not_false_eq_true, List.idxOf?_cons, List.idxOf?_nil, Option.map_none]
    exact hk
  rename_i hb1
  have ok := okN hb1 hb
  rw [syncR, if_pos ok] at hk
  (try simp only [go_sem]); repeat' (first | (with_reducible first | refine c_split ?_ ?_ | refine w_split ?_ ?_) <;> intro hb <;> try simp only [go_sem, hb] | refine call_c (c_cloneDisk d hn _ (fun cap => ?_)) <;> try simp only [go_sem] | fail)
  refine call_c (c_fileAt d name hn _ ?_)
  rcases findG_find (fun f => f.name == name) d.files with ⟨h1, h2⟩ | ⟨i, hi, h1, h3, h2⟩
  · rw [h2] at hk
    simp only at hk
    (try simp only [go_sem, h1, Int.reduceLT, Int.reduceNeg]); repeat' (first | (with_reducible first | refine c_split ?_ ?_ | refine w_split ?_ ?_) <;> intro hb <;> try simp only [go_sem, hb, h1, Int.reduceLT, Int.reduceNeg] | fail)
    refine hQO [2] _ _ (GC.step (Ghost.cut (l := 2) rfl d.files.length) (GC.now ?_)) <;> simp only [Tryz.f86, go_sem, List.nodup_cons, List.nodup_nil, List.mem_cons, List.not_mem_nil, or_false, not_false_eq_true, List.idxOf?_cons, List.idxOf?_nil, Option.map_none, fileC_tk]
    exact hk
  · rw [h2] at hk
    simp only at hk
    have hg : d.files[i]? = some d.files[i] := List.getElem?_eq_getElem hi
    have hsz : d.files[i].safe.size + d.files[i].late.size ≤ 9223372036854775807 := by have := file_small hz hi; omega
    have hlt : ((i : Int) < 0) = False := by simp
    have hil : (i : Int) < (d.files.length : Int) := Int.ofNat_lt.2 hi
    have hps := putF_set ⟨name, d.files[i].safe ++ d.files[i].late, ⟨#[]⟩⟩ d.files i hi (disk_sorted ok.1) (by simpa using h3)
    have hpl : (putF d.files ⟨name, d.files[i].safe ++ d.files[i].late, ⟨#[]⟩⟩).length = d.files.length := by rw [← hps, List.length_set]
    rw [hpl] at hk
    (try simp only [go_sem, h1, hg, hsz, hlt, hil, hi]); repeat' (first | (with_reducible first | refine c_split ?_ ?_ | refine w_split ?_ ?_) <;> intro hb <;> try simp only [go_sem, hb, h1, hg, hsz, hlt, hil, hi] | fail)
    have htk : List.take d.files.length (List.map fileC (d.files.set i ⟨name, d.files[i].safe ++ d.files[i].late, ⟨#[]⟩⟩)) = List.map fileC (putF d.files ⟨name, d.files[i].safe ++ d.files[i].late, ⟨#[]⟩⟩) := by rw [hps]; exact List.take_of_length_le (by simp; omega)
    refine hQO [2] _ _ (GC.step (Ghost.cut (l := 2) rfl d.files.length) (GC.now ?_)) <;> simp only [Tryz.f86, go_sem, List.nodup_cons, List.nodup_nil, List.mem_cons, List.not_mem_nil, or_false, not_false_eq_true, List.idxOf?_cons, List.idxOf?_nil, Option.map_none, htk]
    exact hk
end Go.Proofs.YtlefjpbhbiajfaaGreat
end
section
namespace Go.Proofs.YtlefjpbhbiajfaaGreat
open Go.BL Go.RowKit
set_option linter.unusedVariables false
set_option linter.unusedSimpArgs false
set_option maxRecDepth 100000
theorem d85_0_LAppend : DrawL Tryz.prog 0 20 (.on [(0, true, true), (2, true, false), (3, true, false), (5, true, false), (6, true, false), (1, false, false), (4, false, false), (7, false, false)] .nil) := draw_L
theorem d85_1_LAppend : DrawL Tryz.prog 0 36 (.on [(0, true, true), (1, true, true), (2, true, false), (3, true, false), (8, true, false), (4, false, false), (5, false, false), (6, false, false), (7, false, false), (9, false, false), (10, false, true), (11, false, true), (12, false, true)] .nil) := draw_L
attribute [local go_sem] fileC diskC fileC_len
theorem c_impl_DiskAppend (d : Disk) (name : Int) (s : ByteArray) (hn : d.files.length ≤ 1000000000) (hz : SmallF d.files) (hs : s.size ≤ 1000000000000) (K : AV → AH → Prop)
    (hk : K (.tup [.agg [.c (.int .i64 ((appR d name s).1.room)), .sl 0 0 0 (appR d name s).1.files.length], (.one (.c (.int .i64 ((appR d name s).2))))]) [.own 0 125 3 none ((appR d name s).1.files.map fileC)]) : ACalls Tryz.prog 85 [.agg (diskC d), (.one (.c (.int .i64 (name)))), (.one (.c (.string (s))))] [] K := by
  refine acall_c Tryz.f85.results.toList mixed Tryz.func85 rfl rfl (by kernel_rfl) ?_
  intro Q hQ hQO
  simp only [go_sem]
  (try simp only [go_sem]); repeat' (first | (with_reducible first | refine c_split ?_ ?_ | refine w_split ?_ ?_ | refine tw_split ?_ ?_) <;> intro hb <;> try simp only [go_sem, hb] | (first | with_reducible refine d85_0_LAppend (by with_unfolding_all rfl) (by kernel_rfl) ?_ | with_reducible refine d85_1_LAppend (by with_unfolding_all rfl) (by kernel_rfl) ?_ | refine call_c (c_impl_DiskOk d hn _ ?_) | refine call_c (c_isFile _ _ ?_) | fail) <;> try simp only [go_sem] | fail)
  · rw [appR, if_neg (noN1 hb)] at hk
    refine hQO [2] _ _ (GC.step (Ghost.nlc (l := 1) rfl 0 1 rfl rfl 125 3) (GC.now ?_)) <;> simp only [Tryz.f85, go_sem, List.nodup_cons, List.nodup_nil, List.mem_cons, List.not_mem_nil, or_false, not_false_eq_true, List.idxOf?_cons, List.idxOf?_nil, Option.map_none]
    exact hk
  · rw [appR, if_neg (noN2 hb)] at hk
    refine hQO [2] _ _ (GC.step (Ghost.nlc (l := 1) rfl 0 1 rfl rfl 125 3) (GC.now ?_)) <;> simp only [Tryz.f85, go_sem, List.nodup_cons, List.nodup_nil, List.mem_cons, List.not_mem_nil, or_false, not_false_eq_true, List.idxOf?_cons, List.idxOf?_nil, Option.map_none]
    exact hk
  rename_i hb1
  have ok := okN hb1 hb
  rw [appR, if_pos ok] at hk
  obtain ⟨w1, w2⟩ := full_w (s := s) hz hs ok.1
  (try simp only [go_sem, w2]); repeat' (first | (with_reducible first | refine c_split ?_ ?_ | refine w_split ?_ ?_ | refine tw_split ?_ ?_) <;> intro hb <;> try simp only [go_sem, hb, w2] | (first | with_reducible refine d85_0_LAppend (by with_unfolding_all rfl) (by kernel_rfl) ?_ | with_reducible refine d85_1_LAppend (by with_unfolding_all rfl) (by kernel_rfl) ?_ | refine call_c (c_cloneDisk d hn _ (fun cap => ?_)) | refine call_c (c_usedRoom d hn _ ?_) | fail) <;> try simp only [go_sem, w2] | fail)
  · rw [if_pos (of_decide_eq_true hb)] at hk
    refine hQO [2] _ _ (GC.step (Ghost.cut (l := 2) rfl d.files.length) (GC.now ?_)) <;> simp only [Tryz.f85, go_sem, List.nodup_cons, List.nodup_nil, List.mem_cons, List.not_mem_nil, or_false, not_false_eq_true, List.idxOf?_cons, List.idxOf?_nil, Option.map_none, fileC_tk]
    exact hk
  rw [if_neg (of_decide_eq_false hb)] at hk
  refine call_c (c_fileAt d name hn _ ?_)
  rcases findG_find (fun f => f.name == name) d.files with ⟨h1, h2⟩ | ⟨i, hi, h1, h3, h2⟩
  · rw [addF, h2] at hk
    simp only at hk
    have hno := find_none h2
    have hpo := putPos_le d.files ⟨name, ⟨#[]⟩, ⟨#[]⟩⟩
    have hpa := putF_absent ⟨name, ⟨#[]⟩, (⟨#[]⟩ : ByteArray) ++ s⟩ d.files (disk_sorted ok.1) hno
    have hpp : putPos d.files ⟨name, ⟨#[]⟩, (⟨#[]⟩ : ByteArray) ++ s⟩ = putPos d.files ⟨name, ⟨#[]⟩, ⟨#[]⟩⟩ := rfl
    have hfi := findG_ins d.files (putPos d.files ⟨name, ⟨#[]⟩, ⟨#[]⟩⟩) ⟨name, ⟨#[]⟩, ⟨#[]⟩⟩ hpo hno
    have hil := insAt_len d.files (putPos d.files ⟨name, ⟨#[]⟩, ⟨#[]⟩⟩) (⟨name, ⟨#[]⟩, ⟨#[]⟩⟩ : File) hpo
    have hig := insAt_get d.files (putPos d.files ⟨name, ⟨#[]⟩, ⟨#[]⟩⟩) (⟨name, ⟨#[]⟩, ⟨#[]⟩⟩ : File) hpo
    have his := insAt_set d.files (putPos d.files ⟨name, ⟨#[]⟩, ⟨#[]⟩⟩) (⟨name, ⟨#[]⟩, ⟨#[]⟩⟩ : File) ⟨name, ⟨#[]⟩, (⟨#[]⟩ : ByteArray) ++ s⟩ hpo
    rw [hpp] at hpa
    rw [hpa] at his
    have hpl : (putF d.files ⟨name, ⟨#[]⟩, (⟨#[]⟩ : ByteArray) ++ s⟩).length = d.files.length + 1 := by rw [← hpa]; exact insAt_len _ _ _ hpo
    rw [hpl] at hk
    simp only at hfi
    have hsz : (ByteArray.mk #[]).size + s.size ≤ 9223372036854775807 := by show 0 + s.size ≤ _; omega
    (try simp only [go_sem, h1, Int.reduceLT, Int.reduceNeg]); repeat' (first | (with_reducible first | refine c_split ?_ ?_ | refine w_split ?_ ?_ | refine tw_split ?_ ?_) <;> intro hb <;> try simp only [go_sem, hb, h1, Int.reduceLT, Int.reduceNeg] | (first | with_reducible refine d85_0_LAppend (by with_unfolding_all rfl) (by kernel_rfl) ?_ | with_reducible refine d85_1_LAppend (by with_unfolding_all rfl) (by kernel_rfl) ?_ | refine call_h (c_put d.room d.files ⟨name, ⟨#[]⟩, ⟨#[]⟩⟩ 3 2 0 cap _ rfl rfl hn _ (fun g' => ?_)) | fail) <;> try simp only [go_sem, h1, Int.reduceLT, Int.reduceNeg] | fail)
    generalize putPos d.files ⟨name, ⟨#[]⟩, ⟨#[]⟩⟩ = pos at *
    generalize hX : insAt d.files pos ⟨name, ⟨#[]⟩, ⟨#[]⟩⟩ = X at *
    have hXn : X.length ≤ 1000000001 := by omega
    have hpX : pos < X.length := by omega
    have hpn : (pos : Int) < ((d.files.length + 1 : Nat) : Int) := by omega
    have htX : List.take (d.files.length + 1) (List.map fileC X) = List.map fileC X := List.take_of_length_le (by simp; omega)
    have hXm : X.length ≤ 1000000000 := by have := disk_len ok.1; omega
    have hXl : X.length = d.files.length + 1 := hil
    (try simp only [go_sem, htX, hXl]); repeat' (first | (with_reducible first | refine c_split ?_ ?_ | refine w_split ?_ ?_ | refine tw_split ?_ ?_) <;> intro hb <;> try simp only [go_sem, hb, htX, hXl] | (first | with_reducible refine d85_0_LAppend (by with_unfolding_all rfl) (by kernel_rfl) ?_ | with_reducible refine d85_1_LAppend (by with_unfolding_all rfl) (by kernel_rfl) ?_ | refine call_c (c_fileAt ⟨d.room, X⟩ name hXm _ ?_) | fail) <;> try simp only [go_sem, htX, hXl] | fail)
    (try simp only [go_sem, hfi, hXl, hpX, hpn, hig]); repeat' (first | (with_reducible first | refine c_split ?_ ?_ | refine w_split ?_ ?_ | refine tw_split ?_ ?_) <;> intro hb <;> try simp only [go_sem, hb, hfi, hXl, hpX, hpn, hig] | (first | with_reducible refine d85_0_LAppend (by with_unfolding_all rfl) (by kernel_rfl) ?_ | with_reducible refine d85_1_LAppend (by with_unfolding_all rfl) (by kernel_rfl) ?_ | fail) <;> try simp only [go_sem, hfi, hXl, hpX, hpn, hig] | fail)
    rw [b_sadd (hs := hsz)]
    (try simp only [go_sem, hfi, hXl, hpX, hpn, hig]); repeat' (first | (with_reducible first | refine c_split ?_ ?_ | refine w_split ?_ ?_ | refine tw_split ?_ ?_) <;> intro hb <;> try simp only [go_sem, hb, hfi, hXl, hpX, hpn, hig] | (first | with_reducible refine d85_0_LAppend (by with_unfolding_all rfl) (by kernel_rfl) ?_ | with_reducible refine d85_1_LAppend (by with_unfolding_all rfl) (by kernel_rfl) ?_ | fail) <;> try simp only [go_sem, hfi, hXl, hpX, hpn, hig] | fail)
    refine hQO [2] _ _ (GC.now ?_) <;> simp only [Tryz.f85, go_sem, List.nodup_cons, List.nodup_nil, List.mem_cons, List.not_mem_nil, or_false, not_false_eq_true, List.idxOf?_cons, List.idxOf?_nil, Option.map_none, his]
    exact hk
  · rw [addF, h2] at hk
    simp only at hk
    have hg : d.files[i]? = some d.files[i] := List.getElem?_eq_getElem hi
    have hsz : d.files[i].late.size + s.size ≤ 9223372036854775807 := by have := file_small hz hi; omega
    have hlt : ((i : Int) < 0) = False := by simp
    have hil : (i : Int) < (d.files.length : Int) := Int.ofNat_lt.2 hi
    have hps := putF_set ⟨d.files[i].name, d.files[i].safe, d.files[i].late ++ s⟩ d.files i hi (disk_sorted ok.1) rfl
    have hpl : (putF d.files ⟨d.files[i].name, d.files[i].safe, d.files[i].late ++ s⟩).length = d.files.length := by rw [← hps, List.length_set]
    rw [hpl] at hk
    have htk : List.take d.files.length (List.map fileC (d.files.set i ⟨d.files[i].name, d.files[i].safe, d.files[i].late ++ s⟩)) = List.map fileC (putF d.files ⟨d.files[i].name, d.files[i].safe, d.files[i].late ++ s⟩) := by rw [hps]; exact List.take_of_length_le (by simp; omega)
    (try simp only [go_sem, h1, hg, hsz, hlt, hil, hi]); repeat' (first | (with_reducible first | refine c_split ?_ ?_ | refine w_split ?_ ?_ | refine tw_split ?_ ?_) <;> intro hb <;> try simp only [go_sem, hb, h1, hg, hsz, hlt, hil, hi] | (first | with_reducible refine d85_0_LAppend (by with_unfolding_all rfl) (by kernel_rfl) ?_ | with_reducible refine d85_1_LAppend (by with_unfolding_all rfl) (by kernel_rfl) ?_ | refine call_c (c_fileAt d name hn _ ?_) | fail) <;> try simp only [go_sem, h1, hg, hsz, hlt, hil, hi] | fail)
    refine hQO [2] _ _ (GC.step (Ghost.cut (l := 2) rfl d.files.length) (GC.now ?_)) <;> simp only [Tryz.f85, go_sem, List.nodup_cons, List.nodup_nil, List.mem_cons, List.not_mem_nil, or_false, not_false_eq_true, List.idxOf?_cons, List.idxOf?_nil, Option.map_none, htk]
    exact hk
end Go.Proofs.YtlefjpbhbiajfaaGreat
end
section
namespace Go.Proofs.YtlefjpbhbiajfaaGreat
open Go.BL Go.RowKit
set_option linter.unusedVariables false
set_option linter.unusedSimpArgs false
set_option maxRecDepth 100000
theorem d77_0_LDraw : DrawL Tryz.prog 0 3 (.on [(0, true, true), (1, true, true), (3, true, false), (4, true, false), (2, false, false), (5, false, false), (6, false, false), (7, false, true)] .nil) := draw_L
theorem d160_0_LDraw : DrawL Tryz.prog 0 18 (.on [(0, false, true), (1, false, true), (2, false, true), (3, true, true), (4, true, true), (5, true, false), (6, true, true), (7, true, false), (8, true, false), (9, false, false), (10, false, false), (11, false, false), (12, false, false)] .nil) := draw_L
theorem d160_1_LDraw : DrawL Tryz.prog 0 37 (.on [(0, true, true), (1, true, true), (2, true, false), (3, true, true), (4, true, false), (5, true, false), (6, false, false), (7, false, false), (8, false, false)] .nil) := draw_L
theorem d160_2_LDraw : DrawL Tryz.prog 0 46 (.on [(0, true, true), (1, true, true), (2, true, false), (3, true, false), (4, false, false), (5, false, false), (6, false, false), (7, false, false), (8, false, false), (9, false, true), (10, false, true)] .nil) := draw_L
attribute [local go_sem] fileC diskC fileC_len diskR
theorem o_l14Copy (d : Disk) (hn : d.files.length ≤ 1000000000) (K : AV → AH → Prop) (hk : K (.agg [.c (.int .i64 (d.room)), .sl 0 0 0 d.files.length]) [.own 0 125 3 none (d.files.map fileC)]) : ACalls Tryz.prog 77 [.agg (diskC d)] [] K := by
  refine acall_c Tryz.f77.results.toList mixed Tryz.func77 rfl rfl (by kernel_rfl) ?_
  intro Q hQ hQO
  simp only [go_sem]
  (try simp only [go_sem]); repeat' (first | (with_reducible first | refine c_split ?_ ?_ | refine w_split ?_ ?_ | refine tw_split ?_ ?_) <;> intro hb <;> try simp only [go_sem, hb] | with_reducible refine d77_0_LDraw (by with_unfolding_all rfl) (by kernel_rfl) ?_ <;> try simp only [go_sem] | fail)
  refine ap_end rfl rfl (by simp; omega) ?_
  (try simp only [go_sem]); repeat' (first | (with_reducible first | refine c_split ?_ ?_ | refine w_split ?_ ?_ | refine tw_split ?_ ?_) <;> intro hb <;> try simp only [go_sem, hb] | with_reducible refine d77_0_LDraw (by with_unfolding_all rfl) (by kernel_rfl) ?_ <;> try simp only [go_sem] | fail)
  refine hQO [2] _ _ (GC.now ?_) <;> simp only [Tryz.f77, go_sem, List.nodup_cons, List.nodup_nil, List.mem_cons, List.not_mem_nil, or_false, not_false_eq_true, List.idxOf?_cons, List.idxOf?_nil, Option.map_none, fileC_tk]
  exact hk
theorem o_l14Refused (d : Disk) (code : Int) (hn : d.files.length ≤ 1000000000) (K : AV → AH → Prop) (hk : K (.agg [.c (.int .i64 ((if code = 1 then (⟨0, []⟩ : Disk) else d).room)), .sl 0 0 0 (if code = 1 then (⟨0, []⟩ : Disk) else d).files.length]) [.own 0 125 3 none ((if code = 1 then (⟨0, []⟩ : Disk) else d).files.map fileC)]) : ACalls Tryz.prog 162 [.agg (diskC d), (.one (.c (.int .i64 (code))))] [] K := by
  refine acall_c Tryz.f162.results.toList mixed Tryz.func162 rfl rfl (by kernel_rfl) ?_
  intro Q hQ hQO
  simp only [go_sem]
  (try simp only [go_sem]); repeat' (first | (with_reducible first | refine c_split ?_ ?_ | refine w_split ?_ ?_) <;> intro hb <;> try simp only [go_sem, hb] | refine call_c (o_l14Copy d hn _ ?_) <;> try simp only [go_sem] | fail)
  · rw [if_pos (by simpa using hb)] at hk
    refine hQO [2] _ _ (GC.step (Ghost.nlc (l := 1) rfl 0 1 rfl rfl 125 3) (GC.now ?_)) <;> simp only [Tryz.f162, go_sem, List.nodup_cons, List.nodup_nil, List.mem_cons, List.not_mem_nil, or_false, not_false_eq_true, List.idxOf?_cons, List.idxOf?_nil, Option.map_none]
    exact hk
  · rw [if_neg (by simpa using hb)] at hk
    refine hQO [2] _ _ (GC.now ?_) <;> simp only [Tryz.f162, go_sem, List.nodup_cons, List.nodup_nil, List.mem_cons, List.not_mem_nil, or_false, not_false_eq_true, List.idxOf?_cons, List.idxOf?_nil, Option.map_none, fileC_tk]
    exact hk
theorem o_l14Put (d : Disk) (x : File) (hn : d.files.length ≤ 1000000000) (hs : SortedF d.files) (K : AV → AH → Prop) (hk : K (.agg [.c (.int .i64 ((⟨d.room, putF d.files x⟩ : Disk).room)), .sl 0 0 0 (⟨d.room, putF d.files x⟩ : Disk).files.length]) [.own 0 125 3 none ((⟨d.room, putF d.files x⟩ : Disk).files.map fileC)]) : ACalls Tryz.prog 160 [.agg (diskC d), .agg (fileC x)] [] K := by
  rw [← put_fold x d.files hs] at hk
  refine acall_c Tryz.f160.results.toList mixed Tryz.func160 rfl rfl (by kernel_rfl) ?_
  intro Q hQ hQO
  simp only [go_sem]
  refine for_at (d.files.length) [2, 3, 4, 5] (fun i f h => f 7 = (.one (.c (.int .i64 (i)))) ∧ f 6 = (.one (.c (.bool ((foldT (stepP x) ([], false) d.files i).2)))) ∧ h = [.own 0 24 2 (some 1) [diskC d], .own 0 125 3 (some 1) [fileC x], .own 0 24 2 (some 1) [[.c (.int .i64 (0)), .nl]], .own 0 24 2 (some 1) [[.c (.int .i64 (d.room)), .sl 4 (foldT (stepP x) ([], false) d.files i).1.length 0 (foldT (stepP x) ([], false) d.files i).1.length]], .own (foldT (stepP x) ([], false) d.files i).1.length 125 3 none ((foldT (stepP x) ([], false) d.files i).1.map fileC)]) (GC.step (Ghost.nlc (l := 3) rfl 0 1 rfl rfl 125 3) (GC.now ?_)) ?_
  · simp only [go_sem, nc_0, true_and]
    simp [foldT_0]
  · rintro i f h J hi hA ⟨e7, e6, rfl⟩ hJ
    simp only [go_sem] at hA
    simp only [go_sem, hA, e7, e6]
    refine c_split (fun hb => ?_) (fun hb => ?_)
    rotate_left
    · simp only [go_sem, hb, hA, e7, e6]
      obtain rfl := ge_len hb hi
      have hlen := foldP_len x d.files d.files.length
      generalize foldT (stepP x) ([], false) d.files d.files.length = s at *
      obtain ⟨out, put⟩ := s
      simp only at hlen
      cases put
      · (try simp only [go_sem, hA, e7, e6]); repeat' (first | (with_reducible first | refine c_split ?_ ?_ | refine w_split ?_ ?_ | refine tw_split ?_ ?_) <;> intro hb <;> try simp only [go_sem, hb, hA, e7, e6] | (first | with_reducible refine d160_0_LDraw (by with_unfolding_all rfl) (by kernel_rfl) ?_ | with_reducible refine d160_1_LDraw (by with_unfolding_all rfl) (by kernel_rfl) ?_ | with_reducible refine d160_2_LDraw (by with_unfolding_all rfl) (by kernel_rfl) ?_ | fail) <;> try simp only [go_sem, hA, e7, e6] | fail)
        refine ap_end rfl (by simp) (by simp; omega) ?_
        have htk : List.take (out.length + 1) (List.map fileC (out ++ [(⟨x.name, x.safe, x.late⟩ : File)])) = List.map fileC (out ++ [(⟨x.name, x.safe, x.late⟩ : File)]) := List.take_of_length_le (by simp)
        (try simp only [go_sem, hA, e7, e6, htk]); repeat' (first | (with_reducible first | refine c_split ?_ ?_ | refine w_split ?_ ?_ | refine tw_split ?_ ?_) <;> intro hb <;> try simp only [go_sem, hb, hA, e7, e6, htk] | (first | with_reducible refine d160_0_LDraw (by with_unfolding_all rfl) (by kernel_rfl) ?_ | with_reducible refine d160_1_LDraw (by with_unfolding_all rfl) (by kernel_rfl) ?_ | with_reducible refine d160_2_LDraw (by with_unfolding_all rfl) (by kernel_rfl) ?_ | fail) <;> try simp only [go_sem, hA, e7, e6, htk] | fail)
        refine hQO [4] _ _ (GC.now ?_) <;> simp only [Tryz.f160, go_sem, List.nodup_cons, List.nodup_nil, List.mem_cons, List.not_mem_nil, or_false, not_false_eq_true, List.idxOf?_cons, List.idxOf?_nil, Option.map_none, hA, e7, e6, htk]
        have hp : putL x (out, false) = out ++ [(⟨x.name, x.safe, x.late⟩ : File)] := rfl
        rw [hp] at hk
        simp only [List.length_append, List.length_singleton] at hk
        exact hk
      · (try simp only [go_sem, hA, e7, e6]); repeat' (first | (with_reducible first | refine c_split ?_ ?_ | refine w_split ?_ ?_ | refine tw_split ?_ ?_) <;> intro hb <;> try simp only [go_sem, hb, hA, e7, e6] | (first | with_reducible refine d160_0_LDraw (by with_unfolding_all rfl) (by kernel_rfl) ?_ | with_reducible refine d160_1_LDraw (by with_unfolding_all rfl) (by kernel_rfl) ?_ | with_reducible refine d160_2_LDraw (by with_unfolding_all rfl) (by kernel_rfl) ?_ | fail) <;> try simp only [go_sem, hA, e7, e6] | fail)
        refine hQO [4] _ _ (GC.now ?_) <;> simp only [Tryz.f160, go_sem, List.nodup_cons, List.nodup_nil, List.mem_cons, List.not_mem_nil, or_false, not_false_eq_true, List.idxOf?_cons, List.idxOf?_nil, Option.map_none, hA, e7, e6, fileC_tk]
        exact hk
    have hi := lt_len hb
    have hw := wrap_nat i (by omega)
    have hil : (i : Int) < ((d.files.length : Nat) : Int) := Int.ofNat_lt.2 hi
    have hg0 : (d.files)[i]? = some ((d.files)[i]) := List.getElem?_eq_getElem (by omega)
    simp only [go_sem, hb, hA, e7, e6, hg0]
    try simp only [go_sem, hA, e7, e6, hil, hg0]
    have hlen := foldP_len x d.files i
    have hst := foldT_s (stepP x) ([], false) d.files i hi
    generalize foldT (stepP x) ([], false) d.files i = s at *
    obtain ⟨out, put⟩ := s
    simp only at hlen hst
    cases put
    · (try simp only [go_sem, hA, e7, e6, hil, hg0]); repeat' (first | (with_reducible first | refine c_split ?_ ?_ | refine w_split ?_ ?_ | refine tw_split ?_ ?_) <;> intro hb <;> try simp only [go_sem, hb, hA, e7, e6, hil, hg0] | (first | with_reducible refine d160_0_LDraw (by with_unfolding_all rfl) (by kernel_rfl) ?_ | with_reducible refine d160_1_LDraw (by with_unfolding_all rfl) (by kernel_rfl) ?_ | with_reducible refine d160_2_LDraw (by with_unfolding_all rfl) (by kernel_rfl) ?_ | fail) <;> try simp only [go_sem, hA, e7, e6, hil, hg0] | fail)
      · have h1 : x.name ≤ d.files[i].name := of_decide_eq_true hb
        refine ap_end rfl (by simp) (by simp; omega) ?_
        (try simp only [go_sem, hA, e7, e6, hil, hg0]); repeat' (first | (with_reducible first | refine c_split ?_ ?_ | refine w_split ?_ ?_ | refine tw_split ?_ ?_) <;> intro hb <;> try simp only [go_sem, hb, hA, e7, e6, hil, hg0] | (first | with_reducible refine d160_0_LDraw (by with_unfolding_all rfl) (by kernel_rfl) ?_ | with_reducible refine d160_1_LDraw (by with_unfolding_all rfl) (by kernel_rfl) ?_ | with_reducible refine d160_2_LDraw (by with_unfolding_all rfl) (by kernel_rfl) ?_ | fail) <;> try simp only [go_sem, hA, e7, e6, hil, hg0] | fail)
        · have h2 : ¬ d.files[i].name = x.name := by simpa using hb
          have hst2 : foldT (stepP x) ([], false) d.files (i + 1) = ((out ++ [x]) ++ [d.files[i]], true) := by rw [hst]; simp [stepP, h1, h2]
          refine ap_end rfl (by simp) (by simp; omega) ?_
          (try simp only [go_sem, hA, e7, e6, hil, hg0]); repeat' (first | (with_reducible first | refine c_split ?_ ?_ | refine w_split ?_ ?_ | refine tw_split ?_ ?_) <;> intro hb <;> try simp only [go_sem, hb, hA, e7, e6, hil, hg0] | (first | with_reducible refine d160_0_LDraw (by with_unfolding_all rfl) (by kernel_rfl) ?_ | with_reducible refine d160_1_LDraw (by with_unfolding_all rfl) (by kernel_rfl) ?_ | with_reducible refine d160_2_LDraw (by with_unfolding_all rfl) (by kernel_rfl) ?_ | fail) <;> try simp only [go_sem, hA, e7, e6, hil, hg0] | fail)
          refine gc_trim 5 (by decide) (by simp only [go_sem]) (by simp only [go_sem]) (hJ _ _ hi (by simp only [go_sem, hA, e7, e6]) ⟨?_, ?_, ?_⟩) <;> try simp only [go_sem, hA, e7, e6, hw, hst2]
        · have h2 : d.files[i].name = x.name := by simpa using hb
          have hst2 : foldT (stepP x) ([], false) d.files (i + 1) = (out ++ [x], true) := by rw [hst]; simp [stepP, h1, h2]
          refine gc_trim 5 (by decide) (by simp only [go_sem]) (by simp only [go_sem]) (hJ _ _ hi (by simp only [go_sem, hA, e7, e6]) ⟨?_, ?_, ?_⟩) <;> try simp only [go_sem, hA, e7, e6, hw, hst2]
      · rename_i hb1
        have h1 : ¬ x.name ≤ d.files[i].name := of_decide_eq_false hb1
        have h2 : ¬ d.files[i].name = x.name := by omega
        have hst2 : foldT (stepP x) ([], false) d.files (i + 1) = (out ++ [d.files[i]], false) := by rw [hst]; simp [stepP, h1, h2]
        refine ap_end rfl (by simp) (by simp; omega) ?_
        (try simp only [go_sem, hA, e7, e6, hil, hg0]); repeat' (first | (with_reducible first | refine c_split ?_ ?_ | refine w_split ?_ ?_ | refine tw_split ?_ ?_) <;> intro hb <;> try simp only [go_sem, hb, hA, e7, e6, hil, hg0] | (first | with_reducible refine d160_0_LDraw (by with_unfolding_all rfl) (by kernel_rfl) ?_ | with_reducible refine d160_1_LDraw (by with_unfolding_all rfl) (by kernel_rfl) ?_ | with_reducible refine d160_2_LDraw (by with_unfolding_all rfl) (by kernel_rfl) ?_ | fail) <;> try simp only [go_sem, hA, e7, e6, hil, hg0] | fail)
        refine gc_trim 5 (by decide) (by simp only [go_sem]) (by simp only [go_sem]) (hJ _ _ hi (by simp only [go_sem, hA, e7, e6]) ⟨?_, ?_, ?_⟩) <;> try simp only [go_sem, hA, e7, e6, hw, hst2]
      · rename_i hb1
        have h1 : ¬ x.name ≤ d.files[i].name := of_decide_eq_false hb1
        have h2 : d.files[i].name = x.name := by simpa using hb
        omega
    · (try simp only [go_sem, hA, e7, e6, hil, hg0]); repeat' (first | (with_reducible first | refine c_split ?_ ?_ | refine w_split ?_ ?_ | refine tw_split ?_ ?_) <;> intro hb <;> try simp only [go_sem, hb, hA, e7, e6, hil, hg0] | (first | with_reducible refine d160_0_LDraw (by with_unfolding_all rfl) (by kernel_rfl) ?_ | with_reducible refine d160_1_LDraw (by with_unfolding_all rfl) (by kernel_rfl) ?_ | with_reducible refine d160_2_LDraw (by with_unfolding_all rfl) (by kernel_rfl) ?_ | fail) <;> try simp only [go_sem, hA, e7, e6, hil, hg0] | fail)
      · have h2 : ¬ d.files[i].name = x.name := by simpa using hb
        have hst2 : foldT (stepP x) ([], false) d.files (i + 1) = (out ++ [d.files[i]], true) := by rw [hst]; simp [stepP, h2]
        refine ap_end rfl (by simp) (by simp; omega) ?_
        (try simp only [go_sem, hA, e7, e6, hil, hg0]); repeat' (first | (with_reducible first | refine c_split ?_ ?_ | refine w_split ?_ ?_ | refine tw_split ?_ ?_) <;> intro hb <;> try simp only [go_sem, hb, hA, e7, e6, hil, hg0] | (first | with_reducible refine d160_0_LDraw (by with_unfolding_all rfl) (by kernel_rfl) ?_ | with_reducible refine d160_1_LDraw (by with_unfolding_all rfl) (by kernel_rfl) ?_ | with_reducible refine d160_2_LDraw (by with_unfolding_all rfl) (by kernel_rfl) ?_ | fail) <;> try simp only [go_sem, hA, e7, e6, hil, hg0] | fail)
        refine gc_trim 5 (by decide) (by simp only [go_sem]) (by simp only [go_sem]) (hJ _ _ hi (by simp only [go_sem, hA, e7, e6]) ⟨?_, ?_, ?_⟩) <;> try simp only [go_sem, hA, e7, e6, hw, hst2]
      · have h2 : d.files[i].name = x.name := by simpa using hb
        have hst2 : foldT (stepP x) ([], false) d.files (i + 1) = (out, true) := by rw [hst]; simp [stepP, h2]
        refine gc_trim 5 (by decide) (by simp only [go_sem]) (by simp only [go_sem]) (hJ _ _ hi (by simp only [go_sem, hA, e7, e6]) ⟨?_, ?_, ?_⟩) <;> try simp only [go_sem, hA, e7, e6, hw, hst2]
end Go.Proofs.YtlefjpbhbiajfaaGreat
end
