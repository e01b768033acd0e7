/- Walks of functions of the program and the laws they rest on (4 of 5). Conditions: none. -/
import Derived.Test.YtlefjpbhbiajfaaGreatM3
section
namespace Go.Proofs.YtlefjpbhbiajfaaGreat
open Go.BL Go.RowKit
set_option linter.unusedVariables false
set_option linter.unusedSimpArgs false
set_option maxRecDepth 100000
theorem d186_0_LBooks7 : DrawL Tryz.prog 0 73 [(0, true, true), (1, true, true), (2, true, false), (3, true, false), (4, true, false), (5, true, false), (6, true, false), (7, true, false), (8, true, false), (9, true, false), (10, false, false), (11, false, false), (12, false, false), (13, false, false), (14, false, false), (15, false, false), (16, true, false), (17, true, false), (18, false, true), (19, false, true)] := draw_L
theorem d186_1_LBooks7 : DrawL Tryz.prog 0 90 [(0, true, true), (2, true, true), (3, true, true), (4, true, false), (5, true, false), (6, true, false), (7, true, false), (8, true, false), (9, true, false), (10, true, false), (11, true, false), (12, true, false), (13, true, false), (14, true, false), (15, true, false), (1, false, false), (16, false, false), (17, false, false)] := draw_L
attribute [local go_sem] accountC balC lotC tradeC booksC
theorem c_lotsRight (b : Books) (hs : Small b) (hok : balsOk b.bals = true) (hf : Fine b.lots) (K : AV → AH → Prop) (hk : K (.one (.c (.bool (lotsR b)))) []) : ACalls Tryz.prog 195 [.agg (booksC b)] [] K := by
  have hsl := hs.hl
  have hsa := hs.ha
  have hsi := hs.hi
  refine acall_c Tryz.f195.results.toList mixed Tryz.func195 rfl rfl (by kernel_rfl) ?_
  intro Q hQ hQO
  simp only [go_sem]
  refine for_at (b.lots.length) [1, 12, 13] (fun i f h => f 14 = (.one (.c (.int .i64 (i)))) ∧ h = [.own 0 31 6 (some 1) [booksC b]] ∧ noneTo (fun x => !lrP b x) b.lots i) (GC.now ?_) ?_
  · simp only [go_sem, nc_0, true_and]
    exact noneTo_0 _ _
  · rintro i f h J hi hA ⟨e14, rfl, hP⟩ hJ
    simp only [go_sem] at hA
    simp only [go_sem, hA, e14]
    refine c_split (fun hb => ?_) (fun hb => ?_)
    rotate_left
    · simp only [go_sem, hb, hA, e14]
      obtain rfl := ge_len hb hi
      rw [lotsR, all_no hP, Bool.true_and] at hk
      (try simp only [go_sem, hA, e14]); repeat' (first | (with_reducible first | refine c_split ?_ ?_ | refine w_split ?_ ?_) <;> intro hb <;> try simp only [go_sem, hb, hA, e14] | fail)
      have hA0 := hA
      clear hJ
      refine for_at (b.accounts.length) [1, 41, 42] (fun i f h => f 43 = (.one (.c (.int .i64 (i)))) ∧ h = [.own 0 31 6 (some 1) [booksC b]] ∧ noneTo (fun a => !b.instrs.all (pairP b a)) b.accounts i) (GC.now ?_) ?_
      · simp only [go_sem, nc_0, true_and, hA0]
        exact noneTo_0 _ _
      · rintro i f h J hi hA ⟨e43, rfl, hP⟩ hJ
        simp only [go_sem, hA0] at hA
        simp only [go_sem, hA, e43, hA0]
        refine c_split (fun hb => ?_) (fun hb => ?_)
        rotate_left
        · simp only [go_sem, hb, hA, e43, hA0]
          obtain rfl := ge_len hb hi
          (try simp only [go_sem, hA, e43, hA0]); repeat' (first | (with_reducible first | refine c_split ?_ ?_ | refine w_split ?_ ?_) <;> intro hb <;> try simp only [go_sem, hb, hA, e43, hA0] | with_reducible refine hQ _ _ ?_ <;> simp only [Tryz.f195, go_sem, hA, e43, hA0])
          rw [all_no hP] at hk
          exact hk
        have hi := lt_len hb
        have hw := wrap_nat i (by omega)
        have hil : (i : Int) < ((b.accounts.length : Nat) : Int) := Int.ofNat_lt.2 hi
        have hg0 : (b.accounts)[i]? = some ((b.accounts)[i]) := List.getElem?_eq_getElem (by omega)
        simp only [go_sem, hb, hA, e43, hA0, hg0]
        try simp only [go_sem, hA, e43, hA0, hil, hg0]
        (try simp only [go_sem, hA, e43, hA0, hil, hg0]); repeat' (first | (with_reducible first | refine c_split ?_ ?_ | refine w_split ?_ ?_) <;> intro hb <;> try simp only [go_sem, hb, hA, e43, hA0, hil, hg0] | fail)
        have hA1 := hA
        have hP1 := hP
        have hi1 := hi
        have hw1 := hw
        have hJ1 := hJ
        generalize hac : b.accounts[i] = ac at *
        refine for_at (b.instrs.length) [1, 6, 41, 42, 43, 48, 49] (fun i f h => f 50 = (.one (.c (.int .i64 (i)))) ∧ h = [.own 0 31 6 (some 1) [booksC b], .own 0 129 2 (some 1) [accountC ac]] ∧ noneTo (fun x => !pairP b ac x) b.instrs i) (GC.now ?_) ?_
        · simp only [go_sem, nc_0, true_and, hA1, e43]
          exact noneTo_0 _ _
        · rintro i f h J hi hA ⟨e50, rfl, hP⟩ hJ
          simp only [go_sem, hA1, e43] at hA
          simp only [go_sem, hA, e50, hA1, e43]
          refine c_split (fun hb => ?_) (fun hb => ?_)
          rotate_left
          · simp only [go_sem, hb, hA, e50, hA1, e43]
            obtain rfl := ge_len hb hi
            refine gc_trim 1 (by decide) (by simp only [go_sem]) (by simp only [go_sem]) (hJ1 _ _ hi1 (by simp only [go_sem, hA, hA1, hA0, e43]) ⟨?_, ?_, ?_⟩) <;> try simp only [go_sem, hA, hA1, hA0, e43, hw1]
            exact noneTo_s hP1 hi1 (by rw [hac]; exact not_ff (all_no hP))
          have hi := lt_len hb
          have hw := wrap_nat i (by omega)
          have hil : (i : Int) < ((b.instrs.length : Nat) : Int) := Int.ofNat_lt.2 hi
          have hg0 : (b.instrs)[i]? = some ((b.instrs)[i]) := List.getElem?_eq_getElem (by omega)
          simp only [go_sem, hb, hA, e50, hA1, e43, hg0]
          try simp only [go_sem, hA, e50, hA1, e43, hil, hg0]
          cases k1 : (ac.kind == 1) with
          | false =>
            (try simp only [go_sem, hA, e50, hA1, e43, hil, hg0, k1]); repeat' (first | (with_reducible first | refine c_split ?_ ?_ | refine w_split ?_ ?_) <;> intro hb <;> try simp only [go_sem, hb, hA, e50, hA1, e43, hil, hg0, k1] | fail)
            refine gc_trim 2 (by decide) (by simp only [go_sem]) (by simp only [go_sem]) (hJ _ _ hi (by simp only [go_sem, hA, e50, hA1, e43]) ⟨?_, ?_, ?_⟩) <;> try simp only [go_sem, hA, e50, hA1, e43, hw]
            exact noneTo_s hP hi (by rw [pairP, k1]; rfl)
          | true =>
            cases k2 : (b.instrs[i].kind == 2) with
            | false =>
              (try simp only [go_sem, hA, e50, hA1, e43, hil, hg0, k1, k2]); repeat' (first | (with_reducible first | refine c_split ?_ ?_ | refine w_split ?_ ?_) <;> intro hb <;> try simp only [go_sem, hb, hA, e50, hA1, e43, hil, hg0, k1, k2] | fail)
              refine gc_trim 2 (by decide) (by simp only [go_sem]) (by simp only [go_sem]) (hJ _ _ hi (by simp only [go_sem, hA, e50, hA1, e43]) ⟨?_, ?_, ?_⟩) <;> try simp only [go_sem, hA, e50, hA1, e43, hw]
              exact noneTo_s hP hi (by rw [pairP, k1, k2]; rfl)
            | true =>
              cases k3 : (sumQ (ownL b.lots ac.no b.instrs[i].no) == balV b.bals ac.no b.instrs[i].no) with
              | true =>
                (try simp only [go_sem, hA, e50, hA1, e43, hil, hg0, k1, k2, k3]); repeat' (first | (with_reducible first | refine c_split ?_ ?_ | refine w_split ?_ ?_) <;> intro hb <;> try simp only [go_sem, hb, hA, e50, hA1, e43, hil, hg0, k1, k2, k3] | (first | refine call_c (c_lotsOf b.lots _ _ hsl _ ?_) | refine call_c (c_sumLots _ (hf.own _ _) _ ?_) | refine call_c (c_balOf b.bals _ _ hs.hb hok _ ?_) | fail) <;> try simp only [go_sem, hA, e50, hA1, e43, hil, hg0, k1, k2, k3] | fail)
                refine gc_trim 2 (by decide) (by simp only [go_sem]) (by simp only [go_sem]) (hJ _ _ hi (by simp only [go_sem, hA, e50, hA1, e43]) ⟨?_, ?_, ?_⟩) <;> try simp only [go_sem, hA, e50, hA1, e43, hw]
                exact noneTo_s hP hi (by rw [pairP, k1, k2, k3]; rfl)
              | false =>
                rw [all_bad hi1 (by rw [hac]; exact all_bad hi (by rw [pairP, k1, k2, k3]; rfl))] at hk
                (try simp only [go_sem, hA, e50, hA1, e43, hil, hg0, k1, k2, k3]); repeat' (first | (with_reducible first | refine c_split ?_ ?_ | refine w_split ?_ ?_) <;> intro hb <;> try simp only [go_sem, hb, hA, e50, hA1, e43, hil, hg0, k1, k2, k3] | (first | refine call_c (c_lotsOf b.lots _ _ hsl _ ?_) | refine call_c (c_sumLots _ (hf.own _ _) _ ?_) | refine call_c (c_balOf b.bals _ _ hs.hb hok _ ?_) | fail) <;> try simp only [go_sem, hA, e50, hA1, e43, hil, hg0, k1, k2, k3] | with_reducible refine hQ _ _ ?_ <;> simp only [Tryz.f195, go_sem, hA, e50, hA1, e43, hil, hg0, k1, k2, k3])
                exact hk
    have hi := lt_len hb
    have hw := wrap_nat i (by omega)
    have hil : (i : Int) < ((b.lots.length : Nat) : Int) := Int.ofNat_lt.2 hi
    have hg0 : (b.lots)[i]? = some ((b.lots)[i]) := List.getElem?_eq_getElem (by omega)
    simp only [go_sem, hb, hA, e14, hg0]
    try simp only [go_sem, hA, e14, hil, hg0]
    cases hr : lrP b b.lots[i] with
    | true =>
      have hlr := hr
      simp only [lrP, Bool.and_eq_true] at hr
      obtain ⟨⟨f1, f2⟩, f3⟩ := hr
      have f3 := not_tt f3
      (try simp only [go_sem, hA, e14, hil, hg0, f1, f2, f3]); repeat' (first | (with_reducible first | refine c_split ?_ ?_ | refine w_split ?_ ?_) <;> intro hb <;> try simp only [go_sem, hb, hA, e14, hil, hg0, f1, f2, f3] | (first | refine call_c (c_accountKind _ _ hs.ha _ ?_) | refine call_c (c_instrKind _ _ hs.hi _ ?_) | fail) <;> try simp only [go_sem, hA, e14, hil, hg0, f1, f2, f3] | fail)
      refine gc_trim 1 (by decide) (by simp only [go_sem]) (by simp only [go_sem]) (hJ _ _ hi (by simp only [go_sem, hA, e14]) ⟨?_, ?_, ?_⟩) <;> try simp only [go_sem, hA, e14, hw]
      exact noneTo_s hP hi (not_ff hlr)
    | false =>
      rw [lotsR, all_bad hi hr, Bool.false_and] at hk
      (try simp only [go_sem, hA, e14, hil, hg0]); repeat' (first | (with_reducible first | refine c_split ?_ ?_ | refine w_split ?_ ?_) <;> intro hb <;> try simp only [go_sem, hb, hA, e14, hil, hg0] | (first | refine call_c (c_accountKind _ _ hs.ha _ ?_) | refine call_c (c_instrKind _ _ hs.hi _ ?_) | fail) <;> try simp only [go_sem, hA, e14, hil, hg0] | with_reducible refine hQ _ _ ?_ <;> simp only [Tryz.f195, go_sem, hA, e14, hil, hg0])
      all_goals first | exact hk | exact (Bool.eq_false_iff.1 hr (by clear hr hJ hA hQ hQO; simp only [lrP]; simp_all <;> omega)).elim
def restL (xs : List Lot) (a n : Int) : List Lot := xs.filter fun x => !lotIs a n x
theorem rest_s (xs : List Lot) (i : Nat) (hi : i < xs.length) (a n : Int) : restL (xs.take (i + 1)) a n = restL (xs.take i) a n ++ (if lotIs a n xs[i] = true then [] else [xs[i]]) := by
  rw [restL, restL, List.take_succ_eq_append_getElem hi, List.filter_append]
  cases h : lotIs a n xs[i] <;> simp [h]
theorem c_l5Split (xs : List Lot) (a n : Int) (hn : xs.length ≤ 1000000000) (K : AV → AH → Prop) (hk : K (.tup [(.one (.im ((ownL xs a n).map lotC))), (.one (.im ((restL xs a n).map lotC)))]) []) : ACalls Tryz.prog 242 [(.one (.im (xs.map lotC))), (.one (.c (.int .i64 (a)))), (.one (.c (.int .i64 (n))))] [] K := by
  refine acall_c Tryz.f242.results.toList mixed Tryz.func242 rfl rfl (by kernel_rfl) ?_
  intro Q hQ hQO
  simp only [go_sem]
  (try simp only [go_sem]); repeat' (first | (with_reducible first | refine c_split ?_ ?_ | refine w_split ?_ ?_) <;> intro hb <;> try simp only [go_sem, hb] | fail)
  refine while_at (α := Nat × Nat × Option Nat × Nat × Option Nat) (fun ⟨j, g1, c1, g2, c2⟩ => xs.length - j) [0, 1, 2] (fun ⟨j, g1, c1, g2, c2⟩ f h => f 8 = .one (.sl 0 g1 0 (ownL (xs.take j) a n).length) ∧ f 9 = .one (.sl 1 g2 0 (restL (xs.take j) a n).length) ∧ f 10 = (.one (.c (.int .i64 ((j : Int))))) ∧ h = [.own g1 137 5 c1 ((ownL (xs.take j) a n).map lotC), .own g2 137 5 c2 ((restL (xs.take j) a n).map lotC)] ∧ j ≤ xs.length) (0, 0, some 0, 0, some 0) (GC.now ?_) ?_
  · simp only [go_sem, nc_0, true_and]
    exact ⟨rfl, rfl, rfl, Nat.zero_le _⟩
  · rintro ⟨j, g1, c1, g2, c2⟩ f h J hA ⟨e8, e9, e10, rfl, hP⟩ hJ
    simp only [go_sem] at hA
    try dsimp only at hJ
    simp only [go_sem, hA, e8, e9, e10]
    by_cases hi : j < xs.length
    · have hd : decide ((j : Int) < (xs.length : Int)) = true := decide_eq_true (Int.ofNat_lt.2 hi)
      have hil : (j : Int) < (xs.length : Int) := Int.ofNat_lt.2 hi
      have hg : xs[j]? = some xs[j] := List.getElem?_eq_getElem hi
      have hw := wrap_nat j (by omega)
      have hdec : xs.length - (j + 1) < xs.length - j := by omega
      have ho := own_s xs j hi a n
      have hr := rest_s xs j hi a n
      have hol : (ownL (xs.take j) a n).length ≤ j := Nat.le_trans (List.length_filter_le _ _) (by rw [List.length_take]; omega)
      have hrl : (restL (xs.take j) a n).length ≤ j := Nat.le_trans (List.length_filter_le _ _) (by rw [List.length_take]; omega)
      cases k1 : (xs[j].account == a) with
      | true =>
        cases k2 : (xs[j].instr == n) with
        | true =>
          have k : lotIs a n xs[j] = true := by rw [lotIs, k1, k2]; rfl
          rw [if_pos k] at ho
          rw [if_pos k, List.append_nil] at hr
          (try simp only [go_sem, hA, e8, e9, e10, hd, hil, hg, k1, k2]); repeat' (first | (with_reducible first | refine c_split ?_ ?_ | refine w_split ?_ ?_) <;> intro hb <;> try simp only [go_sem, hb, hA, e8, e9, e10, hd, hil, hg, k1, k2] | fail)
          refine ap_end rfl (by simp) (by simp; omega) ?_
          (try simp only [go_sem, hA, e8, e9, e10]); repeat' (first | (with_reducible first | refine c_split ?_ ?_ | refine w_split ?_ ?_) <;> intro hb <;> try simp only [go_sem, hb, hA, e8, e9, e10] | fail)
          refine gc_trim 2 (by decide) (by simp only [go_sem]) (by simp only [go_sem, hw, ho, hr]) (hJ (j + 1, g1 + 1, none, g2, c2) _ _ (by exact hdec) (by simp only [go_sem, hA, e8, e9, e10]) ⟨?_, ?_, ?_, ?_, ?_⟩) <;> try simp only [go_sem, hA, e8, e9, e10, hw, ho, hr]
          exact hi
        | false =>
          have k : ¬ lotIs a n xs[j] = true := by rw [lotIs, k1, k2]; decide
          rw [if_neg k, List.append_nil] at ho
          rw [if_neg k] at hr
          (try simp only [go_sem, hA, e8, e9, e10, hd, hil, hg, k1, k2]); repeat' (first | (with_reducible first | refine c_split ?_ ?_ | refine w_split ?_ ?_) <;> intro hb <;> try simp only [go_sem, hb, hA, e8, e9, e10, hd, hil, hg, k1, k2] | fail)
          refine ap_end rfl (by simp) (by simp; omega) ?_
          (try simp only [go_sem, hA, e8, e9, e10]); repeat' (first | (with_reducible first | refine c_split ?_ ?_ | refine w_split ?_ ?_) <;> intro hb <;> try simp only [go_sem, hb, hA, e8, e9, e10] | fail)
          refine gc_trim 2 (by decide) (by simp only [go_sem]) (by simp only [go_sem, hw, ho, hr]) (hJ (j + 1, g1, c1, g2 + 1, none) _ _ (by exact hdec) (by simp only [go_sem, hA, e8, e9, e10]) ⟨?_, ?_, ?_, ?_, ?_⟩) <;> try simp only [go_sem, hA, e8, e9, e10, hw, ho, hr]
          exact hi
      | false =>
        have k : ¬ lotIs a n xs[j] = true := by rw [lotIs, k1]; simp
        rw [if_neg k, List.append_nil] at ho
        rw [if_neg k] at hr
        (try simp only [go_sem, hA, e8, e9, e10, hd, hil, hg, k1]); repeat' (first | (with_reducible first | refine c_split ?_ ?_ | refine w_split ?_ ?_) <;> intro hb <;> try simp only [go_sem, hb, hA, e8, e9, e10, hd, hil, hg, k1] | fail)
        refine ap_end rfl (by simp) (by simp; omega) ?_
        (try simp only [go_sem, hA, e8, e9, e10]); repeat' (first | (with_reducible first | refine c_split ?_ ?_ | refine w_split ?_ ?_) <;> intro hb <;> try simp only [go_sem, hb, hA, e8, e9, e10] | fail)
        refine gc_trim 2 (by decide) (by simp only [go_sem]) (by simp only [go_sem, hw, ho, hr]) (hJ (j + 1, g1, c1, g2 + 1, none) _ _ (by exact hdec) (by simp only [go_sem, hA, e8, e9, e10]) ⟨?_, ?_, ?_, ?_, ?_⟩) <;> try simp only [go_sem, hA, e8, e9, e10, hw, ho, hr]
        exact hi
    · have hd : decide ((j : Int) < (xs.length : Int)) = false := decide_eq_false (fun q => hi (Int.ofNat_lt.1 q))
      have hj : j = xs.length := by omega
      subst hj
      have h1 : List.take (ownL xs a n).length ((ownL xs a n).map lotC) = (ownL xs a n).map lotC := List.take_of_length_le (by simp)
      have h2 : List.take (restL xs a n).length ((restL xs a n).map lotC) = (restL xs a n).map lotC := List.take_of_length_le (by simp)
      (try simp only [go_sem, hA, e8, e9, e10, hd, List.take_length, h1, h2]); repeat' (first | (with_reducible first | refine c_split ?_ ?_ | refine w_split ?_ ?_) <;> intro hb <;> try simp only [go_sem, hb, hA, e8, e9, e10, hd, List.take_length, h1, h2] | with_reducible refine hQ _ _ ?_ <;> simp only [Tryz.f242, go_sem, hA, e8, e9, e10, hd, List.take_length, h1, h2])
      exact hk
theorem c_l5Qty (xs : List Lot) (h : Fine xs) (K : AV → AH → Prop) (hk : K (.one (.c (.int .i64 (sumQ xs)))) []) : ACalls Tryz.prog 243 [(.one (.im (xs.map lotC)))] [] K := by
  have hn : xs.length ≤ 1000000000 := by have := h.2; omega
  refine acall_c Tryz.f243.results.toList mixed Tryz.func243 rfl rfl (by kernel_rfl) ?_
  intro Q hQ hQO
  simp only [go_sem]
  refine for_at (xs.length) [0] (fun i f h => f 3 = (.one (.c (.int .i64 (sumQ (xs.take i))))) ∧ f 4 = (.one (.c (.int .i64 (i)))) ∧ h = []) (GC.now ?_) ?_
  · simp only [go_sem, nc_0, true_and]
    rfl
  · rintro i f h J hi hA ⟨e3, e4, rfl⟩ hJ
    simp only [go_sem] at hA
    simp only [go_sem, hA, e3, e4]
    refine c_split (fun hb => ?_) (fun hb => ?_)
    rotate_left
    · simp only [go_sem, hb, hA, e3, e4]
      obtain rfl := ge_len hb hi
      (try simp only [go_sem, hA, e3, e4, List.take_length]); repeat' (first | (with_reducible first | refine c_split ?_ ?_ | refine w_split ?_ ?_) <;> intro hb <;> try simp only [go_sem, hb, hA, e3, e4, List.take_length] | with_reducible refine hQ _ _ ?_ <;> simp only [Tryz.f243, go_sem, hA, e3, e4, List.take_length])
      exact hk
    have hi := lt_len hb
    have hw := wrap_nat i (by omega)
    have hil : (i : Int) < ((xs.length : Nat) : Int) := Int.ofNat_lt.2 hi
    have hg0 : (xs)[i]? = some ((xs)[i]) := List.getElem?_eq_getElem (by omega)
    simp only [go_sem, hb, hA, e3, e4, hg0]
    try simp only [go_sem, hA, e3, e4, hil, hg0]
    obtain ⟨s1, s2⟩ := sumQ_s xs i hi
    obtain ⟨w1, w2⟩ := sums_w h hi
    (try simp only [go_sem, hA, e3, e4, hil, hg0, w1, w2]); repeat' (first | (with_reducible first | refine c_split ?_ ?_ | refine w_split ?_ ?_) <;> intro hb <;> try simp only [go_sem, hb, hA, e3, e4, hil, hg0, w1, w2] | fail)
    refine gc_trim 0 (by decide) (by simp only [go_sem]) (by simp only [go_sem]) (hJ _ _ hi (by simp only [go_sem, hA, e3, e4]) ⟨?_, ?_, ?_⟩) <;> try simp only [go_sem, hA, e3, e4, hw, s1]
theorem c_l6Lots (b : Books) (hs : Small b) (ha : accountsOk b.accounts = true) (hi0 : instrsOk b.instrs = true) (hf : Fine b.lots) (K : AV → AH → Prop) (hk : K (.one (.c (.bool (lotsR b)))) []) : ACalls Tryz.prog 186 [.agg (booksC b)] [] K := by
  have hsl := hs.hl
  have hsa := hs.ha
  have hsi := hs.hi
  refine acall_c Tryz.f186.results.toList mixed Tryz.func186 rfl rfl (by kernel_rfl) ?_
  intro Q hQ hQO
  simp only [go_sem]
  refine for_at (b.lots.length) [1] (fun i f h => f 3 = (.one (.c (.int .i64 (i)))) ∧ h = [.own 0 31 6 (some 1) [booksC b]] ∧ noneTo (fun x => !lrP b x) b.lots i) (GC.now ?_) ?_
  · simp only [go_sem, nc_0, true_and]
    exact noneTo_0 _ _
  · rintro i f h J hi hA ⟨e3, rfl, hP⟩ hJ
    simp only [go_sem] at hA
    simp only [go_sem, hA, e3]
    refine c_split (fun hb => ?_) (fun hb => ?_)
    rotate_left
    · simp only [go_sem, hb, hA, e3]
      obtain rfl := ge_len hb hi
      rw [lotsR, all_no hP, Bool.true_and] at hk
      (try simp only [go_sem, hA, e3]); repeat' (first | (with_reducible first | refine c_split ?_ ?_ | refine w_split ?_ ?_ | refine tw_split ?_ ?_) <;> intro hb <;> try simp only [go_sem, hb, hA, e3] | (first | with_reducible refine d186_0_LBooks7 (by with_unfolding_all rfl) (by kernel_rfl) ?_ | with_reducible refine d186_1_LBooks7 (by with_unfolding_all rfl) (by kernel_rfl) ?_ | fail) <;> try simp only [go_sem, hA, e3] | fail)
      have hA0 := hA
      clear hJ
      refine for_at (b.accounts.length) [1] (fun i f h => f 5 = (.one (.c (.int .i64 (i)))) ∧ h = [.own 0 31 6 (some 1) [booksC b]] ∧ noneTo (fun a => !b.instrs.all (pairP b a)) b.accounts i) (GC.now ?_) ?_
      · simp only [go_sem, nc_0, true_and, hA0]
        exact noneTo_0 _ _
      · rintro i f h J hi hA ⟨e5, rfl, hP⟩ hJ
        simp only [go_sem, hA0] at hA
        simp only [go_sem, hA, e5, hA0]
        refine c_split (fun hb => ?_) (fun hb => ?_)
        rotate_left
        · simp only [go_sem, hb, hA, e5, hA0]
          obtain rfl := ge_len hb hi
          (try simp only [go_sem, hA, e5, hA0]); repeat' (first | (with_reducible first | refine c_split ?_ ?_ | refine w_split ?_ ?_ | refine tw_split ?_ ?_) <;> intro hb <;> try simp only [go_sem, hb, hA, e5, hA0] | (first | with_reducible refine d186_0_LBooks7 (by with_unfolding_all rfl) (by kernel_rfl) ?_ | with_reducible refine d186_1_LBooks7 (by with_unfolding_all rfl) (by kernel_rfl) ?_ | fail) <;> try simp only [go_sem, hA, e5, hA0] | with_reducible refine hQ _ _ ?_ <;> simp only [Tryz.f186, go_sem, hA, e5, hA0])
          rw [all_no hP] at hk
          exact hk
        have hi := lt_len hb
        have hw := wrap_nat i (by omega)
        have hil : (i : Int) < ((b.accounts.length : Nat) : Int) := Int.ofNat_lt.2 hi
        have hg0 : (b.accounts)[i]? = some ((b.accounts)[i]) := List.getElem?_eq_getElem (by omega)
        simp only [go_sem, hb, hA, e5, hA0, hg0]
        try simp only [go_sem, hA, e5, hA0, hil, hg0]
        (try simp only [go_sem, hA, e5, hA0, hil, hg0]); repeat' (first | (with_reducible first | refine c_split ?_ ?_ | refine w_split ?_ ?_ | refine tw_split ?_ ?_) <;> intro hb <;> try simp only [go_sem, hb, hA, e5, hA0, hil, hg0] | (first | with_reducible refine d186_0_LBooks7 (by with_unfolding_all rfl) (by kernel_rfl) ?_ | with_reducible refine d186_1_LBooks7 (by with_unfolding_all rfl) (by kernel_rfl) ?_ | fail) <;> try simp only [go_sem, hA, e5, hA0, hil, hg0] | fail)
        have hA1 := hA
        have hP1 := hP
        have hi1 := hi
        have hil1 := hil
        have hg1 := hg0
        have hw1 := hw
        have hJ1 := hJ
        have e5a := e5
        generalize hac : b.accounts[i] = ac at *
        refine for_at (b.instrs.length) [1, 5] (fun i f h => f 6 = (.one (.c (.int .i64 (i)))) ∧ h = [.own 0 31 6 (some 1) [booksC b]] ∧ noneTo (fun x => !pairP b ac x) b.instrs i) (GC.now ?_) ?_
        · simp only [go_sem, nc_0, true_and, hA1, e5a]
          exact noneTo_0 _ _
        · rintro i f h J hi hA ⟨e6, rfl, hP⟩ hJ
          simp only [go_sem, hA1, e5a] at hA
          simp only [go_sem, hA, e6, hA1, e5a]
          refine c_split (fun hb => ?_) (fun hb => ?_)
          rotate_left
          · simp only [go_sem, hb, hA, e6, hA1, e5a]
            obtain rfl := ge_len hb hi
            refine GC.now (hJ1 _ _ hi1 (by simp only [go_sem, hA, hA1, hA0, e5a]) ⟨?_, ?_, ?_⟩) <;> try simp only [go_sem, hA, hA1, hA0, e5a, hw1]
            exact noneTo_s hP1 hi1 (by rw [hac]; exact not_ff (all_no hP))
          have hi := lt_len hb
          have hw := wrap_nat i (by omega)
          have hil : (i : Int) < ((b.instrs.length : Nat) : Int) := Int.ofNat_lt.2 hi
          have hg0 : (b.instrs)[i]? = some ((b.instrs)[i]) := List.getElem?_eq_getElem (by omega)
          simp only [go_sem, hb, hA, e6, hA1, e5a, hg0]
          try simp only [go_sem, hA, e6, hA1, e5a, hil, hg0]
          cases k1 : (ac.kind == 1) with
          | false =>
            (try simp only [go_sem, hA, e6, hA1, e5a, hil, hg0, hil1, hg1, k1]); repeat' (first | (with_reducible first | refine c_split ?_ ?_ | refine w_split ?_ ?_ | refine tw_split ?_ ?_) <;> intro hb <;> try simp only [go_sem, hb, hA, e6, hA1, e5a, hil, hg0, hil1, hg1, k1] | (first | with_reducible refine d186_0_LBooks7 (by with_unfolding_all rfl) (by kernel_rfl) ?_ | with_reducible refine d186_1_LBooks7 (by with_unfolding_all rfl) (by kernel_rfl) ?_ | fail) <;> try simp only [go_sem, hA, e6, hA1, e5a, hil, hg0, hil1, hg1, k1] | fail)
            refine gc_trim 1 (by decide) (by simp only [go_sem]) (by simp only [go_sem]) (hJ _ _ hi (by simp only [go_sem, hA, e6, hA1, e5a]) ⟨?_, ?_, ?_⟩) <;> try simp only [go_sem, hA, e6, hA1, e5a, hw]
            exact noneTo_s hP hi (by rw [pairP, k1]; rfl)
          | true =>
            cases k2 : (b.instrs[i].kind == 2) with
            | false =>
              (try simp only [go_sem, hA, e6, hA1, e5a, hil, hg0, hil1, hg1, k1, k2]); repeat' (first | (with_reducible first | refine c_split ?_ ?_ | refine w_split ?_ ?_ | refine tw_split ?_ ?_) <;> intro hb <;> try simp only [go_sem, hb, hA, e6, hA1, e5a, hil, hg0, hil1, hg1, k1, k2] | (first | with_reducible refine d186_0_LBooks7 (by with_unfolding_all rfl) (by kernel_rfl) ?_ | with_reducible refine d186_1_LBooks7 (by with_unfolding_all rfl) (by kernel_rfl) ?_ | fail) <;> try simp only [go_sem, hA, e6, hA1, e5a, hil, hg0, hil1, hg1, k1, k2] | fail)
              refine gc_trim 1 (by decide) (by simp only [go_sem]) (by simp only [go_sem]) (hJ _ _ hi (by simp only [go_sem, hA, e6, hA1, e5a]) ⟨?_, ?_, ?_⟩) <;> try simp only [go_sem, hA, e6, hA1, e5a, hw]
              exact noneTo_s hP hi (by rw [pairP, k1, k2]; rfl)
            | true =>
              cases k3 : (sumQ (ownL b.lots ac.no b.instrs[i].no) == balV b.bals ac.no b.instrs[i].no) with
              | true =>
                (try simp only [go_sem, hA, e6, hA1, e5a, hil, hg0, hil1, hg1, k1, k2, k3]); repeat' (first | (with_reducible first | refine c_split ?_ ?_ | refine w_split ?_ ?_ | refine tw_split ?_ ?_) <;> intro hb <;> try simp only [go_sem, hb, hA, e6, hA1, e5a, hil, hg0, hil1, hg1, k1, k2, k3] | (first | with_reducible refine d186_0_LBooks7 (by with_unfolding_all rfl) (by kernel_rfl) ?_ | with_reducible refine d186_1_LBooks7 (by with_unfolding_all rfl) (by kernel_rfl) ?_ | refine call_c (c_l5Split b.lots _ _ hsl _ ?_) | refine call_c (c_l5Qty _ (hf.own _ _) _ ?_) | refine call_c (c_l4Of b.bals _ _ hs.hb _ ?_) | fail) <;> try simp only [go_sem, hA, e6, hA1, e5a, hil, hg0, hil1, hg1, k1, k2, k3] | fail)
                refine gc_trim 1 (by decide) (by simp only [go_sem]) (by simp only [go_sem]) (hJ _ _ hi (by simp only [go_sem, hA, e6, hA1, e5a]) ⟨?_, ?_, ?_⟩) <;> try simp only [go_sem, hA, e6, hA1, e5a, hw]
                exact noneTo_s hP hi (by rw [pairP, k1, k2, k3]; rfl)
              | false =>
                rw [all_bad hi1 (by rw [hac]; exact all_bad hi (by rw [pairP, k1, k2, k3]; rfl))] at hk
                (try simp only [go_sem, hA, e6, hA1, e5a, hil, hg0, hil1, hg1, k1, k2, k3]); repeat' (first | (with_reducible first | refine c_split ?_ ?_ | refine w_split ?_ ?_ | refine tw_split ?_ ?_) <;> intro hb <;> try simp only [go_sem, hb, hA, e6, hA1, e5a, hil, hg0, hil1, hg1, k1, k2, k3] | (first | with_reducible refine d186_0_LBooks7 (by with_unfolding_all rfl) (by kernel_rfl) ?_ | with_reducible refine d186_1_LBooks7 (by with_unfolding_all rfl) (by kernel_rfl) ?_ | refine call_c (c_l5Split b.lots _ _ hsl _ ?_) | refine call_c (c_l5Qty _ (hf.own _ _) _ ?_) | refine call_c (c_l4Of b.bals _ _ hs.hb _ ?_) | fail) <;> try simp only [go_sem, hA, e6, hA1, e5a, hil, hg0, hil1, hg1, k1, k2, k3] | with_reducible refine hQ _ _ ?_ <;> simp only [Tryz.f186, go_sem, hA, e6, hA1, e5a, hil, hg0, hil1, hg1, k1, k2, k3])
                exact hk
    have hi := lt_len hb
    have hw := wrap_nat i (by omega)
    have hil : (i : Int) < ((b.lots.length : Nat) : Int) := Int.ofNat_lt.2 hi
    have hg0 : (b.lots)[i]? = some ((b.lots)[i]) := List.getElem?_eq_getElem (by omega)
    simp only [go_sem, hb, hA, e3, hg0]
    try simp only [go_sem, hA, e3, hil, hg0]
    cases hr : lrP b b.lots[i] with
    | true =>
      have hlr := hr
      simp only [lrP, Bool.and_eq_true] at hr
      obtain ⟨⟨f1, f2⟩, f3⟩ := hr
      have f3 := not_tt f3
      (try simp only [go_sem, hA, e3, hil, hg0, f1, f2, f3]); repeat' (first | (with_reducible first | refine c_split ?_ ?_ | refine w_split ?_ ?_ | refine tw_split ?_ ?_) <;> intro hb <;> try simp only [go_sem, hb, hA, e3, hil, hg0, f1, f2, f3] | (first | with_reducible refine d186_0_LBooks7 (by with_unfolding_all rfl) (by kernel_rfl) ?_ | with_reducible refine d186_1_LBooks7 (by with_unfolding_all rfl) (by kernel_rfl) ?_ | refine call_c (c_AccountKind _ _ hs.ha ha _ ?_) | refine call_c (c_InstrKind _ _ hs.hi hi0 _ ?_) | fail) <;> try simp only [go_sem, hA, e3, hil, hg0, f1, f2, f3] | fail)
      refine gc_trim 1 (by decide) (by simp only [go_sem]) (by simp only [go_sem]) (hJ _ _ hi (by simp only [go_sem, hA, e3]) ⟨?_, ?_, ?_⟩) <;> try simp only [go_sem, hA, e3, hw]
      exact noneTo_s hP hi (not_ff hlr)
    | false =>
      rw [lotsR, all_bad hi hr, Bool.false_and] at hk
      (try simp only [go_sem, hA, e3, hil, hg0]); repeat' (first | (with_reducible first | refine c_split ?_ ?_ | refine w_split ?_ ?_ | refine tw_split ?_ ?_) <;> intro hb <;> try simp only [go_sem, hb, hA, e3, hil, hg0] | (first | with_reducible refine d186_0_LBooks7 (by with_unfolding_all rfl) (by kernel_rfl) ?_ | with_reducible refine d186_1_LBooks7 (by with_unfolding_all rfl) (by kernel_rfl) ?_ | refine call_c (c_AccountKind _ _ hs.ha ha _ ?_) | refine call_c (c_InstrKind _ _ hs.hi hi0 _ ?_) | fail) <;> try simp only [go_sem, hA, e3, hil, hg0] | with_reducible refine hQ _ _ ?_ <;> simp only [Tryz.f186, go_sem, hA, e3, hil, hg0])
      all_goals first | exact hk | exact (Bool.eq_false_iff.1 hr (by clear hr hJ hA hQ hQO; simp only [lrP]; simp_all <;> omega)).elim
end Go.Proofs.YtlefjpbhbiajfaaGreat
end
section
namespace Go.Proofs.YtlefjpbhbiajfaaGreat
open Go.BL Go.RowKit
set_option linter.unusedVariables false
set_option linter.unusedSimpArgs false
set_option maxRecDepth 100000
attribute [local go_sem] accountC balC lotC tradeC booksC
theorem c_IndexFuncTrade (fs : List Trade) (g : Nat) (caps : List Nat) (p : Trade → Bool) (h0 : AH) (K : AV → AH → Prop) (hn : fs.length ≤ 1000000000)
    (hp : ∀ i (hi : i < fs.length) (K' : AV → AH → Prop), K' (.one (.c (.bool (p fs[i])))) h0 → callA Tryz.prog g ([.agg (tradeC fs[i])] ++ caps.map fun l => .one (.pt l 0 0 0)) h0 K')
    (hk : K (.one (.c (.int .i64 (findG p fs)))) h0) : ACalls Tryz.prog 294 [(.one (.im (fs.map tradeC))), .one (.clo g caps)] h0 K := by
  refine acall_m Tryz.f294.results.toList mixed Tryz.func294 rfl rfl (by kernel_rfl) ?_
  intro hwf Q hQ
  simp only [go_sem, ca_clos]
  refine for_at (fs.length) [0, 1, 7] (fun i f h => f 8 = (.one (.c (.int .i64 (i)))) ∧ f 7 = (.one (.c (.int .i64 (fs.length)))) ∧ h = h0 ∧ noneTo p fs i) (GC.now ?_) ?_
  · simp only [go_sem, nc_0, true_and, ca_clos]
    exact noneTo_0 p fs
  · rintro i f h J hi hA ⟨e8, e7, rfl, hP⟩ hJ
    simp only [go_sem, ca_clos] at hA
    simp only [go_sem, hA, e8, e7, ca_clos]
    refine c_split (fun hb => ?_) (fun hb => ?_)
    rotate_left
    · simp only [go_sem, hb, hA, e8, e7, ca_clos]
      obtain rfl := ge_len hb hi
      refine hQ (h) _ _ ?_; refine GC.now (ret_m (by simp only [go_sem, Tryz.f294, hA, e8, e7, ca_clos]; exact _root_.id rfl) (by simp only [go_sem]) (by simp) (by first | exact hwf | exact wf_set hwf (by simp only [go_sem, hA, e8, e7, ca_clos]) | exact wf_set2 hwf (by simp only [go_sem, hA, e8, e7, ca_clos]) (by simp only [go_sem, hA, e8, e7, ca_clos]) | (simp only [go_sem]; done)) (by first | exact ⟨_, _root_.id rfl⟩ | exact ⟨[], (List.append_nil _).symm⟩) ?_) <;> simp only [go_sem, hA, e8, e7, ca_clos]
      rw [findG_no hP] at hk
      exact hk
    have hi := lt_len hb
    have hw := wrap_nat i (by omega)
    have hil : (i : Int) < ((fs.length : Nat) : Int) := Int.ofNat_lt.2 hi
    have hg0 : (fs)[i]? = some ((fs)[i]) := List.getElem?_eq_getElem (by omega)
    simp only [go_sem, hb, hA, e8, e7, ca_clos, hg0]
    try simp only [go_sem, hA, e8, e7, ca_clos, hil, hg0]
    refine hp i hi _ ?_
    simp only [go_sem, hA, e8, e7, ca_clos, hil, hg0]
    (try simp only [go_sem, hA, e8, e7, ca_clos, hil, hg0]); repeat' (first | (with_reducible first | refine c_split ?_ ?_ | refine w_split ?_ ?_) <;> intro hb <;> try simp only [go_sem, hb, hA, e8, e7, ca_clos, hil, hg0] | fail)
    · refine hQ (h) _ _ ?_; refine GC.now (ret_m (by simp only [go_sem, Tryz.f294, hA, e8, e7, ca_clos, hil, hg0]; exact _root_.id rfl) (by simp only [go_sem]) (by simp) (by first | exact hwf | exact wf_set hwf (by simp only [go_sem, hA, e8, e7, ca_clos, hil, hg0]) | exact wf_set2 hwf (by simp only [go_sem, hA, e8, e7, ca_clos, hil, hg0]) (by simp only [go_sem, hA, e8, e7, ca_clos, hil, hg0]) | (simp only [go_sem]; done)) (by first | exact ⟨_, _root_.id rfl⟩ | exact ⟨[], (List.append_nil _).symm⟩) ?_) <;> simp only [go_sem, hA, e8, e7, ca_clos, hil, hg0]
      rw [findG_of hP hi hb] at hk
      exact hk
    · refine GC.now (hJ _ _ hi (by simp only [go_sem, hA, e8, e7, ca_clos]) ⟨?_, ?_, ?_, ?_⟩) <;> try simp only [go_sem, hA, e8, e7, ca_clos, hw]
      exact noneTo_s hP hi hb
theorem c_tradesRight1 (t : Trade) (b : Books) (hs : Small b) (h0 : AH) (c : Nat) (hc : h0[c]? = some (.own 0 31 6 (some 1) [booksC b])) (K : AV → AH → Prop) (hk : K (.one (.c (.bool (!trdP b t)))) h0) : ACalls Tryz.prog 259 [.agg (tradeC t), .one (.pt c 0 0 0)] h0 K := by
  refine acall_m Tryz.f259.results.toList mixed Tryz.func259 rfl rfl (by kernel_rfl) ?_
  intro hwf Q hQ
  simp only [go_sem, fun a => h_old a hc]
  (try simp only [go_sem, fun a => h_old a hc]); repeat' (first | (with_reducible first | refine c_split ?_ ?_ | refine w_split ?_ ?_) <;> intro hb <;> try simp only [go_sem, hb, fun a => h_old a hc] | (first | refine call_c (c_accountKind _ _ hs.ha _ ?_) | refine call_c (c_instrKind _ _ hs.hi _ ?_) | fail) <;> try simp only [go_sem, fun a => h_old a hc] | fail)
  · refine hQ (h0) _ _ ?_; refine GC.now (ret_m (by simp only [go_sem, Tryz.f259]; exact _root_.id rfl) (by simp only [go_sem]) (by simp) (by first | exact hwf | exact wf_set hwf (by simp only [go_sem]) | exact wf_set2 hwf (by simp only [go_sem]) (by simp only [go_sem]) | (simp only [go_sem]; done)) (by first | exact ⟨_, _root_.id rfl⟩ | exact ⟨[], (List.append_nil _).symm⟩) ?_) <;> simp only [go_sem]
    exact kB hk (by simp only [trdP]; simp_all)
  · refine hQ (h0) _ _ ?_; refine GC.now (ret_m (by simp only [go_sem, Tryz.f259]; exact _root_.id rfl) (by simp only [go_sem]) (by simp) (by first | exact hwf | exact wf_set hwf (by simp only [go_sem]) | exact wf_set2 hwf (by simp only [go_sem]) (by simp only [go_sem]) | (simp only [go_sem]; done)) (by first | exact ⟨_, _root_.id rfl⟩ | exact ⟨[], (List.append_nil _).symm⟩) ?_) <;> simp only [go_sem]
    exact kB hk (by simp only [trdP]; simp_all)
  · refine hQ (h0) _ _ ?_; refine GC.now (ret_m (by simp only [go_sem, Tryz.f259]; exact _root_.id rfl) (by simp only [go_sem]) (by simp) (by first | exact hwf | exact wf_set hwf (by simp only [go_sem]) | exact wf_set2 hwf (by simp only [go_sem]) (by simp only [go_sem]) | (simp only [go_sem]; done)) (by first | exact ⟨_, _root_.id rfl⟩ | exact ⟨[], (List.append_nil _).symm⟩) ?_) <;> simp only [go_sem]
    exact kB hk (by simp only [trdP]; simp_all)
  · refine hQ (h0) _ _ ?_; refine GC.now (ret_m (by simp only [go_sem, Tryz.f259]; exact _root_.id rfl) (by simp only [go_sem]) (by simp) (by first | exact hwf | exact wf_set hwf (by simp only [go_sem]) | exact wf_set2 hwf (by simp only [go_sem]) (by simp only [go_sem]) | (simp only [go_sem]; done)) (by first | exact ⟨_, _root_.id rfl⟩ | exact ⟨[], (List.append_nil _).symm⟩) ?_) <;> simp only [go_sem]
    exact kB hk (by simp only [trdP]; simp_all)
theorem c_ContainsTrade (xs : List Trade) (g : Nat) (c : Nat) (p : Trade → Bool) (h0 : AH) (K : AV → AH → Prop) (hn : xs.length ≤ 1000000000)
    (hp : ∀ i (hi : i < xs.length) (K' : AV → AH → Prop), K' (.one (.c (.bool (p xs[i])))) h0 → callA Tryz.prog g ([.agg (tradeC xs[i])] ++ [c].map fun l => .one (.pt l 0 0 0)) h0 K')
    (hk : K (.one (.c (.bool (decide (0 ≤ findG p xs))))) h0) : ACalls Tryz.prog 258 [(.one (.im (xs.map tradeC))), .one (.clo g [c])] h0 K := by
  refine acall_m Tryz.f258.results.toList mixed Tryz.func258 rfl rfl (by kernel_rfl) ?_
  intro hwf Q hQ
  simp only [go_sem, ca_clos]
  refine .inr (.inl ⟨rfl, c_IndexFuncTrade xs g [c] p _ _ hn hp ?_⟩)
  simp only [go_sem]
  (try simp only [go_sem]); repeat' (first | (with_reducible first | refine c_split ?_ ?_ | refine w_split ?_ ?_) <;> intro hb <;> try simp only [go_sem, hb] | fail)
  refine hQ (h0) _ _ ?_; refine GC.now (ret_m (by simp only [go_sem, Tryz.f258]; exact _root_.id rfl) (by simp only [go_sem]) (by simp) (by first | exact hwf | exact wf_set hwf (by simp only [go_sem]) | exact wf_set2 hwf (by simp only [go_sem]) (by simp only [go_sem]) | (simp only [go_sem]; done)) (by first | exact ⟨_, _root_.id rfl⟩ | exact ⟨[], (List.append_nil _).symm⟩) ?_) <;> simp only [go_sem]
  exact hk
theorem findG_all {α : Type} (p : α → Bool) (xs : List α) : (!decide (0 ≤ findG (fun x => !p x) xs)) = xs.all p := by
  cases h : xs.all p with
  | true =>
    have : findG (fun x => !p x) xs = -1 := findG_none fun j hj => by rw [(List.all_eq_true.1 h) _ (List.getElem_mem hj)]; rfl
    rw [this]; rfl
  | false =>
    obtain ⟨x, hx, hp⟩ : ∃ x ∈ xs, p x = false := by
      rcases Classical.em (∃ x ∈ xs, p x = false) with q | q
      · exact q
      · exfalso
        have : xs.all p = true := List.all_eq_true.2 fun x hx => by
          cases hp : p x with
          | true => rfl
          | false => exact absurd ⟨x, hx, hp⟩ q
        rw [this] at h; cases h
    rw [decide_eq_true (findG_hit hx (show (!p x) = true by rw [hp]; rfl))]; rfl
theorem c_tradesRight (b : Books) (hs : Small b) (K : AV → AH → Prop) (hk : K (.one (.c (.bool (b.trades.all (trdP b))))) []) : ACalls Tryz.prog 196 [.agg (booksC b)] [] K := by
  have hst := hs.ht
  refine acall_c Tryz.f196.results.toList mixed Tryz.func196 rfl rfl (by kernel_rfl) ?_
  intro Q hQ hQO
  simp only [go_sem]
  refine call_h (c_ContainsTrade b.trades _ 0 (fun t => !trdP b t) _ _ hst (fun i hi K' hk' => .inr (.inl ⟨rfl, c_tradesRight1 b.trades[i] b hs _ 0 rfl _ hk'⟩)) ?_)
  simp only [go_sem]
  (try simp only [go_sem]); repeat' (first | (with_reducible first | refine c_split ?_ ?_ | refine w_split ?_ ?_) <;> intro hb <;> try simp only [go_sem, hb] | with_reducible refine hQ _ _ ?_ <;> simp only [Tryz.f196, go_sem])
  rw [← findG_all] at hk
  exact hk
theorem lots_fine {xs : List Lot} (h : lotsOk xs = true) : Fine xs := by
  rw [lotsOk, Bool.and_eq_true] at h; exact okL_fine h.1
theorem c_impl_BooksOk (b : Books) (hs : Small b) (K : AV → AH → Prop) (hk : K (.one (.c (.bool (booksOk b)))) []) : ACalls Tryz.prog 110 [.agg (booksC b)] [] K := by
  cases hl : listsOk b with
  | true =>
    rw [booksOk, hl, Bool.true_and] at hk
    simp only [listsOk, Bool.and_eq_true] at hl
    obtain ⟨⟨⟨⟨⟨f1, f2⟩, f3⟩, f4⟩, f5⟩, f6⟩ := hl
    refine acall_c Tryz.f110.results.toList mixed Tryz.func110 rfl rfl (by kernel_rfl) ?_
    intro Q hQ hQO
    simp only [go_sem]
    (try simp only [go_sem, f1, f2, f3, f4, f5, f6]); repeat' (first | (with_reducible first | refine c_split ?_ ?_ | refine w_split ?_ ?_) <;> intro hb <;> try simp only [go_sem, hb, f1, f2, f3, f4, f5, f6] | (first | refine call_c (c_impl_AccountsOk _ hs.ha _ ?_) | refine call_c (c_impl_InstrsOk _ hs.hi _ ?_) | refine call_c (c_impl_BalsOk _ hs.hb _ ?_) | refine call_c (c_impl_LotsOk _ hs.hl _ ?_) | refine call_c (c_impl_TradesOk _ hs.ht _ ?_) | refine call_c (c_in _ _ _ _ ?_) | refine call_c (c_balsRight b hs f3 _ ?_) | refine call_c (c_lotsRight b hs f3 (lots_fine f4) _ ?_) | refine call_c (c_tradesRight b hs _ ?_) | fail) <;> try simp only [go_sem, f1, f2, f3, f4, f5, f6] | with_reducible refine hQ _ _ ?_ <;> simp only [Tryz.f110, go_sem, f1, f2, f3, f4, f5, f6])
    all_goals (clear hQ hQO; generalize b.bals.all (brP b) = p1 at *; generalize lotsR b = p2 at *; generalize b.trades.all (trdP b) = p3 at *; exact kB hk (by simp_all))
  | false =>
    rw [booksOk, hl, Bool.false_and, Bool.false_and, Bool.false_and] at hk
    refine acall_c Tryz.f110.results.toList mixed Tryz.func110 rfl rfl (by kernel_rfl) ?_
    intro Q hQ hQO
    simp only [go_sem]
    (try simp only [go_sem]); repeat' (first | (with_reducible first | refine c_split ?_ ?_ | refine w_split ?_ ?_) <;> intro hb <;> try simp only [go_sem, hb] | (first | refine call_c (c_impl_AccountsOk _ hs.ha _ ?_) | refine call_c (c_impl_InstrsOk _ hs.hi _ ?_) | refine call_c (c_impl_BalsOk _ hs.hb _ ?_) | refine call_c (c_impl_LotsOk _ hs.hl _ ?_) | refine call_c (c_impl_TradesOk _ hs.ht _ ?_) | refine call_c (c_in _ _ _ _ ?_) | fail) <;> try simp only [go_sem] | with_reducible refine hQ _ _ ?_ <;> simp only [Tryz.f110, go_sem])
    all_goals first | exact hk | exact (Bool.eq_false_iff.1 hl (by clear hl hQ hQO; simp only [listsOk]; simp_all)).elim
theorem c_BooksOk_no (b : Books) (hs : Small b) (hl : listsOk b = false) (K : AV → AH → Prop) (hk : K (.one (.c (.bool (booksOk b)))) []) : ACalls Tryz.prog 109 [.agg (booksC b)] [] K := by
  rw [booksOk, hl, Bool.false_and, Bool.false_and, Bool.false_and] at hk
  refine acall_c Tryz.f109.results.toList mixed Tryz.func109 rfl rfl (by kernel_rfl) ?_
  intro Q hQ hQO
  simp only [go_sem]
  (try simp only [go_sem]); repeat' (first | (with_reducible first | refine c_split ?_ ?_ | refine w_split ?_ ?_) <;> intro hb <;> try simp only [go_sem, hb] | (first | refine call_c (c_spec_AccountsOk _ hs.ha _ ?_) | refine call_c (c_spec_InstrsOk _ hs.hi _ ?_) | refine call_c (c_spec_BalsOk _ hs.hb _ ?_) | refine call_c (c_spec_LotsOk _ hs.hl _ ?_) | refine call_c (c_spec_TradesOk _ hs.ht _ ?_) | refine call_c (c_l1In _ _ _ _ ?_) | fail) <;> try simp only [go_sem] | with_reducible refine hQ _ _ ?_ <;> simp only [Tryz.f109, go_sem])
  all_goals first | exact hk | exact (Bool.eq_false_iff.1 hl (by clear hl hQ hQO; simp only [listsOk]; simp_all)).elim
theorem c_BooksOk (b : Books) (hs : Small b) (K : AV → AH → Prop) (hk : K (.one (.c (.bool (booksOk b)))) []) : ACalls Tryz.prog 109 [.agg (booksC b)] [] K := by
  have hst := hs.ht
  cases hl : listsOk b with
  | true =>
    rw [booksOk, hl, Bool.true_and] at hk
    simp only [listsOk, Bool.and_eq_true] at hl
    obtain ⟨⟨⟨⟨⟨f1, f2⟩, f3⟩, f4⟩, f5⟩, f6⟩ := hl
    refine acall_c Tryz.f109.results.toList mixed Tryz.func109 rfl rfl (by kernel_rfl) ?_
    intro Q hQ hQO
    simp only [go_sem]
    cases g1 : b.bals.all (brP b) with
    | false =>
      rw [g1, Bool.false_and, Bool.false_and] at hk
      (try simp only [go_sem, f1, f2, f3, f4, f5, f6, g1]); repeat' (first | (with_reducible first | refine c_split ?_ ?_ | refine w_split ?_ ?_) <;> intro hb <;> try simp only [go_sem, hb, f1, f2, f3, f4, f5, f6, g1] | (first | refine call_c (c_spec_AccountsOk _ hs.ha _ ?_) | refine call_c (c_spec_InstrsOk _ hs.hi _ ?_) | refine call_c (c_spec_BalsOk _ hs.hb _ ?_) | refine call_c (c_spec_LotsOk _ hs.hl _ ?_) | refine call_c (c_spec_TradesOk _ hs.ht _ ?_) | refine call_c (c_l1In _ _ _ _ ?_) | refine call_c (c_l6Bals b hs f1 f2 f3 _ ?_) | fail) <;> try simp only [go_sem, f1, f2, f3, f4, f5, f6, g1] | with_reducible refine hQ _ _ ?_ <;> simp only [Tryz.f109, go_sem, f1, f2, f3, f4, f5, f6, g1])
      exact hk
    | true =>
      cases g2 : lotsR b with
      | false =>
        rw [g1, g2, Bool.true_and, Bool.false_and] at hk
        (try simp only [go_sem, f1, f2, f3, f4, f5, f6, g1, g2]); repeat' (first | (with_reducible first | refine c_split ?_ ?_ | refine w_split ?_ ?_) <;> intro hb <;> try simp only [go_sem, hb, f1, f2, f3, f4, f5, f6, g1, g2] | (first | refine call_c (c_spec_AccountsOk _ hs.ha _ ?_) | refine call_c (c_spec_InstrsOk _ hs.hi _ ?_) | refine call_c (c_spec_BalsOk _ hs.hb _ ?_) | refine call_c (c_spec_LotsOk _ hs.hl _ ?_) | refine call_c (c_spec_TradesOk _ hs.ht _ ?_) | refine call_c (c_l1In _ _ _ _ ?_) | refine call_c (c_l6Bals b hs f1 f2 f3 _ ?_) | refine call_c (c_l6Lots b hs f1 f2 (lots_fine f4) _ ?_) | fail) <;> try simp only [go_sem, f1, f2, f3, f4, f5, f6, g1, g2] | with_reducible refine hQ _ _ ?_ <;> simp only [Tryz.f109, go_sem, f1, f2, f3, f4, f5, f6, g1, g2])
        exact hk
      | true =>
        rw [g1, g2, Bool.true_and, Bool.true_and] at hk
        (try simp only [go_sem, f1, f2, f3, f4, f5, f6, g1, g2]); repeat' (first | (with_reducible first | refine c_split ?_ ?_ | refine w_split ?_ ?_) <;> intro hb <;> try simp only [go_sem, hb, f1, f2, f3, f4, f5, f6, g1, g2] | (first | refine call_c (c_spec_AccountsOk _ hs.ha _ ?_) | refine call_c (c_spec_InstrsOk _ hs.hi _ ?_) | refine call_c (c_spec_BalsOk _ hs.hb _ ?_) | refine call_c (c_spec_LotsOk _ hs.hl _ ?_) | refine call_c (c_spec_TradesOk _ hs.ht _ ?_) | refine call_c (c_l1In _ _ _ _ ?_) | refine call_c (c_l6Bals b hs f1 f2 f3 _ ?_) | refine call_c (c_l6Lots b hs f1 f2 (lots_fine f4) _ ?_) | fail) <;> try simp only [go_sem, f1, f2, f3, f4, f5, f6, g1, g2] | fail)
        refine for_at (b.trades.length) [1] (fun i f h => f 3 = (.one (.c (.int .i64 (i)))) ∧ h = [.own 0 31 6 (some 1) [booksC b]] ∧ noneTo (fun t => !trdP b t) b.trades i) (GC.now ?_) ?_
        · simp only [go_sem, nc_0, true_and]
          exact noneTo_0 _ _
        · rintro i f h J hi hA ⟨e3, rfl, hP⟩ hJ
          simp only [go_sem] at hA
          simp only [go_sem, hA, e3]
          refine c_split (fun hb => ?_) (fun hb => ?_)
          rotate_left
          · simp only [go_sem, hb, hA, e3]
            obtain rfl := ge_len hb hi
            (try simp only [go_sem, hA, e3]); repeat' (first | (with_reducible first | refine c_split ?_ ?_ | refine w_split ?_ ?_) <;> intro hb <;> try simp only [go_sem, hb, hA, e3] | with_reducible refine hQ _ _ ?_ <;> simp only [Tryz.f109, go_sem, hA, e3])
            rw [all_no hP] at hk
            exact hk
          have hi := lt_len hb
          have hw := wrap_nat i (by omega)
          have hil : (i : Int) < ((b.trades.length : Nat) : Int) := Int.ofNat_lt.2 hi
          have hg0 : (b.trades)[i]? = some ((b.trades)[i]) := List.getElem?_eq_getElem (by omega)
          simp only [go_sem, hb, hA, e3, hg0]
          try simp only [go_sem, hA, e3, hil, hg0]
          cases hr : trdP b b.trades[i] with
          | true =>
            have htr := hr
            simp only [trdP, Bool.and_eq_true] at hr
            obtain ⟨⟨⟨t1, t2⟩, t3⟩, t4⟩ := hr
            (try simp only [go_sem, hA, e3, hil, hg0, t1, t2, t3, t4]); repeat' (first | (with_reducible first | refine c_split ?_ ?_ | refine w_split ?_ ?_) <;> intro hb <;> try simp only [go_sem, hb, hA, e3, hil, hg0, t1, t2, t3, t4] | (first | refine call_c (c_AccountKind _ _ hs.ha f1 _ ?_) | refine call_c (c_InstrKind _ _ hs.hi f2 _ ?_) | fail) <;> try simp only [go_sem, hA, e3, hil, hg0, t1, t2, t3, t4] | fail)
            refine gc_trim 1 (by decide) (by simp only [go_sem]) (by simp only [go_sem]) (hJ _ _ hi (by simp only [go_sem, hA, e3]) ⟨?_, ?_, ?_⟩) <;> try simp only [go_sem, hA, e3, hw]
            exact noneTo_s hP hi (not_ff htr)
          | false =>
            rw [all_bad hi hr] at hk
            cases q1 : (kindOf b.accounts b.trades[i].buyer == 1) with
            | false =>
              (try simp only [go_sem, hA, e3, hil, hg0, q1]); repeat' (first | (with_reducible first | refine c_split ?_ ?_ | refine w_split ?_ ?_) <;> intro hb <;> try simp only [go_sem, hb, hA, e3, hil, hg0, q1] | (first | refine call_c (c_AccountKind _ _ hs.ha f1 _ ?_) | refine call_c (c_InstrKind _ _ hs.hi f2 _ ?_) | fail) <;> try simp only [go_sem, hA, e3, hil, hg0, q1] | with_reducible refine hQ _ _ ?_ <;> simp only [Tryz.f109, go_sem, hA, e3, hil, hg0, q1])
              exact hk
            | true =>
              cases q2 : (kindOf b.accounts b.trades[i].seller == 1) with
              | false =>
                (try simp only [go_sem, hA, e3, hil, hg0, q1, q2]); repeat' (first | (with_reducible first | refine c_split ?_ ?_ | refine w_split ?_ ?_) <;> intro hb <;> try simp only [go_sem, hb, hA, e3, hil, hg0, q1, q2] | (first | refine call_c (c_AccountKind _ _ hs.ha f1 _ ?_) | refine call_c (c_InstrKind _ _ hs.hi f2 _ ?_) | fail) <;> try simp only [go_sem, hA, e3, hil, hg0, q1, q2] | with_reducible refine hQ _ _ ?_ <;> simp only [Tryz.f109, go_sem, hA, e3, hil, hg0, q1, q2])
                exact hk
              | true =>
                cases q3 : (kindOf b.instrs b.trades[i].paper == 2) with
                | false =>
                  (try simp only [go_sem, hA, e3, hil, hg0, q1, q2, q3]); repeat' (first | (with_reducible first | refine c_split ?_ ?_ | refine w_split ?_ ?_) <;> intro hb <;> try simp only [go_sem, hb, hA, e3, hil, hg0, q1, q2, q3] | (first | refine call_c (c_AccountKind _ _ hs.ha f1 _ ?_) | refine call_c (c_InstrKind _ _ hs.hi f2 _ ?_) | fail) <;> try simp only [go_sem, hA, e3, hil, hg0, q1, q2, q3] | with_reducible refine hQ _ _ ?_ <;> simp only [Tryz.f109, go_sem, hA, e3, hil, hg0, q1, q2, q3])
                  exact hk
                | true =>
                  cases q4 : (kindOf b.instrs b.trades[i].cash == 1) with
                  | false =>
                    (try simp only [go_sem, hA, e3, hil, hg0, q1, q2, q3, q4]); repeat' (first | (with_reducible first | refine c_split ?_ ?_ | refine w_split ?_ ?_) <;> intro hb <;> try simp only [go_sem, hb, hA, e3, hil, hg0, q1, q2, q3, q4] | (first | refine call_c (c_AccountKind _ _ hs.ha f1 _ ?_) | refine call_c (c_InstrKind _ _ hs.hi f2 _ ?_) | fail) <;> try simp only [go_sem, hA, e3, hil, hg0, q1, q2, q3, q4] | with_reducible refine hQ _ _ ?_ <;> simp only [Tryz.f109, go_sem, hA, e3, hil, hg0, q1, q2, q3, q4])
                    exact hk
                  | true =>
                    simp only [trdP, q1, q2, q3, q4, Bool.and_true] at hr
                    cases hr
  | false => exact c_BooksOk_no b hs hl K hk
end Go.Proofs.YtlefjpbhbiajfaaGreat
end
section
namespace Go.Proofs.YtlefjpbhbiajfaaGreat
open Go.BL Go.RowKit
set_option linter.unusedVariables false
set_option linter.unusedSimpArgs false
set_option maxRecDepth 100000
attribute [local go_sem] accountC balC lotC tradeC booksC
def booksA (b : Books) : AV := .agg [.sl 0 0 0 b.accounts.length, .sl 1 0 0 b.instrs.length, .sl 2 0 0 b.bals.length, .sl 3 0 0 b.lots.length, .sl 4 0 0 b.trades.length, .c (.int .i64 (b.lot))]
theorem c_eqBooks (b : Books) (hs : Small b) (K : AV → AH → Prop) (hk : K (.one (.c (.bool (true)))) []) : ACalls Tryz.prog 48 [.agg (booksC b), .agg (booksC b)] [] K := by
  refine acall_c Tryz.f48.results.toList mixed Tryz.func48 rfl rfl (by kernel_rfl) ?_
  intro Q hQ hQO
  simp only [go_sem]
  (try simp only [go_sem, BEq.rfl]); repeat' (first | (with_reducible first | refine c_split ?_ ?_ | refine w_split ?_ ?_) <;> intro hb <;> try simp only [go_sem, hb, BEq.rfl] | (first | refine call_c (c_eqAccountS _ hs.ha _ ?_) | refine call_c (c_eqInstrS _ hs.hi _ ?_) | refine call_c (c_eqBalS _ hs.hb _ ?_) | refine call_c (c_eqLotS _ hs.hl _ ?_) | refine call_c (c_eqTradeS _ hs.ht _ ?_) | fail) <;> try simp only [go_sem, BEq.rfl] | with_reducible refine hQ _ _ ?_ <;> simp only [Tryz.f48, go_sem, BEq.rfl])
  exact hk
end Go.Proofs.YtlefjpbhbiajfaaGreat
end
section
namespace Go.Proofs.YtlefjpbhbiajfaaGreat
open Go.BL Go.RowKit
set_option linter.unusedVariables false
set_option linter.unusedSimpArgs false
set_option maxRecDepth 100000
attribute [local go_sem] accountC balC lotC tradeC booksC booksA
theorem booksOk_parts {b : Books} (h : booksOk b = true) : accountsOk b.accounts = true ∧ instrsOk b.instrs = true ∧ balsOk b.bals = true ∧ lotsOk b.lots = true ∧ tradesOk b.trades = true := by
  simp only [booksOk, listsOk, Bool.and_eq_true] at h
  obtain ⟨⟨⟨⟨⟨⟨⟨⟨h1, h2⟩, h3⟩, h4⟩, h5⟩, _⟩, _⟩, _⟩, _⟩ := h
  exact ⟨h1, h2, h3, h4, h5⟩
theorem findO_cases {α : Type} (p : α → Bool) (xs : List α) : (∃ (k : Nat) (hk : k < xs.length), findG p xs = k ∧ xs.find? p = some xs[k]) ∨ findG p xs = -1 ∧ xs.find? p = none := by
  cases h : xs.findIdx? p with
  | none =>
    refine .inr ⟨by rw [findG, h], ?_⟩
    rw [List.findIdx?_eq_none_iff] at h
    exact List.find?_eq_none.2 fun x hx => by rw [h x hx]; decide
  | some k =>
    have h2 := List.findIdx?_eq_some_iff_getElem.1 h
    obtain ⟨hk, hp, hj⟩ := h2
    refine .inl ⟨k, hk, by rw [findG, h], ?_⟩
    exact find_at (fun j _ hjk => by have := hj j hjk; simpa using this) hk hp
end Go.Proofs.YtlefjpbhbiajfaaGreat
end
section
namespace Go.Proofs.YtlefjpbhbiajfaaGreat
open Go.BL Go.RowKit
set_option linter.unusedVariables false
set_option linter.unusedSimpArgs false
set_option maxRecDepth 100000
attribute [local go_sem] intC byteC
def rowI (r : List Int) : List CV := [.im (r.map intC)]
attribute [local go_sem] rowI
/-! ### As the specification reads -/
def numsR (bs : List UInt8) (a : Nat) : Nat → Option (List Int × Nat)
  | 0 => some ([], a)
  | w + 1 => match numsR bs a w with
    | none => none
    | some (r, m) => match getNum bs m with
      | none => none
      | some (n, m2) => some (r ++ [(n : Int)], m2)
theorem numsR_none {bs : List UInt8} {a i n : Nat} (h : numsR bs a i = none) (hin : i ≤ n) : numsR bs a n = none := by
  obtain ⟨d, rfl⟩ := Nat.exists_eq_add_of_le hin
  clear hin
  induction d with
  | zero => exact h
  | succ d ih => rw [← Nat.add_assoc, numsR, ih]
theorem numsR_len {bs : List UInt8} {a : Nat} : ∀ {w : Nat} {r : List Int} {m : Nat}, a ≤ bs.length → numsR bs a w = some (r, m) → r.length = w ∧ m ≤ bs.length
  | 0, r, m, ha, h => by rw [numsR] at h; cases h; exact ⟨rfl, ha⟩
  | w + 1, r, m, ha, h => by
    rw [numsR] at h
    split at h
    · cases h
    · rename_i r0 m0 h0
      have h1 := numsR_len ha h0
      split at h
      · cases h
      · rename_i n m2 h2
        cases h
        exact ⟨by simp [h1.1], getNum_le h2⟩
def numsA : Option (List Int × Nat) → AV
  | some (r, m) => .tup [(.one (.im (r.map intC))), (.one (.c (.int .i64 ((m : Int))))), (.one (.c (.bool (true))))]
  | none => .tup [(.one (.im ([]))), (.one (.c (.int .i64 (0)))), (.one (.c (.bool (false))))]
theorem c_GetNums (bs : List UInt8) (a w : Nat) (hn : bs.length ≤ 1000000000000) (ha : a ≤ bs.length) (hw : w ≤ 2000) (K : AV → AH → Prop) (hk : K (numsA (numsR bs a w)) []) : ACalls Tryz.prog 213 [(.one (.im (bs.map byteC))), (.one (.c (.int .i64 ((a : Int))))), (.one (.c (.int .i64 ((w : Int)))))] [] K := by
  have d1 : decide ((w : Int) ≤ 2000) = true := decide_eq_true (by omega)
  have d2 : decide ((a : Int) ≤ (bs.length : Int)) = true := decide_eq_true (by omega)
  refine acall_c Tryz.f213.results.toList mixed Tryz.func213 rfl rfl (by kernel_rfl) ?_
  intro Q hQ hQO
  simp only [go_sem]
  (try simp only [go_sem, d1, d2]); repeat' (first | (with_reducible first | refine c_split ?_ ?_ | refine w_split ?_ ?_) <;> intro hb <;> try simp only [go_sem, hb, d1, d2] | refine call_c (c_l1In _ _ _ _ ?_) <;> try simp only [go_sem, d1, d2] | fail)
  refine while_at (α := Nat × Nat × List Int) (fun ⟨i, m, out⟩ => w - i) [0, 2] (fun ⟨i, m, out⟩ f h => f 10 = (.one (.c (.int .i64 ((i : Int))))) ∧ f 1 = (.one (.c (.int .i64 ((m : Int))))) ∧ f 9 = .one (.sl 0 i 0 i) ∧ h = [.own i 3 1 (if i = 0 then some 0 else none) (out.map intC)] ∧ i ≤ w ∧ numsR bs a i = some (out, m)) (0, a, []) (GC.now ?_) ?_
  · simp only [go_sem, nc_0, true_and]
    exact ⟨Nat.zero_le _, rfl⟩
  · rintro ⟨i, m, out⟩ f h J hA ⟨e10, e1, e9, rfl, hP⟩ hJ
    simp only [go_sem] at hA
    try dsimp only at hJ
    simp only [go_sem, hA, e10, e1, e9]
    obtain ⟨hiw, hr⟩ := hP
    have hlen := numsR_len ha hr
    refine c_split (fun hb => ?_) (fun hb => ?_)
    · have hi := lt_len hb
      cases hg : getNum bs m with
      | none =>
        have hno : numsR bs a w = none := numsR_none (i := i + 1) (by rw [numsR, hr]; simp only [hg]) hi
        rw [hno] at hk
        (try simp only [go_sem, hA, e10, e1, e9, hg, numA]); repeat' (first | (with_reducible first | refine c_split ?_ ?_ | refine w_split ?_ ?_) <;> intro hb <;> try simp only [go_sem, hb, hA, e10, e1, e9, hg, numA] | refine call_c (c_spec_GetNum bs m (by omega) _ ?_) <;> try simp only [go_sem, hA, e10, e1, e9, hg, numA] | with_reducible refine hQ _ _ ?_ <;> simp only [Tryz.f213, go_sem, hA, e10, e1, e9, hg, numA])
        exact hk
      | some q =>
        obtain ⟨n, m2⟩ := q
        have hs : numsR bs a (i + 1) = some (out ++ [(n : Int)], m2) := by rw [numsR, hr]; simp only [hg]
        have hw2 := wrap_nat i (by omega)
        (try simp only [go_sem, hA, e10, e1, e9, hg, numA]); repeat' (first | (with_reducible first | refine c_split ?_ ?_ | refine w_split ?_ ?_) <;> intro hb <;> try simp only [go_sem, hb, hA, e10, e1, e9, hg, numA] | refine call_c (c_spec_GetNum bs m (by omega) _ ?_) <;> try simp only [go_sem, hA, e10, e1, e9, hg, numA] | fail)
        refine ap_end rfl (by simp [hlen.1]) (by simp; omega) ?_
        (try simp only [go_sem, hA, e10, e1, e9, hlen.1]); repeat' (first | (with_reducible first | refine c_split ?_ ?_ | refine w_split ?_ ?_) <;> intro hb <;> try simp only [go_sem, hb, hA, e10, e1, e9, hlen.1] | fail)
        refine gc_trim 1 (by decide) (by simp only [go_sem]) (by simp only [go_sem, hw2, hlen.1, if_neg (Nat.succ_ne_zero i)]) (hJ (i + 1, m2, out ++ [(n : Int)]) _ _ (by omega) (by simp only [go_sem, hA, e10, e1, e9]) ⟨?_, ?_, ?_, ?_, ?_⟩) <;> try simp only [go_sem, hA, e10, e1, e9, hw2, hlen.1, if_neg (Nat.succ_ne_zero i)]
        exact ⟨hi, hs⟩
    · have hi : i = w := by have := of_decide_eq_false hb; omega
      subst hi
      rw [hr] at hk
      obtain ⟨rfl, _⟩ := hlen
      (try simp only [go_sem, hA, e10, e1, e9, intC_tk]); repeat' (first | (with_reducible first | refine c_split ?_ ?_ | refine w_split ?_ ?_) <;> intro hb <;> try simp only [go_sem, hb, hA, e10, e1, e9, intC_tk] | with_reducible refine hQ _ _ ?_ <;> simp only [Tryz.f213, go_sem, hA, e10, e1, e9, intC_tk])
      exact hk
def rowsR (bs : List UInt8) (w a : Nat) : Nat → Option (List (List Int) × Nat)
  | 0 => some ([], a)
  | n + 1 => match rowsR bs w a n with
    | none => none
    | some (r, m) => match numsR bs m w with
      | none => none
      | some (x, m2) => some (r ++ [x], m2)
theorem rowsR_none {bs : List UInt8} {w a i n : Nat} (h : rowsR bs w a i = none) (hin : i ≤ n) : rowsR bs w a n = none := by
  obtain ⟨d, rfl⟩ := Nat.exists_eq_add_of_le hin
  clear hin
  induction d with
  | zero => exact h
  | succ d ih => rw [← Nat.add_assoc, rowsR, ih]
theorem rowsR_len {bs : List UInt8} {w a : Nat} : ∀ {n : Nat} {r : List (List Int)} {m : Nat}, a ≤ bs.length → rowsR bs w a n = some (r, m) → r.length = n ∧ m ≤ bs.length ∧ ∀ x ∈ r, x.length = w
  | 0, r, m, ha, h => by rw [rowsR] at h; cases h; exact ⟨rfl, ha, fun x hx => nomatch hx⟩
  | n + 1, r, m, ha, h => by
    rw [rowsR] at h
    split at h
    · cases h
    · rename_i r0 m0 h0
      have h1 := rowsR_len ha h0
      split at h
      · cases h
      · rename_i x m2 h2
        cases h
        have h3 := numsR_len h1.2.1 h2
        refine ⟨by simp [h1.1], h3.2, fun y hy => ?_⟩
        rcases List.mem_append.1 hy with hy | hy
        · exact h1.2.2 y hy
        · rw [List.mem_singleton.1 hy]; exact h3.1
def listR (bs : List UInt8) (w most a : Nat) : Option (List (List Int) × Nat) := match getNum bs a with
  | none => none
  | some (n, m) => if most < n then none else rowsR bs w m n
theorem listR_len {bs : List UInt8} {w most a : Nat} {r : List (List Int)} {m : Nat} (h : listR bs w most a = some (r, m)) : r.length ≤ most ∧ m ≤ bs.length ∧ ∀ x ∈ r, x.length = w := by
  unfold listR at h
  split at h
  · cases h
  · rename_i n m0 h0
    split at h
    · cases h
    · have h1 := rowsR_len (getNum_le h0) h
      exact ⟨by omega, h1.2.1, h1.2.2⟩
theorem rowI_snoc (xs : List (List Int)) (r : List Int) : xs.map rowI ++ [[.im (r.map intC)]] = (xs ++ [(r : List Int)]).map rowI := by rw [List.map_append]; rfl
theorem rowI_tk (xs : List (List Int)) : (xs.map rowI).take xs.length = xs.map rowI := List.take_of_length_le (by simp)
attribute [go_sem] rowI_snoc rowI_tk
theorem c_l13Rows (bs : List UInt8) (a w most : Nat) (hn : bs.length ≤ 1000000000000) (hw : w ≤ 2000) (hm : most ≤ 1000) (K : AV → AH → Prop) (hk0 : listR bs w most a = none → ∀ x : List (List Int), K (.tup [(.one (.im (x.map rowI))), (.one (.c (.int .i64 (0)))), (.one (.c (.bool (false))))]) []) (hk1 : ∀ r m, listR bs w most a = some (r, m) → K (.tup [(.one (.im (r.map rowI))), (.one (.c (.int .i64 ((m : Int))))), (.one (.c (.bool (true))))]) []) : ACalls Tryz.prog 141 [(.one (.im (bs.map byteC))), (.one (.c (.int .i64 ((a : Int))))), (.one (.c (.int .i64 ((w : Int))))), (.one (.c (.int .i64 ((most : Int)))))] [] K := by
  refine acall_c Tryz.f141.results.toList mixed Tryz.func141 rfl rfl (by kernel_rfl) ?_
  intro Q hQ hQO
  simp only [go_sem]
  cases hg : getNum bs a with
  | none =>
    rw [listR, hg] at hk0
    (try simp only [go_sem, hg, numA]); repeat' (first | (with_reducible first | refine c_split ?_ ?_ | refine w_split ?_ ?_) <;> intro hb <;> try simp only [go_sem, hb, hg, numA] | refine call_c (c_spec_GetNum bs a (by omega) _ ?_) <;> try simp only [go_sem, hg, numA] | with_reducible refine hQ _ _ ?_ <;> simp only [Tryz.f141, go_sem, hg, numA])
    exact hk0 rfl []
  | some q =>
    obtain ⟨n, m0⟩ := q
    have hm0 := getNum_le hg
    rw [listR, hg] at hk0 hk1
    simp only at hk0 hk1
    by_cases hq : most < n
    · have d1 : decide ((most : Int) < (n : Int)) = true := decide_eq_true (by omega)
      rw [if_pos hq] at hk0
      (try simp only [go_sem, hg, numA, d1]); repeat' (first | (with_reducible first | refine c_split ?_ ?_ | refine w_split ?_ ?_) <;> intro hb <;> try simp only [go_sem, hb, hg, numA, d1] | refine call_c (c_spec_GetNum bs a (by omega) _ ?_) <;> try simp only [go_sem, hg, numA, d1] | with_reducible refine hQ _ _ ?_ <;> simp only [Tryz.f141, go_sem, hg, numA, d1])
      exact hk0 rfl []
    have d1 : decide ((most : Int) < (n : Int)) = false := decide_eq_false (by omega)
    rw [if_neg hq] at hk0 hk1
    (try simp only [go_sem, hg, numA, d1]); repeat' (first | (with_reducible first | refine c_split ?_ ?_ | refine w_split ?_ ?_) <;> intro hb <;> try simp only [go_sem, hb, hg, numA, d1] | refine call_c (c_spec_GetNum bs a (by omega) _ ?_) <;> try simp only [go_sem, hg, numA, d1] | fail)
    refine while_at (α := Nat × Nat × List (List Int)) (fun ⟨i, m, out⟩ => n - i) [0, 2, 12] (fun ⟨i, m, out⟩ f h => f 14 = (.one (.c (.int .i64 ((i : Int))))) ∧ f 1 = (.one (.c (.int .i64 ((m : Int))))) ∧ f 11 = .one (.sl 0 i 0 i) ∧ h = [.own i 163 1 (if i = 0 then some 0 else none) (out.map rowI)] ∧ i ≤ n ∧ rowsR bs w m0 i = some (out, m)) (0, m0, []) (GC.now ?_) ?_
    · simp only [go_sem, nc_0, true_and]
      exact ⟨Nat.zero_le _, rfl⟩
    · rintro ⟨i, m, out⟩ f h J hA ⟨e14, e1, e11, rfl, hP⟩ hJ
      simp only [go_sem] at hA
      try dsimp only at hJ
      simp only [go_sem, hA, e14, e1, e11]
      obtain ⟨hiw, hr⟩ := hP
      have hlen := rowsR_len hm0 hr
      refine c_split (fun hb => ?_) (fun hb => ?_)
      · have hi := lt_len hb
        cases hg2 : numsR bs m w with
        | none =>
          have hno : rowsR bs w m0 n = none := rowsR_none (i := i + 1) (by rw [rowsR, hr]; simp only [hg2]) hi
          obtain ⟨rfl, hml, _⟩ := hlen
          (try simp only [go_sem, hA, e14, e1, e11, hg2, numsA, rowI_tk]); repeat' (first | (with_reducible first | refine c_split ?_ ?_ | refine w_split ?_ ?_) <;> intro hb <;> try simp only [go_sem, hb, hA, e14, e1, e11, hg2, numsA, rowI_tk] | refine call_c (c_GetNums bs m w hn hml hw _ ?_) <;> try simp only [go_sem, hA, e14, e1, e11, hg2, numsA, rowI_tk] | with_reducible refine hQ _ _ ?_ <;> simp only [Tryz.f141, go_sem, hA, e14, e1, e11, hg2, numsA, rowI_tk])
          exact hk0 hno out
        | some q =>
          obtain ⟨x, m2⟩ := q
          have hs : rowsR bs w m0 (i + 1) = some (out ++ [x], m2) := by rw [rowsR, hr]; simp only [hg2]
          have hw2 := wrap_nat i (by omega)
          (try simp only [go_sem, hA, e14, e1, e11, hg2, numsA]); repeat' (first | (with_reducible first | refine c_split ?_ ?_ | refine w_split ?_ ?_) <;> intro hb <;> try simp only [go_sem, hb, hA, e14, e1, e11, hg2, numsA] | refine call_c (c_GetNums bs m w hn hlen.2.1 hw _ ?_) <;> try simp only [go_sem, hA, e14, e1, e11, hg2, numsA] | fail)
          refine ap_end rfl (by simp [hlen.1]) (by simp; omega) ?_
          (try simp only [go_sem, hA, e14, e1, e11, hlen.1]); repeat' (first | (with_reducible first | refine c_split ?_ ?_ | refine w_split ?_ ?_) <;> intro hb <;> try simp only [go_sem, hb, hA, e14, e1, e11, hlen.1] | fail)
          refine gc_trim 1 (by decide) (by simp only [go_sem]) (by simp only [go_sem, hw2, hlen.1, if_neg (Nat.succ_ne_zero i)]) (hJ (i + 1, m2, out ++ [x]) _ _ (by omega) (by simp only [go_sem, hA, e14, e1, e11]) ⟨?_, ?_, ?_, ?_, ?_⟩) <;> try simp only [go_sem, hA, e14, e1, e11, hw2, hlen.1, if_neg (Nat.succ_ne_zero i)]
          exact ⟨hi, hs⟩
      · have hi : i = n := by have := of_decide_eq_false hb; omega
        subst hi
        obtain ⟨rfl, _⟩ := hlen
        (try simp only [go_sem, hA, e14, e1, e11, rowI_tk]); repeat' (first | (with_reducible first | refine c_split ?_ ?_ | refine w_split ?_ ?_) <;> intro hb <;> try simp only [go_sem, hb, hA, e14, e1, e11, rowI_tk] | with_reducible refine hQ _ _ ?_ <;> simp only [Tryz.f141, go_sem, hA, e14, e1, e11, rowI_tk])
        exact hk1 _ _ hr
end Go.Proofs.YtlefjpbhbiajfaaGreat
end
section
namespace Go.Proofs.YtlefjpbhbiajfaaGreat
open Go.BL Go.RowKit
set_option linter.unusedVariables false
set_option linter.unusedSimpArgs false
set_option maxRecDepth 100000
theorem d61_0_LBRead2 : DrawL Tryz.prog 0 25 [(0, true, true), (1, true, true), (2, true, true), (3, true, true), (4, true, true), (5, true, true), (6, true, false), (7, false, false), (8, false, false), (9, false, false), (10, false, true), (11, false, true), (12, true, true), (13, true, true), (14, true, true), (15, false, true), (16, false, true), (17, false, true)] := draw_L
theorem d61_1_LBRead2 : DrawL Tryz.prog 0 56 [(0, true, true), (1, true, true), (2, true, false), (3, true, false), (4, true, false), (5, false, false), (6, false, false), (7, false, false), (8, false, false), (9, false, false), (10, false, false), (11, false, true), (12, false, true)] := draw_L
theorem d61_2_LBRead2 : DrawL Tryz.prog 0 70 [(0, true, true), (1, true, true), (2, true, false), (3, true, false), (4, true, false), (5, false, false), (6, false, false), (7, false, false), (8, false, false), (9, false, false), (10, false, false), (11, false, true), (12, false, true)] := draw_L
theorem d61_3_LBRead2 : DrawL Tryz.prog 0 84 [(0, true, true), (1, true, true), (2, true, false), (3, true, false), (4, true, false), (5, true, false), (6, true, false), (7, true, false), (8, false, false), (9, false, false), (10, false, false), (11, false, false), (12, false, false), (13, false, false), (14, false, false), (15, false, true), (16, false, true)] := draw_L
theorem d61_4_LBRead2 : DrawL Tryz.prog 0 102 [(0, true, true), (1, true, true), (2, true, false), (3, true, false), (4, true, false), (5, true, false), (6, true, false), (7, true, false), (8, true, false), (9, true, false), (10, true, false), (11, true, false), (12, true, false), (13, true, false), (14, false, false), (15, false, false), (16, false, false), (17, false, false), (18, false, false), (19, false, false), (20, false, true), (21, false, true)] := draw_L
theorem d61_5_LBRead2 : DrawL Tryz.prog 0 125 [(0, true, true), (1, true, true), (2, true, false), (3, true, false), (4, true, false), (5, true, false), (6, true, false), (7, true, false), (8, true, false), (9, true, false), (10, true, false), (11, true, false), (12, true, false), (13, true, false), (14, true, false), (15, true, false), (16, true, false), (17, true, false), (18, true, false), (19, true, false), (20, true, false), (21, true, false), (22, true, false), (23, false, false), (24, false, false), (25, false, false), (26, false, false), (27, false, false), (28, false, false), (29, false, true), (30, false, true)] := draw_L
attribute [local go_sem] accountC balC lotC tradeC booksC intC byteC rowI
def accR (r : List Int) : Account := ⟨r.getD 0 0, r.getD 1 0⟩
def balR (r : List Int) : Bal := ⟨r.getD 0 0, r.getD 1 0, wrap64 (r.getD 2 0 - 1000000000000000)⟩
def lotR (r : List Int) : Lot := ⟨r.getD 0 0, r.getD 1 0, r.getD 2 0, r.getD 3 0, r.getD 4 0⟩
def trdR (r : List Int) : Trade := ⟨r.getD 0 0, r.getD 1 0, r.getD 2 0, r.getD 3 0, r.getD 4 0, r.getD 5 0, r.getD 6 0, r.getD 7 0⟩
def zeroB : Books := ⟨[], [], [], [], [], 0⟩
theorem ap_room {a b z : Nat} (h1 : a ≤ 1000) (h2 : b ≤ 8) (h3 : z ≤ 64) : (a + b) * z ≤ 140737488355328 := Nat.le_trans (Nat.mul_le_mul (Nat.add_le_add h1 h2) h3) (by decide)
theorem le_1000 {i n m : Nat} (h1 : i < n) (h2 : n ≤ m) (h3 : m ≤ 1000) : i ≤ 1000 := by omega
theorem zero_small : Small zeroB := ⟨Nat.zero_le _, Nat.zero_le _, Nat.zero_le _, Nat.zero_le _, Nat.zero_le _⟩
theorem le_most {a b m : Nat} (h1 : a = b) (h2 : b ≤ m) (h3 : m ≤ 1000000000) : a ≤ 1000000000 := by omega
def rest5 (bs : List UInt8) (a : Nat) (b : Books) : Option Books := match getNum bs a with
  | none => none
  | some (n, e) => if e = bs.length ∧ booksOk { b with lot := (n : Int) } = true then some { b with lot := (n : Int) } else none
def rest4 (bs : List UInt8) (a : Nat) (b : Books) : Option Books := match listR bs 8 30 a with
  | none => none
  | some (r, m) => rest5 bs m { b with trades := r.map trdR }
def rest3 (bs : List UInt8) (a : Nat) (b : Books) : Option Books := match listR bs 5 120 a with
  | none => none
  | some (r, m) => rest4 bs m { b with lots := r.map lotR }
def rest2 (bs : List UInt8) (a : Nat) (b : Books) : Option Books := match listR bs 3 160 a with
  | none => none
  | some (r, m) => rest3 bs m { b with bals := r.map balR }
def rest1 (bs : List UInt8) (a : Nat) (b : Books) : Option Books := match listR bs 2 8 a with
  | none => none
  | some (r, m) => rest2 bs m { b with instrs := r.map accR }
def rest0 (bs : List UInt8) (a : Nat) (b : Books) : Option Books := match listR bs 2 20 a with
  | none => none
  | some (r, m) => rest1 bs m { b with accounts := r.map accR }
def restK (bs : List UInt8) (k a : Nat) (b : Books) : Option Books := match k with
  | 0 => rest0 bs a b
  | 1 => rest1 bs a b
  | 2 => rest2 bs a b
  | 3 => rest3 bs a b
  | 4 => rest4 bs a b
  | _ => rest5 bs a b
def booksR (bs : List UInt8) : Option Books := rest0 bs 0 zeroB
theorem len_2 {r : List Int} (h : r.length = 2) : ∃ x0 x1, r = [x0, x1] := by
  match r, h with
  | [x0, x1], _ => exact ⟨x0, x1, rfl⟩
theorem len_3 {r : List Int} (h : r.length = 3) : ∃ x0 x1 x2, r = [x0, x1, x2] := by
  match r, h with
  | [x0, x1, x2], _ => exact ⟨x0, x1, x2, rfl⟩
theorem len_5 {r : List Int} (h : r.length = 5) : ∃ x0 x1 x2 x3 x4, r = [x0, x1, x2, x3, x4] := by
  match r, h with
  | [x0, x1, x2, x3, x4], _ => exact ⟨x0, x1, x2, x3, x4, rfl⟩
theorem len_8 {r : List Int} (h : r.length = 8) : ∃ x0 x1 x2 x3 x4 x5 x6 x7, r = [x0, x1, x2, x3, x4, x5, x6, x7] := by
  match r, h with
  | [x0, x1, x2, x3, x4, x5, x6, x7], _ => exact ⟨x0, x1, x2, x3, x4, x5, x6, x7, rfl⟩
theorem row_take {α : Type} (f : List Int → α) (r : List (List Int)) (i : Nat) (hi : i < r.length) : (r.take (i + 1)).map f = (r.take i).map f ++ [f r[i]] := by rw [List.take_succ_eq_append_getElem hi, List.map_append]; rfl
theorem row_len {α : Type} (f : List Int → α) (r : List (List Int)) (i : Nat) (hi : i ≤ r.length) : ((r.take i).map f).length = i := by rw [List.length_map, List.length_take]; omega
theorem c_spec_BooksRead (bs : List UInt8) (hn : bs.length ≤ 1000000000000) (K : AV → AH → Prop) (hk : K (.tup [.agg (booksC ((booksR bs).getD zeroB)), (.one (.c (.bool ((booksR bs).isSome))))]) []) : ACalls Tryz.prog 61 [(.one (.im (bs.map byteC)))] [] K := by
  refine acall_c Tryz.f61.results.toList mixed Tryz.func61 rfl rfl (by kernel_rfl) ?_
  intro Q hQ hQO
  simp only [go_sem]
  (try simp only [go_sem]); repeat' (first | (with_reducible first | refine c_split ?_ ?_ | refine w_split ?_ ?_ | refine tw_split ?_ ?_) <;> intro hb <;> try simp only [go_sem, hb] | (first | with_reducible refine d61_0_LBRead2 (by with_unfolding_all rfl) (by kernel_rfl) ?_ | with_reducible refine d61_1_LBRead2 (by with_unfolding_all rfl) (by kernel_rfl) ?_ | with_reducible refine d61_2_LBRead2 (by with_unfolding_all rfl) (by kernel_rfl) ?_ | with_reducible refine d61_3_LBRead2 (by with_unfolding_all rfl) (by kernel_rfl) ?_ | with_reducible refine d61_4_LBRead2 (by with_unfolding_all rfl) (by kernel_rfl) ?_ | with_reducible refine d61_5_LBRead2 (by with_unfolding_all rfl) (by kernel_rfl) ?_ | fail) <;> try simp only [go_sem] | fail)
  refine while_at (α := Nat × Nat × Books) (fun ⟨k, a, b⟩ => 5 - k) [0, 2, 4, 6, 7] (fun ⟨k, a, b⟩ f h => f 8 = (.one (.c (.int .i64 ((k : Int))))) ∧ f 5 = (.one (.c (.int .i64 ((a : Int))))) ∧ h = [.own 0 31 6 (some 1) [[.nl, .nl, .nl, .nl, .nl, .c (.int .i64 (0))]], .own 0 31 6 (some 1) [[.sl 4 (b.accounts.length) 0 (b.accounts.length), .sl 5 (b.instrs.length) 0 (b.instrs.length), .sl 6 (b.bals.length) 0 (b.bals.length), .sl 7 (b.lots.length) 0 (b.lots.length), .sl 8 (b.trades.length) 0 (b.trades.length), .c (.int .i64 (0))]], .own 0 3 1 (some 5) [[.c (.int .i64 (2))], [.c (.int .i64 (2))], [.c (.int .i64 (3))], [.c (.int .i64 (5))], [.c (.int .i64 (8))]], .own 0 3 1 (some 5) [[.c (.int .i64 (20))], [.c (.int .i64 (8))], [.c (.int .i64 (160))], [.c (.int .i64 (120))], [.c (.int .i64 (30))]], .own (b.accounts.length) 129 2 none ((b.accounts).map accountC), .own (b.instrs.length) 131 2 none ((b.instrs).map accountC), .own (b.bals.length) 134 3 none ((b.bals).map balC), .own (b.lots.length) 137 5 none ((b.lots).map lotC), .own (b.trades.length) 140 8 none ((b.trades).map tradeC)] ∧ k ≤ 5 ∧ a ≤ bs.length ∧ booksR bs = restK bs k a b ∧ (k ≤ 0 → b.accounts = []) ∧ (k ≤ 1 → b.instrs = []) ∧ (k ≤ 2 → b.bals = []) ∧ (k ≤ 3 → b.lots = []) ∧ (k ≤ 4 → b.trades = []) ∧ Small b) (0, 0, zeroB) (GC.step (Ghost.nlc (l := 1) rfl 0 0 rfl rfl 129 2) (GC.step (Ghost.nlc (l := 1) rfl 0 1 rfl rfl 131 2) (GC.step (Ghost.nlc (l := 1) rfl 0 2 rfl rfl 134 3) (GC.step (Ghost.nlc (l := 1) rfl 0 3 rfl rfl 137 5) (GC.step (Ghost.nlc (l := 1) rfl 0 4 rfl rfl 140 8) (GC.now ?_)))))) ?_
  · simp only [go_sem, nc_0, true_and]
    exact ⟨rfl, Nat.zero_le _, rfl, fun _ => rfl, fun _ => rfl, fun _ => rfl, fun _ => rfl, fun _ => rfl, zero_small⟩
  · rintro ⟨k, a, b⟩ f h J hA ⟨e8, e5, rfl, hP⟩ hJ
    simp only [go_sem] at hA
    try dsimp only at hJ
    simp only [go_sem, hA, e8, e5]
    obtain ⟨hk5, ha, hr, q0, q1, q2, q3, q4, hs0, hs1, hs2, hs3, hs4⟩ := hP
    refine c_split (fun hb => ?_) (fun hb => ?_)
    · have hlt : k < 5 := by have := of_decide_eq_true hb; omega
      have hks : k = 0 ∨ k = 1 ∨ k = 2 ∨ k = 3 ∨ k = 4 := by omega
      have hJ1 := hJ
      have hA1 := hA
      have e8a := e8
      have e5a := e5
      clear hJ hb
      rcases hks with rfl | rfl | rfl | rfl | rfl
      · have cR : ∀ K' h0 h1, ACalls Tryz.prog 141 [(.one (.im (bs.map byteC))), (.one (.c (.int .i64 ((a : Int))))), (.one (.c (.int .i64 (2)))), (.one (.c (.int .i64 (20))))] [] K' := fun K' h0 h1 => c_l13Rows bs a 2 20 hn (by decide) (by decide) K' h0 h1
        have hb0 := q0 (Nat.le_refl _)
        have kc : ((0 : Nat) : Int) = 0 := rfl
        have z0 : wrap64 ((0 : Int) + 1) = ((1 : Nat) : Int) := by unfold wrap64; omega
        have z1 : (0 : Int) ≤ 0 := by decide
        have z2 : (0 : Int) < ((5 : Nat) : Int) := by decide
        have z3 : Int.toNat 0 = 0 := rfl
        simp only [restK] at hr
        (try simp only [go_sem, hA, e8, e5, kc, tiO_some, z1, z2, z3]); repeat' (first | (with_reducible first | refine c_split ?_ ?_ | refine w_split ?_ ?_ | refine tw_split ?_ ?_) <;> intro hb <;> try simp only [go_sem, hb, hA, e8, e5, kc, tiO_some, z1, z2, z3] | (first | with_reducible refine d61_0_LBRead2 (by with_unfolding_all rfl) (by kernel_rfl) ?_ | with_reducible refine d61_1_LBRead2 (by with_unfolding_all rfl) (by kernel_rfl) ?_ | with_reducible refine d61_2_LBRead2 (by with_unfolding_all rfl) (by kernel_rfl) ?_ | with_reducible refine d61_3_LBRead2 (by with_unfolding_all rfl) (by kernel_rfl) ?_ | with_reducible refine d61_4_LBRead2 (by with_unfolding_all rfl) (by kernel_rfl) ?_ | with_reducible refine d61_5_LBRead2 (by with_unfolding_all rfl) (by kernel_rfl) ?_ | refine call_c (cR _ (fun hno x => ?_) (fun r m hm => ?_)) | fail) <;> try simp only [go_sem, hA, e8, e5, kc, tiO_some, z1, z2, z3] | fail)
        · have hno2 : booksR bs = none := by rw [hr, rest0, hno]
          rw [hno2] at hk
          (try simp only [go_sem, hA, e8, e5, kc]); repeat' (first | (with_reducible first | refine c_split ?_ ?_ | refine w_split ?_ ?_ | refine tw_split ?_ ?_) <;> intro hb <;> try simp only [go_sem, hb, hA, e8, e5, kc] | (first | with_reducible refine d61_0_LBRead2 (by with_unfolding_all rfl) (by kernel_rfl) ?_ | with_reducible refine d61_1_LBRead2 (by with_unfolding_all rfl) (by kernel_rfl) ?_ | with_reducible refine d61_2_LBRead2 (by with_unfolding_all rfl) (by kernel_rfl) ?_ | with_reducible refine d61_3_LBRead2 (by with_unfolding_all rfl) (by kernel_rfl) ?_ | with_reducible refine d61_4_LBRead2 (by with_unfolding_all rfl) (by kernel_rfl) ?_ | with_reducible refine d61_5_LBRead2 (by with_unfolding_all rfl) (by kernel_rfl) ?_ | fail) <;> try simp only [go_sem, hA, e8, e5, kc] | with_reducible refine hQ _ _ ?_ <;> simp only [Tryz.f61, go_sem, hA, e8, e5, kc])
          exact hk
        have hll := listR_len hm
        rw [rest0, hm] at hr
        simp only at hr
        refine for_at (r.length) [0, 2, 4, 5, 6, 7, 8, 9] (fun i f h => f 12 = (.one (.c (.int .i64 (i)))) ∧ h = [.own 0 31 6 (some 1) [[.nl, .nl, .nl, .nl, .nl, .c (.int .i64 (0))]], .own 0 31 6 (some 1) [[.sl 4 (i) 0 (i), .sl 5 (b.instrs.length) 0 (b.instrs.length), .sl 6 (b.bals.length) 0 (b.bals.length), .sl 7 (b.lots.length) 0 (b.lots.length), .sl 8 (b.trades.length) 0 (b.trades.length), .c (.int .i64 (0))]], .own 0 3 1 (some 5) [[.c (.int .i64 (2))], [.c (.int .i64 (2))], [.c (.int .i64 (3))], [.c (.int .i64 (5))], [.c (.int .i64 (8))]], .own 0 3 1 (some 5) [[.c (.int .i64 (20))], [.c (.int .i64 (8))], [.c (.int .i64 (160))], [.c (.int .i64 (120))], [.c (.int .i64 (30))]], .own (i) 129 2 none (((r.take i).map accR).map accountC), .own (b.instrs.length) 131 2 none ((b.instrs).map accountC), .own (b.bals.length) 134 3 none ((b.bals).map balC), .own (b.lots.length) 137 5 none ((b.lots).map lotC), .own (b.trades.length) 140 8 none ((b.trades).map tradeC)]) (GC.now ?_) ?_
        · simp only [go_sem, nc_0, true_and, hA1, e8a, e5a, kc]
          rw [hb0]; rfl
        · rintro i f h J hi hA ⟨e12, rfl⟩ hJ
          simp only [go_sem, hA1, e8a, e5a, kc] at hA
          simp only [go_sem, hA, e12, hA1, e8a, e5a, kc]
          refine c_split (fun hb => ?_) (fun hb => ?_)
          rotate_left
          · simp only [go_sem, hb, hA, e12, hA1, e8a, e5a, kc]
            obtain rfl := ge_len hb hi
            have htl : r.take r.length = r := List.take_length
            have hml : (r.map accR).length = r.length := List.length_map ..
            refine GC.now (hJ1 (1, m, { b with accounts := r.map accR }) _ _ (by omega) (by simp only [go_sem, hA, hA1, e8a, e5a]) ⟨?_, ?_, ?_, by omega, hll.2.1, hr, fun q => absurd q (by omega), fun _ => q1 (by omega), fun _ => q2 (by omega), fun _ => q3 (by omega), fun _ => q4 (by omega), le_most hml hll.1 (by decide), hs1, hs2, hs3, hs4⟩) <;> try simp only [go_sem, hA, e12, hA1, e8a, e5a, kc, hA, hA1, e8a, e5a, htl, hml, z0]
          have hi := lt_len hb
          have hw := wrap_nat i (by omega)
          have hil : (i : Int) < ((r.length : Nat) : Int) := Int.ofNat_lt.2 hi
          have hg0 : (r)[i]? = some ((r)[i]) := List.getElem?_eq_getElem (by omega)
          simp only [go_sem, hb, hA, e12, hA1, e8a, e5a, kc, hg0]
          try simp only [go_sem, hA, e12, hA1, e8a, e5a, kc, hil, hg0]
          obtain ⟨x0, x1, hx⟩ := len_2 (hll.2.2 r[i] (List.getElem_mem hi))
          have ht := row_take accR r i hi
          have hli := row_len accR r i (Nat.le_of_lt hi)
          have hir := le_1000 hi hll.1 (by decide)
          rw [hx, show accR [x0, x1] = ⟨x0, x1⟩ from rfl] at ht
          (try simp only [go_sem, hA, e12, hA1, e8a, e5a, kc, hil, hg0, hx, kc, Int.reduceToNat, Int.reduceLE]); repeat' (first | (with_reducible first | refine c_split ?_ ?_ | refine w_split ?_ ?_ | refine tw_split ?_ ?_) <;> intro hb <;> try simp only [go_sem, hb, hA, e12, hA1, e8a, e5a, kc, hil, hg0, hx, kc, Int.reduceToNat, Int.reduceLE] | (first | with_reducible refine d61_0_LBRead2 (by with_unfolding_all rfl) (by kernel_rfl) ?_ | with_reducible refine d61_1_LBRead2 (by with_unfolding_all rfl) (by kernel_rfl) ?_ | with_reducible refine d61_2_LBRead2 (by with_unfolding_all rfl) (by kernel_rfl) ?_ | with_reducible refine d61_3_LBRead2 (by with_unfolding_all rfl) (by kernel_rfl) ?_ | with_reducible refine d61_4_LBRead2 (by with_unfolding_all rfl) (by kernel_rfl) ?_ | with_reducible refine d61_5_LBRead2 (by with_unfolding_all rfl) (by kernel_rfl) ?_ | fail) <;> try simp only [go_sem, hA, e12, hA1, e8a, e5a, kc, hil, hg0, hx, kc, Int.reduceToNat, Int.reduceLE] | fail)
          refine ap_end rfl (by rw [List.length_map, hli]) (by exact ap_room (by rw [List.length_map, hli]; exact hir) (Nat.le_of_ble_eq_true rfl) (Nat.le_of_ble_eq_true rfl)) ?_
          (try simp only [go_sem, hA, e12, hA1, e8a, e5a, kc, hil, hg0, hx, hli, kc]); repeat' (first | (with_reducible first | refine c_split ?_ ?_ | refine w_split ?_ ?_ | refine tw_split ?_ ?_) <;> intro hb <;> try simp only [go_sem, hb, hA, e12, hA1, e8a, e5a, kc, hil, hg0, hx, hli, kc] | (first | with_reducible refine d61_0_LBRead2 (by with_unfolding_all rfl) (by kernel_rfl) ?_ | with_reducible refine d61_1_LBRead2 (by with_unfolding_all rfl) (by kernel_rfl) ?_ | with_reducible refine d61_2_LBRead2 (by with_unfolding_all rfl) (by kernel_rfl) ?_ | with_reducible refine d61_3_LBRead2 (by with_unfolding_all rfl) (by kernel_rfl) ?_ | with_reducible refine d61_4_LBRead2 (by with_unfolding_all rfl) (by kernel_rfl) ?_ | with_reducible refine d61_5_LBRead2 (by with_unfolding_all rfl) (by kernel_rfl) ?_ | fail) <;> try simp only [go_sem, hA, e12, hA1, e8a, e5a, kc, hil, hg0, hx, hli, kc] | fail)
          refine gc_trim 9 (by decide) (by simp only [go_sem]) (by simp only [go_sem]) (hJ _ _ hi (by simp only [go_sem, hA, e12, hA1, e8a, e5a, kc]) ⟨?_, ?_⟩) <;> try simp only [go_sem, hA, e12, hA1, e8a, e5a, kc, hw, ht, hli]
      · have cR : ∀ K' h0 h1, ACalls Tryz.prog 141 [(.one (.im (bs.map byteC))), (.one (.c (.int .i64 ((a : Int))))), (.one (.c (.int .i64 (2)))), (.one (.c (.int .i64 (8))))] [] K' := fun K' h0 h1 => c_l13Rows bs a 2 8 hn (by decide) (by decide) K' h0 h1
        have hb0 := q1 (Nat.le_refl _)
        have kc : ((1 : Nat) : Int) = 1 := rfl
        have z0 : wrap64 ((1 : Int) + 1) = ((2 : Nat) : Int) := by unfold wrap64; omega
        have z1 : (0 : Int) ≤ 1 := by decide
        have z2 : (1 : Int) < ((5 : Nat) : Int) := by decide
        have z3 : Int.toNat 1 = 1 := rfl
        simp only [restK] at hr
        (try simp only [go_sem, hA, e8, e5, kc, tiO_some, z1, z2, z3]); repeat' (first | (with_reducible first | refine c_split ?_ ?_ | refine w_split ?_ ?_ | refine tw_split ?_ ?_) <;> intro hb <;> try simp only [go_sem, hb, hA, e8, e5, kc, tiO_some, z1, z2, z3] | (first | with_reducible refine d61_0_LBRead2 (by with_unfolding_all rfl) (by kernel_rfl) ?_ | with_reducible refine d61_1_LBRead2 (by with_unfolding_all rfl) (by kernel_rfl) ?_ | with_reducible refine d61_2_LBRead2 (by with_unfolding_all rfl) (by kernel_rfl) ?_ | with_reducible refine d61_3_LBRead2 (by with_unfolding_all rfl) (by kernel_rfl) ?_ | with_reducible refine d61_4_LBRead2 (by with_unfolding_all rfl) (by kernel_rfl) ?_ | with_reducible refine d61_5_LBRead2 (by with_unfolding_all rfl) (by kernel_rfl) ?_ | refine call_c (cR _ (fun hno x => ?_) (fun r m hm => ?_)) | fail) <;> try simp only [go_sem, hA, e8, e5, kc, tiO_some, z1, z2, z3] | fail)
        · have hno2 : booksR bs = none := by rw [hr, rest1, hno]
          rw [hno2] at hk
          (try simp only [go_sem, hA, e8, e5, kc]); repeat' (first | (with_reducible first | refine c_split ?_ ?_ | refine w_split ?_ ?_ | refine tw_split ?_ ?_) <;> intro hb <;> try simp only [go_sem, hb, hA, e8, e5, kc] | (first | with_reducible refine d61_0_LBRead2 (by with_unfolding_all rfl) (by kernel_rfl) ?_ | with_reducible refine d61_1_LBRead2 (by with_unfolding_all rfl) (by kernel_rfl) ?_ | with_reducible refine d61_2_LBRead2 (by with_unfolding_all rfl) (by kernel_rfl) ?_ | with_reducible refine d61_3_LBRead2 (by with_unfolding_all rfl) (by kernel_rfl) ?_ | with_reducible refine d61_4_LBRead2 (by with_unfolding_all rfl) (by kernel_rfl) ?_ | with_reducible refine d61_5_LBRead2 (by with_unfolding_all rfl) (by kernel_rfl) ?_ | fail) <;> try simp only [go_sem, hA, e8, e5, kc] | with_reducible refine hQ _ _ ?_ <;> simp only [Tryz.f61, go_sem, hA, e8, e5, kc])
          exact hk
        have hll := listR_len hm
        rw [rest1, hm] at hr
        simp only at hr
        refine for_at (r.length) [0, 2, 4, 5, 6, 7, 8, 9] (fun i f h => f 12 = (.one (.c (.int .i64 (i)))) ∧ h = [.own 0 31 6 (some 1) [[.nl, .nl, .nl, .nl, .nl, .c (.int .i64 (0))]], .own 0 31 6 (some 1) [[.sl 4 (b.accounts.length) 0 (b.accounts.length), .sl 5 (i) 0 (i), .sl 6 (b.bals.length) 0 (b.bals.length), .sl 7 (b.lots.length) 0 (b.lots.length), .sl 8 (b.trades.length) 0 (b.trades.length), .c (.int .i64 (0))]], .own 0 3 1 (some 5) [[.c (.int .i64 (2))], [.c (.int .i64 (2))], [.c (.int .i64 (3))], [.c (.int .i64 (5))], [.c (.int .i64 (8))]], .own 0 3 1 (some 5) [[.c (.int .i64 (20))], [.c (.int .i64 (8))], [.c (.int .i64 (160))], [.c (.int .i64 (120))], [.c (.int .i64 (30))]], .own (b.accounts.length) 129 2 none ((b.accounts).map accountC), .own (i) 131 2 none (((r.take i).map accR).map accountC), .own (b.bals.length) 134 3 none ((b.bals).map balC), .own (b.lots.length) 137 5 none ((b.lots).map lotC), .own (b.trades.length) 140 8 none ((b.trades).map tradeC)]) (GC.now ?_) ?_
        · simp only [go_sem, nc_0, true_and, hA1, e8a, e5a, kc]
          rw [hb0]; rfl
        · rintro i f h J hi hA ⟨e12, rfl⟩ hJ
          simp only [go_sem, hA1, e8a, e5a, kc] at hA
          simp only [go_sem, hA, e12, hA1, e8a, e5a, kc]
          refine c_split (fun hb => ?_) (fun hb => ?_)
          rotate_left
          · simp only [go_sem, hb, hA, e12, hA1, e8a, e5a, kc]
            obtain rfl := ge_len hb hi
            have htl : r.take r.length = r := List.take_length
            have hml : (r.map accR).length = r.length := List.length_map ..
            refine GC.now (hJ1 (2, m, { b with instrs := r.map accR }) _ _ (by omega) (by simp only [go_sem, hA, hA1, e8a, e5a]) ⟨?_, ?_, ?_, by omega, hll.2.1, hr, fun q => absurd q (by omega), fun q => absurd q (by omega), fun _ => q2 (by omega), fun _ => q3 (by omega), fun _ => q4 (by omega), hs0, le_most hml hll.1 (by decide), hs2, hs3, hs4⟩) <;> try simp only [go_sem, hA, e12, hA1, e8a, e5a, kc, hA, hA1, e8a, e5a, htl, hml, z0]
          have hi := lt_len hb
          have hw := wrap_nat i (by omega)
          have hil : (i : Int) < ((r.length : Nat) : Int) := Int.ofNat_lt.2 hi
          have hg0 : (r)[i]? = some ((r)[i]) := List.getElem?_eq_getElem (by omega)
          simp only [go_sem, hb, hA, e12, hA1, e8a, e5a, kc, hg0]
          try simp only [go_sem, hA, e12, hA1, e8a, e5a, kc, hil, hg0]
          obtain ⟨x0, x1, hx⟩ := len_2 (hll.2.2 r[i] (List.getElem_mem hi))
          have ht := row_take accR r i hi
          have hli := row_len accR r i (Nat.le_of_lt hi)
          have hir := le_1000 hi hll.1 (by decide)
          rw [hx, show accR [x0, x1] = ⟨x0, x1⟩ from rfl] at ht
          (try simp only [go_sem, hA, e12, hA1, e8a, e5a, kc, hil, hg0, hx, kc, Int.reduceToNat, Int.reduceLE]); repeat' (first | (with_reducible first | refine c_split ?_ ?_ | refine w_split ?_ ?_ | refine tw_split ?_ ?_) <;> intro hb <;> try simp only [go_sem, hb, hA, e12, hA1, e8a, e5a, kc, hil, hg0, hx, kc, Int.reduceToNat, Int.reduceLE] | (first | with_reducible refine d61_0_LBRead2 (by with_unfolding_all rfl) (by kernel_rfl) ?_ | with_reducible refine d61_1_LBRead2 (by with_unfolding_all rfl) (by kernel_rfl) ?_ | with_reducible refine d61_2_LBRead2 (by with_unfolding_all rfl) (by kernel_rfl) ?_ | with_reducible refine d61_3_LBRead2 (by with_unfolding_all rfl) (by kernel_rfl) ?_ | with_reducible refine d61_4_LBRead2 (by with_unfolding_all rfl) (by kernel_rfl) ?_ | with_reducible refine d61_5_LBRead2 (by with_unfolding_all rfl) (by kernel_rfl) ?_ | fail) <;> try simp only [go_sem, hA, e12, hA1, e8a, e5a, kc, hil, hg0, hx, kc, Int.reduceToNat, Int.reduceLE] | fail)
          refine ap_end rfl (by rw [List.length_map, hli]) (by exact ap_room (by rw [List.length_map, hli]; exact hir) (Nat.le_of_ble_eq_true rfl) (Nat.le_of_ble_eq_true rfl)) ?_
          (try simp only [go_sem, hA, e12, hA1, e8a, e5a, kc, hil, hg0, hx, hli, kc]); repeat' (first | (with_reducible first | refine c_split ?_ ?_ | refine w_split ?_ ?_ | refine tw_split ?_ ?_) <;> intro hb <;> try simp only [go_sem, hb, hA, e12, hA1, e8a, e5a, kc, hil, hg0, hx, hli, kc] | (first | with_reducible refine d61_0_LBRead2 (by with_unfolding_all rfl) (by kernel_rfl) ?_ | with_reducible refine d61_1_LBRead2 (by with_unfolding_all rfl) (by kernel_rfl) ?_ | with_reducible refine d61_2_LBRead2 (by with_unfolding_all rfl) (by kernel_rfl) ?_ | with_reducible refine d61_3_LBRead2 (by with_unfolding_all rfl) (by kernel_rfl) ?_ | with_reducible refine d61_4_LBRead2 (by with_unfolding_all rfl) (by kernel_rfl) ?_ | with_reducible refine d61_5_LBRead2 (by with_unfolding_all rfl) (by kernel_rfl) ?_ | fail) <;> try simp only [go_sem, hA, e12, hA1, e8a, e5a, kc, hil, hg0, hx, hli, kc] | fail)
          refine gc_trim 9 (by decide) (by simp only [go_sem]) (by simp only [go_sem]) (hJ _ _ hi (by simp only [go_sem, hA, e12, hA1, e8a, e5a, kc]) ⟨?_, ?_⟩) <;> try simp only [go_sem, hA, e12, hA1, e8a, e5a, kc, hw, ht, hli]
      · have cR : ∀ K' h0 h1, ACalls Tryz.prog 141 [(.one (.im (bs.map byteC))), (.one (.c (.int .i64 ((a : Int))))), (.one (.c (.int .i64 (3)))), (.one (.c (.int .i64 (160))))] [] K' := fun K' h0 h1 => c_l13Rows bs a 3 160 hn (by decide) (by decide) K' h0 h1
        have hb0 := q2 (Nat.le_refl _)
        have kc : ((2 : Nat) : Int) = 2 := rfl
        have z0 : wrap64 ((2 : Int) + 1) = ((3 : Nat) : Int) := by unfold wrap64; omega
        have z1 : (0 : Int) ≤ 2 := by decide
        have z2 : (2 : Int) < ((5 : Nat) : Int) := by decide
        have z3 : Int.toNat 2 = 2 := rfl
        simp only [restK] at hr
        (try simp only [go_sem, hA, e8, e5, kc, tiO_some, z1, z2, z3]); repeat' (first | (with_reducible first | refine c_split ?_ ?_ | refine w_split ?_ ?_ | refine tw_split ?_ ?_) <;> intro hb <;> try simp only [go_sem, hb, hA, e8, e5, kc, tiO_some, z1, z2, z3] | (first | with_reducible refine d61_0_LBRead2 (by with_unfolding_all rfl) (by kernel_rfl) ?_ | with_reducible refine d61_1_LBRead2 (by with_unfolding_all rfl) (by kernel_rfl) ?_ | with_reducible refine d61_2_LBRead2 (by with_unfolding_all rfl) (by kernel_rfl) ?_ | with_reducible refine d61_3_LBRead2 (by with_unfolding_all rfl) (by kernel_rfl) ?_ | with_reducible refine d61_4_LBRead2 (by with_unfolding_all rfl) (by kernel_rfl) ?_ | with_reducible refine d61_5_LBRead2 (by with_unfolding_all rfl) (by kernel_rfl) ?_ | refine call_c (cR _ (fun hno x => ?_) (fun r m hm => ?_)) | fail) <;> try simp only [go_sem, hA, e8, e5, kc, tiO_some, z1, z2, z3] | fail)
        · have hno2 : booksR bs = none := by rw [hr, rest2, hno]
          rw [hno2] at hk
          (try simp only [go_sem, hA, e8, e5, kc]); repeat' (first | (with_reducible first | refine c_split ?_ ?_ | refine w_split ?_ ?_ | refine tw_split ?_ ?_) <;> intro hb <;> try simp only [go_sem, hb, hA, e8, e5, kc] | (first | with_reducible refine d61_0_LBRead2 (by with_unfolding_all rfl) (by kernel_rfl) ?_ | with_reducible refine d61_1_LBRead2 (by with_unfolding_all rfl) (by kernel_rfl) ?_ | with_reducible refine d61_2_LBRead2 (by with_unfolding_all rfl) (by kernel_rfl) ?_ | with_reducible refine d61_3_LBRead2 (by with_unfolding_all rfl) (by kernel_rfl) ?_ | with_reducible refine d61_4_LBRead2 (by with_unfolding_all rfl) (by kernel_rfl) ?_ | with_reducible refine d61_5_LBRead2 (by with_unfolding_all rfl) (by kernel_rfl) ?_ | fail) <;> try simp only [go_sem, hA, e8, e5, kc] | with_reducible refine hQ _ _ ?_ <;> simp only [Tryz.f61, go_sem, hA, e8, e5, kc])
          exact hk
        have hll := listR_len hm
        rw [rest2, hm] at hr
        simp only at hr
        refine for_at (r.length) [0, 2, 4, 5, 6, 7, 8, 9] (fun i f h => f 12 = (.one (.c (.int .i64 (i)))) ∧ h = [.own 0 31 6 (some 1) [[.nl, .nl, .nl, .nl, .nl, .c (.int .i64 (0))]], .own 0 31 6 (some 1) [[.sl 4 (b.accounts.length) 0 (b.accounts.length), .sl 5 (b.instrs.length) 0 (b.instrs.length), .sl 6 (i) 0 (i), .sl 7 (b.lots.length) 0 (b.lots.length), .sl 8 (b.trades.length) 0 (b.trades.length), .c (.int .i64 (0))]], .own 0 3 1 (some 5) [[.c (.int .i64 (2))], [.c (.int .i64 (2))], [.c (.int .i64 (3))], [.c (.int .i64 (5))], [.c (.int .i64 (8))]], .own 0 3 1 (some 5) [[.c (.int .i64 (20))], [.c (.int .i64 (8))], [.c (.int .i64 (160))], [.c (.int .i64 (120))], [.c (.int .i64 (30))]], .own (b.accounts.length) 129 2 none ((b.accounts).map accountC), .own (b.instrs.length) 131 2 none ((b.instrs).map accountC), .own (i) 134 3 none (((r.take i).map balR).map balC), .own (b.lots.length) 137 5 none ((b.lots).map lotC), .own (b.trades.length) 140 8 none ((b.trades).map tradeC)]) (GC.now ?_) ?_
        · simp only [go_sem, nc_0, true_and, hA1, e8a, e5a, kc]
          rw [hb0]; rfl
        · rintro i f h J hi hA ⟨e12, rfl⟩ hJ
          simp only [go_sem, hA1, e8a, e5a, kc] at hA
          simp only [go_sem, hA, e12, hA1, e8a, e5a, kc]
          refine c_split (fun hb => ?_) (fun hb => ?_)
          rotate_left
          · simp only [go_sem, hb, hA, e12, hA1, e8a, e5a, kc]
            obtain rfl := ge_len hb hi
            have htl : r.take r.length = r := List.take_length
            have hml : (r.map balR).length = r.length := List.length_map ..
            refine GC.now (hJ1 (3, m, { b with bals := r.map balR }) _ _ (by omega) (by simp only [go_sem, hA, hA1, e8a, e5a]) ⟨?_, ?_, ?_, by omega, hll.2.1, hr, fun q => absurd q (by omega), fun q => absurd q (by omega), fun q => absurd q (by omega), fun _ => q3 (by omega), fun _ => q4 (by omega), hs0, hs1, le_most hml hll.1 (by decide), hs3, hs4⟩) <;> try simp only [go_sem, hA, e12, hA1, e8a, e5a, kc, hA, hA1, e8a, e5a, htl, hml, z0]
          have hi := lt_len hb
          have hw := wrap_nat i (by omega)
          have hil : (i : Int) < ((r.length : Nat) : Int) := Int.ofNat_lt.2 hi
          have hg0 : (r)[i]? = some ((r)[i]) := List.getElem?_eq_getElem (by omega)
          simp only [go_sem, hb, hA, e12, hA1, e8a, e5a, kc, hg0]
          try simp only [go_sem, hA, e12, hA1, e8a, e5a, kc, hil, hg0]
          obtain ⟨x0, x1, x2, hx⟩ := len_3 (hll.2.2 r[i] (List.getElem_mem hi))
          have ht := row_take balR r i hi
          have hli := row_len balR r i (Nat.le_of_lt hi)
          have hir := le_1000 hi hll.1 (by decide)
          rw [hx, show balR [x0, x1, x2] = ⟨x0, x1, wrap64 (x2 - 1000000000000000)⟩ from rfl] at ht
          (try simp only [go_sem, hA, e12, hA1, e8a, e5a, kc, hil, hg0, hx, kc, Int.reduceToNat, Int.reduceLE]); repeat' (first | (with_reducible first | refine c_split ?_ ?_ | refine w_split ?_ ?_ | refine tw_split ?_ ?_) <;> intro hb <;> try simp only [go_sem, hb, hA, e12, hA1, e8a, e5a, kc, hil, hg0, hx, kc, Int.reduceToNat, Int.reduceLE] | (first | with_reducible refine d61_0_LBRead2 (by with_unfolding_all rfl) (by kernel_rfl) ?_ | with_reducible refine d61_1_LBRead2 (by with_unfolding_all rfl) (by kernel_rfl) ?_ | with_reducible refine d61_2_LBRead2 (by with_unfolding_all rfl) (by kernel_rfl) ?_ | with_reducible refine d61_3_LBRead2 (by with_unfolding_all rfl) (by kernel_rfl) ?_ | with_reducible refine d61_4_LBRead2 (by with_unfolding_all rfl) (by kernel_rfl) ?_ | with_reducible refine d61_5_LBRead2 (by with_unfolding_all rfl) (by kernel_rfl) ?_ | fail) <;> try simp only [go_sem, hA, e12, hA1, e8a, e5a, kc, hil, hg0, hx, kc, Int.reduceToNat, Int.reduceLE] | fail)
          refine ap_end rfl (by rw [List.length_map, hli]) (by exact ap_room (by rw [List.length_map, hli]; exact hir) (Nat.le_of_ble_eq_true rfl) (Nat.le_of_ble_eq_true rfl)) ?_
          (try simp only [go_sem, hA, e12, hA1, e8a, e5a, kc, hil, hg0, hx, hli, kc]); repeat' (first | (with_reducible first | refine c_split ?_ ?_ | refine w_split ?_ ?_ | refine tw_split ?_ ?_) <;> intro hb <;> try simp only [go_sem, hb, hA, e12, hA1, e8a, e5a, kc, hil, hg0, hx, hli, kc] | (first | with_reducible refine d61_0_LBRead2 (by with_unfolding_all rfl) (by kernel_rfl) ?_ | with_reducible refine d61_1_LBRead2 (by with_unfolding_all rfl) (by kernel_rfl) ?_ | with_reducible refine d61_2_LBRead2 (by with_unfolding_all rfl) (by kernel_rfl) ?_ | with_reducible refine d61_3_LBRead2 (by with_unfolding_all rfl) (by kernel_rfl) ?_ | with_reducible refine d61_4_LBRead2 (by with_unfolding_all rfl) (by kernel_rfl) ?_ | with_reducible refine d61_5_LBRead2 (by with_unfolding_all rfl) (by kernel_rfl) ?_ | fail) <;> try simp only [go_sem, hA, e12, hA1, e8a, e5a, kc, hil, hg0, hx, hli, kc] | fail)
          refine gc_trim 9 (by decide) (by simp only [go_sem]) (by simp only [go_sem]) (hJ _ _ hi (by simp only [go_sem, hA, e12, hA1, e8a, e5a, kc]) ⟨?_, ?_⟩) <;> try simp only [go_sem, hA, e12, hA1, e8a, e5a, kc, hw, ht, hli]
      · have cR : ∀ K' h0 h1, ACalls Tryz.prog 141 [(.one (.im (bs.map byteC))), (.one (.c (.int .i64 ((a : Int))))), (.one (.c (.int .i64 (5)))), (.one (.c (.int .i64 (120))))] [] K' := fun K' h0 h1 => c_l13Rows bs a 5 120 hn (by decide) (by decide) K' h0 h1
        have hb0 := q3 (Nat.le_refl _)
        have kc : ((3 : Nat) : Int) = 3 := rfl
        have z0 : wrap64 ((3 : Int) + 1) = ((4 : Nat) : Int) := by unfold wrap64; omega
        have z1 : (0 : Int) ≤ 3 := by decide
        have z2 : (3 : Int) < ((5 : Nat) : Int) := by decide
        have z3 : Int.toNat 3 = 3 := rfl
        simp only [restK] at hr
        (try simp only [go_sem, hA, e8, e5, kc, tiO_some, z1, z2, z3]); repeat' (first | (with_reducible first | refine c_split ?_ ?_ | refine w_split ?_ ?_ | refine tw_split ?_ ?_) <;> intro hb <;> try simp only [go_sem, hb, hA, e8, e5, kc, tiO_some, z1, z2, z3] | (first | with_reducible refine d61_0_LBRead2 (by with_unfolding_all rfl) (by kernel_rfl) ?_ | with_reducible refine d61_1_LBRead2 (by with_unfolding_all rfl) (by kernel_rfl) ?_ | with_reducible refine d61_2_LBRead2 (by with_unfolding_all rfl) (by kernel_rfl) ?_ | with_reducible refine d61_3_LBRead2 (by with_unfolding_all rfl) (by kernel_rfl) ?_ | with_reducible refine d61_4_LBRead2 (by with_unfolding_all rfl) (by kernel_rfl) ?_ | with_reducible refine d61_5_LBRead2 (by with_unfolding_all rfl) (by kernel_rfl) ?_ | refine call_c (cR _ (fun hno x => ?_) (fun r m hm => ?_)) | fail) <;> try simp only [go_sem, hA, e8, e5, kc, tiO_some, z1, z2, z3] | fail)
        · have hno2 : booksR bs = none := by rw [hr, rest3, hno]
          rw [hno2] at hk
          (try simp only [go_sem, hA, e8, e5, kc]); repeat' (first | (with_reducible first | refine c_split ?_ ?_ | refine w_split ?_ ?_ | refine tw_split ?_ ?_) <;> intro hb <;> try simp only [go_sem, hb, hA, e8, e5, kc] | (first | with_reducible refine d61_0_LBRead2 (by with_unfolding_all rfl) (by kernel_rfl) ?_ | with_reducible refine d61_1_LBRead2 (by with_unfolding_all rfl) (by kernel_rfl) ?_ | with_reducible refine d61_2_LBRead2 (by with_unfolding_all rfl) (by kernel_rfl) ?_ | with_reducible refine d61_3_LBRead2 (by with_unfolding_all rfl) (by kernel_rfl) ?_ | with_reducible refine d61_4_LBRead2 (by with_unfolding_all rfl) (by kernel_rfl) ?_ | with_reducible refine d61_5_LBRead2 (by with_unfolding_all rfl) (by kernel_rfl) ?_ | fail) <;> try simp only [go_sem, hA, e8, e5, kc] | with_reducible refine hQ _ _ ?_ <;> simp only [Tryz.f61, go_sem, hA, e8, e5, kc])
          exact hk
        have hll := listR_len hm
        rw [rest3, hm] at hr
        simp only at hr
        refine for_at (r.length) [0, 2, 4, 5, 6, 7, 8, 9] (fun i f h => f 12 = (.one (.c (.int .i64 (i)))) ∧ h = [.own 0 31 6 (some 1) [[.nl, .nl, .nl, .nl, .nl, .c (.int .i64 (0))]], .own 0 31 6 (some 1) [[.sl 4 (b.accounts.length) 0 (b.accounts.length), .sl 5 (b.instrs.length) 0 (b.instrs.length), .sl 6 (b.bals.length) 0 (b.bals.length), .sl 7 (i) 0 (i), .sl 8 (b.trades.length) 0 (b.trades.length), .c (.int .i64 (0))]], .own 0 3 1 (some 5) [[.c (.int .i64 (2))], [.c (.int .i64 (2))], [.c (.int .i64 (3))], [.c (.int .i64 (5))], [.c (.int .i64 (8))]], .own 0 3 1 (some 5) [[.c (.int .i64 (20))], [.c (.int .i64 (8))], [.c (.int .i64 (160))], [.c (.int .i64 (120))], [.c (.int .i64 (30))]], .own (b.accounts.length) 129 2 none ((b.accounts).map accountC), .own (b.instrs.length) 131 2 none ((b.instrs).map accountC), .own (b.bals.length) 134 3 none ((b.bals).map balC), .own (i) 137 5 none (((r.take i).map lotR).map lotC), .own (b.trades.length) 140 8 none ((b.trades).map tradeC)]) (GC.now ?_) ?_
        · simp only [go_sem, nc_0, true_and, hA1, e8a, e5a, kc]
          rw [hb0]; rfl
        · rintro i f h J hi hA ⟨e12, rfl⟩ hJ
          simp only [go_sem, hA1, e8a, e5a, kc] at hA
          simp only [go_sem, hA, e12, hA1, e8a, e5a, kc]
          refine c_split (fun hb => ?_) (fun hb => ?_)
          rotate_left
          · simp only [go_sem, hb, hA, e12, hA1, e8a, e5a, kc]
            obtain rfl := ge_len hb hi
            have htl : r.take r.length = r := List.take_length
            have hml : (r.map lotR).length = r.length := List.length_map ..
            refine GC.now (hJ1 (4, m, { b with lots := r.map lotR }) _ _ (by omega) (by simp only [go_sem, hA, hA1, e8a, e5a]) ⟨?_, ?_, ?_, by omega, hll.2.1, hr, fun q => absurd q (by omega), fun q => absurd q (by omega), fun q => absurd q (by omega), fun q => absurd q (by omega), fun _ => q4 (by omega), hs0, hs1, hs2, le_most hml hll.1 (by decide), hs4⟩) <;> try simp only [go_sem, hA, e12, hA1, e8a, e5a, kc, hA, hA1, e8a, e5a, htl, hml, z0]
          have hi := lt_len hb
          have hw := wrap_nat i (by omega)
          have hil : (i : Int) < ((r.length : Nat) : Int) := Int.ofNat_lt.2 hi
          have hg0 : (r)[i]? = some ((r)[i]) := List.getElem?_eq_getElem (by omega)
          simp only [go_sem, hb, hA, e12, hA1, e8a, e5a, kc, hg0]
          try simp only [go_sem, hA, e12, hA1, e8a, e5a, kc, hil, hg0]
          obtain ⟨x0, x1, x2, x3, x4, hx⟩ := len_5 (hll.2.2 r[i] (List.getElem_mem hi))
          have ht := row_take lotR r i hi
          have hli := row_len lotR r i (Nat.le_of_lt hi)
          have hir := le_1000 hi hll.1 (by decide)
          rw [hx, show lotR [x0, x1, x2, x3, x4] = ⟨x0, x1, x2, x3, x4⟩ from rfl] at ht
          (try simp only [go_sem, hA, e12, hA1, e8a, e5a, kc, hil, hg0, hx, kc, Int.reduceToNat, Int.reduceLE]); repeat' (first | (with_reducible first | refine c_split ?_ ?_ | refine w_split ?_ ?_ | refine tw_split ?_ ?_) <;> intro hb <;> try simp only [go_sem, hb, hA, e12, hA1, e8a, e5a, kc, hil, hg0, hx, kc, Int.reduceToNat, Int.reduceLE] | (first | with_reducible refine d61_0_LBRead2 (by with_unfolding_all rfl) (by kernel_rfl) ?_ | with_reducible refine d61_1_LBRead2 (by with_unfolding_all rfl) (by kernel_rfl) ?_ | with_reducible refine d61_2_LBRead2 (by with_unfolding_all rfl) (by kernel_rfl) ?_ | with_reducible refine d61_3_LBRead2 (by with_unfolding_all rfl) (by kernel_rfl) ?_ | with_reducible refine d61_4_LBRead2 (by with_unfolding_all rfl) (by kernel_rfl) ?_ | with_reducible refine d61_5_LBRead2 (by with_unfolding_all rfl) (by kernel_rfl) ?_ | fail) <;> try simp only [go_sem, hA, e12, hA1, e8a, e5a, kc, hil, hg0, hx, kc, Int.reduceToNat, Int.reduceLE] | fail)
          refine ap_end rfl (by rw [List.length_map, hli]) (by exact ap_room (by rw [List.length_map, hli]; exact hir) (Nat.le_of_ble_eq_true rfl) (Nat.le_of_ble_eq_true rfl)) ?_
          (try simp only [go_sem, hA, e12, hA1, e8a, e5a, kc, hil, hg0, hx, hli, kc]); repeat' (first | (with_reducible first | refine c_split ?_ ?_ | refine w_split ?_ ?_ | refine tw_split ?_ ?_) <;> intro hb <;> try simp only [go_sem, hb, hA, e12, hA1, e8a, e5a, kc, hil, hg0, hx, hli, kc] | (first | with_reducible refine d61_0_LBRead2 (by with_unfolding_all rfl) (by kernel_rfl) ?_ | with_reducible refine d61_1_LBRead2 (by with_unfolding_all rfl) (by kernel_rfl) ?_ | with_reducible refine d61_2_LBRead2 (by with_unfolding_all rfl) (by kernel_rfl) ?_ | with_reducible refine d61_3_LBRead2 (by with_unfolding_all rfl) (by kernel_rfl) ?_ | with_reducible refine d61_4_LBRead2 (by with_unfolding_all rfl) (by kernel_rfl) ?_ | with_reducible refine d61_5_LBRead2 (by with_unfolding_all rfl) (by kernel_rfl) ?_ | fail) <;> try simp only [go_sem, hA, e12, hA1, e8a, e5a, kc, hil, hg0, hx, hli, kc] | fail)
          refine gc_trim 9 (by decide) (by simp only [go_sem]) (by simp only [go_sem]) (hJ _ _ hi (by simp only [go_sem, hA, e12, hA1, e8a, e5a, kc]) ⟨?_, ?_⟩) <;> try simp only [go_sem, hA, e12, hA1, e8a, e5a, kc, hw, ht, hli]
      · have cR : ∀ K' h0 h1, ACalls Tryz.prog 141 [(.one (.im (bs.map byteC))), (.one (.c (.int .i64 ((a : Int))))), (.one (.c (.int .i64 (8)))), (.one (.c (.int .i64 (30))))] [] K' := fun K' h0 h1 => c_l13Rows bs a 8 30 hn (by decide) (by decide) K' h0 h1
        have hb0 := q4 (Nat.le_refl _)
        have kc : ((4 : Nat) : Int) = 4 := rfl
        have z0 : wrap64 ((4 : Int) + 1) = ((5 : Nat) : Int) := by unfold wrap64; omega
        have z1 : (0 : Int) ≤ 4 := by decide
        have z2 : (4 : Int) < ((5 : Nat) : Int) := by decide
        have z3 : Int.toNat 4 = 4 := rfl
        simp only [restK] at hr
        (try simp only [go_sem, hA, e8, e5, kc, tiO_some, z1, z2, z3]); repeat' (first | (with_reducible first | refine c_split ?_ ?_ | refine w_split ?_ ?_ | refine tw_split ?_ ?_) <;> intro hb <;> try simp only [go_sem, hb, hA, e8, e5, kc, tiO_some, z1, z2, z3] | (first | with_reducible refine d61_0_LBRead2 (by with_unfolding_all rfl) (by kernel_rfl) ?_ | with_reducible refine d61_1_LBRead2 (by with_unfolding_all rfl) (by kernel_rfl) ?_ | with_reducible refine d61_2_LBRead2 (by with_unfolding_all rfl) (by kernel_rfl) ?_ | with_reducible refine d61_3_LBRead2 (by with_unfolding_all rfl) (by kernel_rfl) ?_ | with_reducible refine d61_4_LBRead2 (by with_unfolding_all rfl) (by kernel_rfl) ?_ | with_reducible refine d61_5_LBRead2 (by with_unfolding_all rfl) (by kernel_rfl) ?_ | refine call_c (cR _ (fun hno x => ?_) (fun r m hm => ?_)) | fail) <;> try simp only [go_sem, hA, e8, e5, kc, tiO_some, z1, z2, z3] | fail)
        · have hno2 : booksR bs = none := by rw [hr, rest4, hno]
          rw [hno2] at hk
          (try simp only [go_sem, hA, e8, e5, kc]); repeat' (first | (with_reducible first | refine c_split ?_ ?_ | refine w_split ?_ ?_ | refine tw_split ?_ ?_) <;> intro hb <;> try simp only [go_sem, hb, hA, e8, e5, kc] | (first | with_reducible refine d61_0_LBRead2 (by with_unfolding_all rfl) (by kernel_rfl) ?_ | with_reducible refine d61_1_LBRead2 (by with_unfolding_all rfl) (by kernel_rfl) ?_ | with_reducible refine d61_2_LBRead2 (by with_unfolding_all rfl) (by kernel_rfl) ?_ | with_reducible refine d61_3_LBRead2 (by with_unfolding_all rfl) (by kernel_rfl) ?_ | with_reducible refine d61_4_LBRead2 (by with_unfolding_all rfl) (by kernel_rfl) ?_ | with_reducible refine d61_5_LBRead2 (by with_unfolding_all rfl) (by kernel_rfl) ?_ | fail) <;> try simp only [go_sem, hA, e8, e5, kc] | with_reducible refine hQ _ _ ?_ <;> simp only [Tryz.f61, go_sem, hA, e8, e5, kc])
          exact hk
        have hll := listR_len hm
        rw [rest4, hm] at hr
        simp only at hr
        refine for_at (r.length) [0, 2, 4, 5, 6, 7, 8, 9] (fun i f h => f 12 = (.one (.c (.int .i64 (i)))) ∧ h = [.own 0 31 6 (some 1) [[.nl, .nl, .nl, .nl, .nl, .c (.int .i64 (0))]], .own 0 31 6 (some 1) [[.sl 4 (b.accounts.length) 0 (b.accounts.length), .sl 5 (b.instrs.length) 0 (b.instrs.length), .sl 6 (b.bals.length) 0 (b.bals.length), .sl 7 (b.lots.length) 0 (b.lots.length), .sl 8 (i) 0 (i), .c (.int .i64 (0))]], .own 0 3 1 (some 5) [[.c (.int .i64 (2))], [.c (.int .i64 (2))], [.c (.int .i64 (3))], [.c (.int .i64 (5))], [.c (.int .i64 (8))]], .own 0 3 1 (some 5) [[.c (.int .i64 (20))], [.c (.int .i64 (8))], [.c (.int .i64 (160))], [.c (.int .i64 (120))], [.c (.int .i64 (30))]], .own (b.accounts.length) 129 2 none ((b.accounts).map accountC), .own (b.instrs.length) 131 2 none ((b.instrs).map accountC), .own (b.bals.length) 134 3 none ((b.bals).map balC), .own (b.lots.length) 137 5 none ((b.lots).map lotC), .own (i) 140 8 none (((r.take i).map trdR).map tradeC)]) (GC.now ?_) ?_
        · simp only [go_sem, nc_0, true_and, hA1, e8a, e5a, kc]
          rw [hb0]; rfl
        · rintro i f h J hi hA ⟨e12, rfl⟩ hJ
          simp only [go_sem, hA1, e8a, e5a, kc] at hA
          simp only [go_sem, hA, e12, hA1, e8a, e5a, kc]
          refine c_split (fun hb => ?_) (fun hb => ?_)
          rotate_left
          · simp only [go_sem, hb, hA, e12, hA1, e8a, e5a, kc]
            obtain rfl := ge_len hb hi
            have htl : r.take r.length = r := List.take_length
            have hml : (r.map trdR).length = r.length := List.length_map ..
            refine GC.now (hJ1 (5, m, { b with trades := r.map trdR }) _ _ (by omega) (by simp only [go_sem, hA, hA1, e8a, e5a]) ⟨?_, ?_, ?_, by omega, hll.2.1, hr, fun q => absurd q (by omega), fun q => absurd q (by omega), fun q => absurd q (by omega), fun q => absurd q (by omega), fun q => absurd q (by omega), hs0, hs1, hs2, hs3, le_most hml hll.1 (by decide)⟩) <;> try simp only [go_sem, hA, e12, hA1, e8a, e5a, kc, hA, hA1, e8a, e5a, htl, hml, z0]
          have hi := lt_len hb
          have hw := wrap_nat i (by omega)
          have hil : (i : Int) < ((r.length : Nat) : Int) := Int.ofNat_lt.2 hi
          have hg0 : (r)[i]? = some ((r)[i]) := List.getElem?_eq_getElem (by omega)
          simp only [go_sem, hb, hA, e12, hA1, e8a, e5a, kc, hg0]
          try simp only [go_sem, hA, e12, hA1, e8a, e5a, kc, hil, hg0]
          obtain ⟨x0, x1, x2, x3, x4, x5, x6, x7, hx⟩ := len_8 (hll.2.2 r[i] (List.getElem_mem hi))
          have ht := row_take trdR r i hi
          have hli := row_len trdR r i (Nat.le_of_lt hi)
          have hir := le_1000 hi hll.1 (by decide)
          rw [hx, show trdR [x0, x1, x2, x3, x4, x5, x6, x7] = ⟨x0, x1, x2, x3, x4, x5, x6, x7⟩ from rfl] at ht
          (try simp only [go_sem, hA, e12, hA1, e8a, e5a, kc, hil, hg0, hx, kc, Int.reduceToNat, Int.reduceLE]); repeat' (first | (with_reducible first | refine c_split ?_ ?_ | refine w_split ?_ ?_ | refine tw_split ?_ ?_) <;> intro hb <;> try simp only [go_sem, hb, hA, e12, hA1, e8a, e5a, kc, hil, hg0, hx, kc, Int.reduceToNat, Int.reduceLE] | (first | with_reducible refine d61_0_LBRead2 (by with_unfolding_all rfl) (by kernel_rfl) ?_ | with_reducible refine d61_1_LBRead2 (by with_unfolding_all rfl) (by kernel_rfl) ?_ | with_reducible refine d61_2_LBRead2 (by with_unfolding_all rfl) (by kernel_rfl) ?_ | with_reducible refine d61_3_LBRead2 (by with_unfolding_all rfl) (by kernel_rfl) ?_ | with_reducible refine d61_4_LBRead2 (by with_unfolding_all rfl) (by kernel_rfl) ?_ | with_reducible refine d61_5_LBRead2 (by with_unfolding_all rfl) (by kernel_rfl) ?_ | fail) <;> try simp only [go_sem, hA, e12, hA1, e8a, e5a, kc, hil, hg0, hx, kc, Int.reduceToNat, Int.reduceLE] | fail)
          refine ap_end rfl (by rw [List.length_map, hli]) (by exact ap_room (by rw [List.length_map, hli]; exact hir) (Nat.le_of_ble_eq_true rfl) (Nat.le_of_ble_eq_true rfl)) ?_
          (try simp only [go_sem, hA, e12, hA1, e8a, e5a, kc, hil, hg0, hx, hli, kc]); repeat' (first | (with_reducible first | refine c_split ?_ ?_ | refine w_split ?_ ?_ | refine tw_split ?_ ?_) <;> intro hb <;> try simp only [go_sem, hb, hA, e12, hA1, e8a, e5a, kc, hil, hg0, hx, hli, kc] | (first | with_reducible refine d61_0_LBRead2 (by with_unfolding_all rfl) (by kernel_rfl) ?_ | with_reducible refine d61_1_LBRead2 (by with_unfolding_all rfl) (by kernel_rfl) ?_ | with_reducible refine d61_2_LBRead2 (by with_unfolding_all rfl) (by kernel_rfl) ?_ | with_reducible refine d61_3_LBRead2 (by with_unfolding_all rfl) (by kernel_rfl) ?_ | with_reducible refine d61_4_LBRead2 (by with_unfolding_all rfl) (by kernel_rfl) ?_ | with_reducible refine d61_5_LBRead2 (by with_unfolding_all rfl) (by kernel_rfl) ?_ | fail) <;> try simp only [go_sem, hA, e12, hA1, e8a, e5a, kc, hil, hg0, hx, hli, kc] | fail)
          refine gc_trim 9 (by decide) (by simp only [go_sem]) (by simp only [go_sem]) (hJ _ _ hi (by simp only [go_sem, hA, e12, hA1, e8a, e5a, kc]) ⟨?_, ?_⟩) <;> try simp only [go_sem, hA, e12, hA1, e8a, e5a, kc, hw, ht, hli]
    · have hke : k = 5 := by have := of_decide_eq_false hb; omega
      subst hke
      simp only [restK] at hr
      cases hg : getNum bs a with
      | none =>
        rw [rest5, hg] at hr
        rw [hr] at hk
        (try simp only [go_sem, hA, e8, e5, hg, numA]); repeat' (first | (with_reducible first | refine c_split ?_ ?_ | refine w_split ?_ ?_ | refine tw_split ?_ ?_) <;> intro hb <;> try simp only [go_sem, hb, hA, e8, e5, hg, numA] | (first | with_reducible refine d61_0_LBRead2 (by with_unfolding_all rfl) (by kernel_rfl) ?_ | with_reducible refine d61_1_LBRead2 (by with_unfolding_all rfl) (by kernel_rfl) ?_ | with_reducible refine d61_2_LBRead2 (by with_unfolding_all rfl) (by kernel_rfl) ?_ | with_reducible refine d61_3_LBRead2 (by with_unfolding_all rfl) (by kernel_rfl) ?_ | with_reducible refine d61_4_LBRead2 (by with_unfolding_all rfl) (by kernel_rfl) ?_ | with_reducible refine d61_5_LBRead2 (by with_unfolding_all rfl) (by kernel_rfl) ?_ | refine call_c (c_spec_GetNum bs a (by omega) _ ?_) | fail) <;> try simp only [go_sem, hA, e8, e5, hg, numA] | with_reducible refine hQ _ _ ?_ <;> simp only [Tryz.f61, go_sem, hA, e8, e5, hg, numA])
        exact hk
      | some q =>
        obtain ⟨n, e⟩ := q
        rw [rest5, hg] at hr
        simp only at hr
        have hsm : Small { b with lot := (n : Int) } := ⟨hs0, hs1, hs2, hs3, hs4⟩
        have cB := fun K' hk' => c_BooksOk { b with lot := (n : Int) } hsm K' hk'
        simp only [booksC] at cB
        by_cases he : e = bs.length
        · cases hbo : booksOk { b with lot := (n : Int) } with
          | false =>
            rw [if_neg (fun q => by rw [hbo] at q; cases q.2)] at hr
            rw [hr] at hk
            rw [hbo] at cB
            subst he
            (try simp only [go_sem, hA, e8, e5, hg, numA, BEq.rfl]); repeat' (first | (with_reducible first | refine c_split ?_ ?_ | refine w_split ?_ ?_ | refine tw_split ?_ ?_) <;> intro hb <;> try simp only [go_sem, hb, hA, e8, e5, hg, numA, BEq.rfl] | (first | with_reducible refine d61_0_LBRead2 (by with_unfolding_all rfl) (by kernel_rfl) ?_ | with_reducible refine d61_1_LBRead2 (by with_unfolding_all rfl) (by kernel_rfl) ?_ | with_reducible refine d61_2_LBRead2 (by with_unfolding_all rfl) (by kernel_rfl) ?_ | with_reducible refine d61_3_LBRead2 (by with_unfolding_all rfl) (by kernel_rfl) ?_ | with_reducible refine d61_4_LBRead2 (by with_unfolding_all rfl) (by kernel_rfl) ?_ | with_reducible refine d61_5_LBRead2 (by with_unfolding_all rfl) (by kernel_rfl) ?_ | refine call_c (c_spec_GetNum bs a (by omega) _ ?_) | refine call_c (cB _ ?_) | fail) <;> try simp only [go_sem, hA, e8, e5, hg, numA, BEq.rfl] | with_reducible refine hQ _ _ ?_ <;> simp only [Tryz.f61, go_sem, hA, e8, e5, hg, numA, BEq.rfl])
            exact hk
          | true =>
            rw [if_pos ⟨he, hbo⟩] at hr
            rw [hr] at hk
            rw [hbo] at cB
            subst he
            (try simp only [go_sem, hA, e8, e5, hg, numA, BEq.rfl, accountC_tk, balC_tk, lotC_tk, tradeC_tk]); repeat' (first | (with_reducible first | refine c_split ?_ ?_ | refine w_split ?_ ?_ | refine tw_split ?_ ?_) <;> intro hb <;> try simp only [go_sem, hb, hA, e8, e5, hg, numA, BEq.rfl, accountC_tk, balC_tk, lotC_tk, tradeC_tk] | (first | with_reducible refine d61_0_LBRead2 (by with_unfolding_all rfl) (by kernel_rfl) ?_ | with_reducible refine d61_1_LBRead2 (by with_unfolding_all rfl) (by kernel_rfl) ?_ | with_reducible refine d61_2_LBRead2 (by with_unfolding_all rfl) (by kernel_rfl) ?_ | with_reducible refine d61_3_LBRead2 (by with_unfolding_all rfl) (by kernel_rfl) ?_ | with_reducible refine d61_4_LBRead2 (by with_unfolding_all rfl) (by kernel_rfl) ?_ | with_reducible refine d61_5_LBRead2 (by with_unfolding_all rfl) (by kernel_rfl) ?_ | refine call_c (c_spec_GetNum bs a (by omega) _ ?_) | refine call_c (cB _ ?_) | fail) <;> try simp only [go_sem, hA, e8, e5, hg, numA, BEq.rfl, accountC_tk, balC_tk, lotC_tk, tradeC_tk] | with_reducible refine hQ _ _ ?_ <;> simp only [Tryz.f61, go_sem, hA, e8, e5, hg, numA, BEq.rfl, accountC_tk, balC_tk, lotC_tk, tradeC_tk])
            exact hk
        · rw [if_neg (fun q => he q.1)] at hr
          rw [hr] at hk
          have hne : ((e : Int) == (bs.length : Int)) = false := beq_eq_false_iff_ne.2 fun q => he (Int.ofNat_inj.1 q)
          (try simp only [go_sem, hA, e8, e5, hg, numA, hne]); repeat' (first | (with_reducible first | refine c_split ?_ ?_ | refine w_split ?_ ?_ | refine tw_split ?_ ?_) <;> intro hb <;> try simp only [go_sem, hb, hA, e8, e5, hg, numA, hne] | (first | with_reducible refine d61_0_LBRead2 (by with_unfolding_all rfl) (by kernel_rfl) ?_ | with_reducible refine d61_1_LBRead2 (by with_unfolding_all rfl) (by kernel_rfl) ?_ | with_reducible refine d61_2_LBRead2 (by with_unfolding_all rfl) (by kernel_rfl) ?_ | with_reducible refine d61_3_LBRead2 (by with_unfolding_all rfl) (by kernel_rfl) ?_ | with_reducible refine d61_4_LBRead2 (by with_unfolding_all rfl) (by kernel_rfl) ?_ | with_reducible refine d61_5_LBRead2 (by with_unfolding_all rfl) (by kernel_rfl) ?_ | refine call_c (c_spec_GetNum bs a (by omega) _ ?_) | fail) <;> try simp only [go_sem, hA, e8, e5, hg, numA, hne] | with_reducible refine hQ _ _ ?_ <;> simp only [Tryz.f61, go_sem, hA, e8, e5, hg, numA, hne])
          exact hk
end Go.Proofs.YtlefjpbhbiajfaaGreat
end
section
namespace Go.Proofs.YtlefjpbhbiajfaaGreat
open Go.BL Go.RowKit
set_option linter.unusedVariables false
set_option linter.unusedSimpArgs false
set_option maxRecDepth 100000
theorem d148_0_LBRead3 : DrawL Tryz.prog 0 7 [(0, true, true), (1, true, true), (2, true, true), (3, true, true), (4, false, false), (5, false, false), (6, false, false), (7, false, false), (8, false, true), (9, false, true), (10, true, true), (11, true, true), (12, true, true), (13, false, true), (14, false, true), (15, false, true)] := draw_L
attribute [local go_sem] accountC balC lotC tradeC booksC intC byteC rowI
abbrev RS := Nat × Bool
def oneS (bs : List UInt8) (s : RS) : Nat × RS := if s.2 = true then (0, (s.1, true)) else match getNum bs s.1 with
  | some (n, m) => (n, (m, false))
  | none => (0, (s.1, true))
def rdC (bs : List UInt8) (s : RS) : List CV := [.im (bs.map byteC), .c (.int .i64 ((s.1 : Int))), .c (.bool (s.2))]
def rdO (bs : List UInt8) (s : RS) : AO := .own 0 172 3 (some 1) [rdC bs s]
theorem rd_lt (n : Nat) (bs : List UInt8) (s : RS) : ltO n (rdO bs s) = true := by simp only [go_sem, rdO, rdC]
theorem c0_one (bs : List UInt8) (s : RS) (hn : bs.length ≤ 1000000000000) (K : AV → AH → Prop) (hk : K (.one (.c (.int .i64 (((oneS bs s).1 : Int))))) [rdO bs (oneS bs s).2]) : ACalls Tryz.prog 148 [.one (.pt 0 0 0 0)] [rdO bs s] K := by
  have hn1 : bs.length ≤ 1000000000000000 := by omega
  obtain ⟨a, bad⟩ := s
  refine acall_h Tryz.f148.results.toList mixed Tryz.func148 rfl rfl (by kernel_rfl) ?_
  intro Q hQ hQN
  simp only [go_sem, rdO, rdC]
  cases hg : getNum bs a with
  | none =>
    have e : oneS bs (a, bad) = (0, (a, true)) := by unfold oneS; cases bad <;> simp [hg]
    rw [e] at hk
    cases bad with
    | true =>
      (try simp only [go_sem, hg, numA]); repeat' (first | (with_reducible first | refine c_split ?_ ?_ | refine w_split ?_ ?_ | refine tw_split ?_ ?_) <;> intro hb <;> try simp only [go_sem, hb, hg, numA] | (first | with_reducible refine d148_0_LBRead3 (by with_unfolding_all rfl) (by kernel_rfl) ?_ | refine call_c (c_impl_GetNum bs a hn1 _ ?_) | fail) <;> try simp only [go_sem, hg, numA] | fail)
      refine hQ [] _ _ (GC.now ?_) <;> simp only [Tryz.f148, go_sem, List.nodup_cons, List.nodup_nil, List.mem_cons, List.not_mem_nil, or_false, not_false_eq_true, List.idxOf?_cons, List.idxOf?_nil, Option.map_none, forall_eq, rdC]
      exact hk
    | false =>
      (try simp only [go_sem, hg, numA]); repeat' (first | (with_reducible first | refine c_split ?_ ?_ | refine w_split ?_ ?_ | refine tw_split ?_ ?_) <;> intro hb <;> try simp only [go_sem, hb, hg, numA] | (first | with_reducible refine d148_0_LBRead3 (by with_unfolding_all rfl) (by kernel_rfl) ?_ | refine call_c (c_impl_GetNum bs a hn1 _ ?_) | fail) <;> try simp only [go_sem, hg, numA] | fail)
      refine hQ [] _ _ (GC.now ?_) <;> simp only [Tryz.f148, go_sem, List.nodup_cons, List.nodup_nil, List.mem_cons, List.not_mem_nil, or_false, not_false_eq_true, List.idxOf?_cons, List.idxOf?_nil, Option.map_none, forall_eq, rdC]
      exact hk
  | some q =>
    obtain ⟨n, m⟩ := q
    cases bad with
    | true =>
      have e : oneS bs (a, true) = (0, (a, true)) := rfl
      rw [e] at hk
      (try simp only [go_sem, hg, numA]); repeat' (first | (with_reducible first | refine c_split ?_ ?_ | refine w_split ?_ ?_ | refine tw_split ?_ ?_) <;> intro hb <;> try simp only [go_sem, hb, hg, numA] | (first | with_reducible refine d148_0_LBRead3 (by with_unfolding_all rfl) (by kernel_rfl) ?_ | refine call_c (c_impl_GetNum bs a hn1 _ ?_) | fail) <;> try simp only [go_sem, hg, numA] | fail)
      refine hQ [] _ _ (GC.now ?_) <;> simp only [Tryz.f148, go_sem, List.nodup_cons, List.nodup_nil, List.mem_cons, List.not_mem_nil, or_false, not_false_eq_true, List.idxOf?_cons, List.idxOf?_nil, Option.map_none, forall_eq, rdC]
      exact hk
    | false =>
      have e : oneS bs (a, false) = (n, (m, false)) := by unfold oneS; simp [hg]
      rw [e] at hk
      (try simp only [go_sem, hg, numA]); repeat' (first | (with_reducible first | refine c_split ?_ ?_ | refine w_split ?_ ?_ | refine tw_split ?_ ?_) <;> intro hb <;> try simp only [go_sem, hb, hg, numA] | (first | with_reducible refine d148_0_LBRead3 (by with_unfolding_all rfl) (by kernel_rfl) ?_ | refine call_c (c_impl_GetNum bs a hn1 _ ?_) | fail) <;> try simp only [go_sem, hg, numA] | fail)
      refine hQ [] _ _ (GC.now ?_) <;> simp only [Tryz.f148, go_sem, List.nodup_cons, List.nodup_nil, List.mem_cons, List.not_mem_nil, or_false, not_false_eq_true, List.idxOf?_cons, List.idxOf?_nil, Option.map_none, forall_eq, rdC]
      exact hk
theorem c_one (bs : List UInt8) (s : RS) (hn : bs.length ≤ 1000000000000) (h : AH) (l : Nat) (hl : h[l]? = some (rdO bs s)) (K : AV → AH → Prop) (hk : K (.one (.c (.int .i64 (((oneS bs s).1 : Int))))) (h.set l (rdO bs (oneS bs s).2))) : FCalls Tryz.prog 148 [.one (.pt l 0 0 0)] h [l] K :=
  frame1 (args := [.one (.pt 0 0 0 0)]) hl (by simp only [go_sem, rdC]) (c0_one bs s hn _ fun o' ext e => by cases e; exact (List.append_nil (h.set l (rdO bs (oneS bs s).2))).symm ▸ hk)
def manyS (bs : List UInt8) (most : Nat) (s : RS) : Nat × RS := if most < (oneS bs s).1 then (0, ((oneS bs s).2.1, true)) else oneS bs s
theorem c0_many (bs : List UInt8) (most : Nat) (s : RS) (hn : bs.length ≤ 1000000000000) (K : AV → AH → Prop) (hk : K (.one (.c (.int .i64 (((manyS bs most s).1 : Int))))) [rdO bs (manyS bs most s).2]) : ACalls Tryz.prog 147 [.one (.pt 0 0 0 0), (.one (.c (.int .i64 ((most : Int)))))] [rdO bs s] K := by
  refine acall_h Tryz.f147.results.toList mixed Tryz.func147 rfl rfl (by kernel_rfl) ?_
  intro Q hQ hQN
  simp only [go_sem]
  refine call_h (c0_one bs s hn _ ?_)
  unfold manyS at hk
  generalize oneS bs s = q at *
  obtain ⟨n, a, bad⟩ := q
  by_cases hq : most < n
  · have d1 : decide ((most : Int) < (n : Int)) = true := decide_eq_true (by omega)
    rw [if_pos hq] at hk
    (try simp only [go_sem, d1, rdO, rdC]); repeat' (first | (with_reducible first | refine c_split ?_ ?_ | refine w_split ?_ ?_) <;> intro hb <;> try simp only [go_sem, hb, d1, rdO, rdC] | fail)
    refine hQ [] _ _ (GC.now ?_) <;> simp only [Tryz.f147, go_sem, List.nodup_cons, List.nodup_nil, List.mem_cons, List.not_mem_nil, or_false, not_false_eq_true, List.idxOf?_cons, List.idxOf?_nil, Option.map_none, forall_eq, rdC]
    exact hk
  · have d1 : decide ((most : Int) < (n : Int)) = false := decide_eq_false (by omega)
    rw [if_neg hq] at hk
    (try simp only [go_sem, d1, rdO, rdC]); repeat' (first | (with_reducible first | refine c_split ?_ ?_ | refine w_split ?_ ?_) <;> intro hb <;> try simp only [go_sem, hb, d1, rdO, rdC] | fail)
    refine hQ [] _ _ (GC.now ?_) <;> simp only [Tryz.f147, go_sem, List.nodup_cons, List.nodup_nil, List.mem_cons, List.not_mem_nil, or_false, not_false_eq_true, List.idxOf?_cons, List.idxOf?_nil, Option.map_none, forall_eq, rdC]
    exact hk
theorem c_many (bs : List UInt8) (most : Nat) (s : RS) (hn : bs.length ≤ 1000000000000) (h : AH) (l : Nat) (hl : h[l]? = some (rdO bs s)) (K : AV → AH → Prop) (hk : K (.one (.c (.int .i64 (((manyS bs most s).1 : Int))))) (h.set l (rdO bs (manyS bs most s).2))) : FCalls Tryz.prog 147 [.one (.pt l 0 0 0), (.one (.c (.int .i64 ((most : Int)))))] h [l] K :=
  frame1 (args := [.one (.pt 0 0 0 0), (.one (.c (.int .i64 ((most : Int)))))]) hl (by simp only [go_sem, rdC]) (c0_many bs most s hn _ fun o' ext e => by cases e; exact (List.append_nil (h.set l (rdO bs (manyS bs most s).2))).symm ▸ hk)
/-! ### Rows -/
def numsS (bs : List UInt8) (s : RS) : Nat → List Int × RS
  | 0 => ([], s)
  | w + 1 => ((numsS bs s w).1 ++ [((oneS bs (numsS bs s w).2).1 : Int)], (oneS bs (numsS bs s w).2).2)
def lotL (r : List Int) : List CV := lotC (lotR r)
def trdL (r : List Int) : List CV := tradeC (trdR r)
theorem c0_lot (bs : List UInt8) (s : RS) (hn : bs.length ≤ 1000000000000) (K : AV → AH → Prop) (hk : K (.agg (lotL (numsS bs s 5).1)) [rdO bs (numsS bs s 5).2]) : ACalls Tryz.prog 149 [.one (.pt 0 0 0 0)] [rdO bs s] K := by
  simp only [numsS, List.nil_append, List.cons_append] at hk
  refine acall_h Tryz.f149.results.toList mixed Tryz.func149 rfl rfl (by kernel_rfl) ?_
  intro Q hQ hQN
  simp only [go_sem]
  refine call_f _ (c_one bs s hn _ 0 rfl _ ?_)
  generalize oneS bs s = q0 at hk ⊢
  obtain ⟨n0, s1⟩ := q0
  (try simp only [go_sem]); repeat' (first | (with_reducible first | refine c_split ?_ ?_ | refine w_split ?_ ?_) <;> intro hb <;> try simp only [go_sem, hb] | fail)
  refine call_f _ (c_one bs s1 hn _ 0 rfl _ ?_)
  generalize oneS bs s1 = q1 at hk ⊢
  obtain ⟨n1, s2⟩ := q1
  (try simp only [go_sem]); repeat' (first | (with_reducible first | refine c_split ?_ ?_ | refine w_split ?_ ?_) <;> intro hb <;> try simp only [go_sem, hb] | fail)
  refine call_f _ (c_one bs s2 hn _ 0 rfl _ ?_)
  generalize oneS bs s2 = q2 at hk ⊢
  obtain ⟨n2, s3⟩ := q2
  (try simp only [go_sem]); repeat' (first | (with_reducible first | refine c_split ?_ ?_ | refine w_split ?_ ?_) <;> intro hb <;> try simp only [go_sem, hb] | fail)
  refine call_f _ (c_one bs s3 hn _ 0 rfl _ ?_)
  generalize oneS bs s3 = q3 at hk ⊢
  obtain ⟨n3, s4⟩ := q3
  (try simp only [go_sem]); repeat' (first | (with_reducible first | refine c_split ?_ ?_ | refine w_split ?_ ?_) <;> intro hb <;> try simp only [go_sem, hb] | fail)
  refine call_f _ (c_one bs s4 hn _ 0 rfl _ ?_)
  generalize oneS bs s4 = q4 at hk ⊢
  obtain ⟨n4, s5⟩ := q4
  (try simp only [go_sem]); repeat' (first | (with_reducible first | refine c_split ?_ ?_ | refine w_split ?_ ?_) <;> intro hb <;> try simp only [go_sem, hb] | fail)
  refine hQ [] _ _ (GC.now ?_) <;> simp only [Tryz.f149, go_sem, List.nodup_cons, List.nodup_nil, List.mem_cons, List.not_mem_nil, or_false, not_false_eq_true, List.idxOf?_cons, List.idxOf?_nil, Option.map_none, forall_eq, rd_lt]
  exact hk
theorem c_lot (bs : List UInt8) (s : RS) (hn : bs.length ≤ 1000000000000) (h : AH) (l : Nat) (hl : h[l]? = some (rdO bs s)) (K : AV → AH → Prop) (hk : K (.agg (lotL (numsS bs s 5).1)) (h.set l (rdO bs (numsS bs s 5).2))) : FCalls Tryz.prog 149 [.one (.pt l 0 0 0)] h [l] K :=
  frame1 (args := [.one (.pt 0 0 0 0)]) hl (by simp only [go_sem, rdC]) (c0_lot bs s hn _ fun o' ext e => by cases e; exact (List.append_nil (h.set l (rdO bs (numsS bs s 5).2))).symm ▸ hk)
theorem c0_trade (bs : List UInt8) (s : RS) (hn : bs.length ≤ 1000000000000) (K : AV → AH → Prop) (hk : K (.agg (trdL (numsS bs s 8).1)) [rdO bs (numsS bs s 8).2]) : ACalls Tryz.prog 150 [.one (.pt 0 0 0 0)] [rdO bs s] K := by
  simp only [numsS, List.nil_append, List.cons_append] at hk
  refine acall_h Tryz.f150.results.toList mixed Tryz.func150 rfl rfl (by kernel_rfl) ?_
  intro Q hQ hQN
  simp only [go_sem]
  refine call_f _ (c_one bs s hn _ 0 rfl _ ?_)
  generalize oneS bs s = q0 at hk ⊢
  obtain ⟨n0, s1⟩ := q0
  (try simp only [go_sem]); repeat' (first | (with_reducible first | refine c_split ?_ ?_ | refine w_split ?_ ?_) <;> intro hb <;> try simp only [go_sem, hb] | fail)
  refine call_f _ (c_one bs s1 hn _ 0 rfl _ ?_)
  generalize oneS bs s1 = q1 at hk ⊢
  obtain ⟨n1, s2⟩ := q1
  (try simp only [go_sem]); repeat' (first | (with_reducible first | refine c_split ?_ ?_ | refine w_split ?_ ?_) <;> intro hb <;> try simp only [go_sem, hb] | fail)
  refine call_f _ (c_one bs s2 hn _ 0 rfl _ ?_)
  generalize oneS bs s2 = q2 at hk ⊢
  obtain ⟨n2, s3⟩ := q2
  (try simp only [go_sem]); repeat' (first | (with_reducible first | refine c_split ?_ ?_ | refine w_split ?_ ?_) <;> intro hb <;> try simp only [go_sem, hb] | fail)
  refine call_f _ (c_one bs s3 hn _ 0 rfl _ ?_)
  generalize oneS bs s3 = q3 at hk ⊢
  obtain ⟨n3, s4⟩ := q3
  (try simp only [go_sem]); repeat' (first | (with_reducible first | refine c_split ?_ ?_ | refine w_split ?_ ?_) <;> intro hb <;> try simp only [go_sem, hb] | fail)
  refine call_f _ (c_one bs s4 hn _ 0 rfl _ ?_)
  generalize oneS bs s4 = q4 at hk ⊢
  obtain ⟨n4, s5⟩ := q4
  (try simp only [go_sem]); repeat' (first | (with_reducible first | refine c_split ?_ ?_ | refine w_split ?_ ?_) <;> intro hb <;> try simp only [go_sem, hb] | fail)
  refine call_f _ (c_one bs s5 hn _ 0 rfl _ ?_)
  generalize oneS bs s5 = q5 at hk ⊢
  obtain ⟨n5, s6⟩ := q5
  (try simp only [go_sem]); repeat' (first | (with_reducible first | refine c_split ?_ ?_ | refine w_split ?_ ?_) <;> intro hb <;> try simp only [go_sem, hb] | fail)
  refine call_f _ (c_one bs s6 hn _ 0 rfl _ ?_)
  generalize oneS bs s6 = q6 at hk ⊢
  obtain ⟨n6, s7⟩ := q6
  (try simp only [go_sem]); repeat' (first | (with_reducible first | refine c_split ?_ ?_ | refine w_split ?_ ?_) <;> intro hb <;> try simp only [go_sem, hb] | fail)
  refine call_f _ (c_one bs s7 hn _ 0 rfl _ ?_)
  generalize oneS bs s7 = q7 at hk ⊢
  obtain ⟨n7, s8⟩ := q7
  (try simp only [go_sem]); repeat' (first | (with_reducible first | refine c_split ?_ ?_ | refine w_split ?_ ?_) <;> intro hb <;> try simp only [go_sem, hb] | fail)
  refine hQ [] _ _ (GC.now ?_) <;> simp only [Tryz.f150, go_sem, List.nodup_cons, List.nodup_nil, List.mem_cons, List.not_mem_nil, or_false, not_false_eq_true, List.idxOf?_cons, List.idxOf?_nil, Option.map_none, forall_eq, rd_lt]
  exact hk
theorem c_trade (bs : List UInt8) (s : RS) (hn : bs.length ≤ 1000000000000) (h : AH) (l : Nat) (hl : h[l]? = some (rdO bs s)) (K : AV → AH → Prop) (hk : K (.agg (trdL (numsS bs s 8).1)) (h.set l (rdO bs (numsS bs s 8).2))) : FCalls Tryz.prog 150 [.one (.pt l 0 0 0)] h [l] K :=
  frame1 (args := [.one (.pt 0 0 0 0)]) hl (by simp only [go_sem, rdC]) (c0_trade bs s hn _ fun o' ext e => by cases e; exact (List.append_nil (h.set l (rdO bs (numsS bs s 8).2))).symm ▸ hk)
end Go.Proofs.YtlefjpbhbiajfaaGreat
end
section
namespace Go.Proofs.YtlefjpbhbiajfaaGreat
open Go.BL Go.RowKit
set_option linter.unusedVariables false
set_option linter.unusedSimpArgs false
set_option maxRecDepth 100000
theorem d67_0_LBRead4 : DrawL Tryz.prog 0 19 [(0, true, true), (1, true, true), (2, true, false), (3, false, false), (4, false, false), (5, false, false), (6, false, false), (7, false, true), (8, false, true), (9, false, true)] := draw_L
theorem d67_1_LBRead4 : DrawL Tryz.prog 0 35 [(0, true, true), (1, true, true), (2, true, false), (3, false, false), (4, false, false), (5, false, false), (6, false, false), (7, false, true), (8, false, true), (9, false, true)] := draw_L
theorem d67_2_LBRead4 : DrawL Tryz.prog 0 70 [(0, true, true), (1, true, true), (2, false, false), (3, false, false), (4, false, false), (5, false, true), (6, false, true), (7, false, true)] := draw_L
theorem d67_3_LBRead4 : DrawL Tryz.prog 0 82 [(0, true, true), (1, true, true), (2, false, false), (3, false, false), (4, false, false), (5, false, true), (6, false, true), (7, false, true)] := draw_L
attribute [local go_sem] accountC balC lotC tradeC booksC intC byteC rowI booksA rd_lt
def rowsS (bs : List UInt8) (w : Nat) (s : RS) : Nat → List (List Int) × RS
  | 0 => ([], s)
  | n + 1 => ((rowsS bs w s n).1 ++ [(numsS bs (rowsS bs w s n).2 w).1], (numsS bs (rowsS bs w s n).2 w).2)
theorem rowsS_len (bs : List UInt8) (w : Nat) (s : RS) : ∀ n, (rowsS bs w s n).1.length = n
  | 0 => rfl
  | n + 1 => by rw [rowsS]; simp [rowsS_len bs w s n]
theorem rowsS_map {α : Type} (bs : List UInt8) (w : Nat) (s : RS) (n : Nat) (f : List Int → α) : (rowsS bs w s (n + 1)).1.map f = (rowsS bs w s n).1.map f ++ [f (numsS bs (rowsS bs w s n).2 w).1] := by rw [rowsS]; simp
theorem manyS_le (bs : List UInt8) (most : Nat) (s : RS) : (manyS bs most s).1 ≤ most := by
  unfold manyS; split
  · exact Nat.zero_le _
  · omega
def listS (bs : List UInt8) (w most : Nat) (s : RS) : List (List Int) × RS := rowsS bs w (manyS bs most s).2 (manyS bs most s).1
def fin5 (bs : List UInt8) (s : RS) (b : Books) : Option Books := if (oneS bs s).2.2 = true ∨ (oneS bs s).2.1 ≠ bs.length ∨ booksOk { b with lot := ((oneS bs s).1 : Int) } = false then none else some { b with lot := ((oneS bs s).1 : Int) }
def fin4 (bs : List UInt8) (s : RS) (b : Books) : Option Books := fin5 bs (listS bs 8 30 s).2 { b with trades := (listS bs 8 30 s).1.map trdR }
def fin3 (bs : List UInt8) (s : RS) (b : Books) : Option Books := fin4 bs (listS bs 5 120 s).2 { b with lots := (listS bs 5 120 s).1.map lotR }
def fin2 (bs : List UInt8) (s : RS) (b : Books) : Option Books := fin3 bs (listS bs 3 160 s).2 { b with bals := (listS bs 3 160 s).1.map balR }
def fin1 (bs : List UInt8) (s : RS) (b : Books) : Option Books := fin2 bs (listS bs 2 8 s).2 { b with instrs := (listS bs 2 8 s).1.map accR }
def fin0 (bs : List UInt8) (s : RS) (b : Books) : Option Books := fin1 bs (listS bs 2 20 s).2 { b with accounts := (listS bs 2 20 s).1.map accR }
def booksS (bs : List UInt8) : Option Books := fin0 bs (0, false) zeroB
def ownB (b : Books) : AH := [.own 0 129 2 none (b.accounts.map accountC), .own 0 131 2 none (b.instrs.map accountC), .own 0 134 3 none (b.bals.map balC), .own 0 137 5 none (b.lots.map lotC), .own 0 140 8 none (b.trades.map tradeC)]
theorem le_len {a b m : Nat} (h1 : a = b) (h2 : b ≤ m) : a ≤ m := by omega
theorem c_impl_BooksReadS (bs : List UInt8) (hn : bs.length ≤ 1000000000000) (K : AV → AH → Prop) (hk : K (.tup [booksA ((booksS bs).getD zeroB), (.one (.c (.bool ((booksS bs).isSome))))]) (ownB ((booksS bs).getD zeroB))) : ACalls Tryz.prog 67 [(.one (.im (bs.map byteC)))] [] K := by
  have cM := fun (m : Nat) s => c_many bs m s hn
  refine acall_c Tryz.f67.results.toList mixed Tryz.func67 rfl rfl (by kernel_rfl) ?_
  intro Q hQ hQO
  simp only [go_sem]
  (try simp only [go_sem]); repeat' (first | (with_reducible first | refine c_split ?_ ?_ | refine w_split ?_ ?_ | refine tw_split ?_ ?_) <;> intro hb <;> try simp only [go_sem, hb] | (first | with_reducible refine d67_0_LBRead4 (by with_unfolding_all rfl) (by kernel_rfl) ?_ | with_reducible refine d67_1_LBRead4 (by with_unfolding_all rfl) (by kernel_rfl) ?_ | with_reducible refine d67_2_LBRead4 (by with_unfolding_all rfl) (by kernel_rfl) ?_ | with_reducible refine d67_3_LBRead4 (by with_unfolding_all rfl) (by kernel_rfl) ?_ | fail) <;> try simp only [go_sem] | fail)
  have hR : booksS bs = fin0 bs (0, false) zeroB := rfl
  have hrd : AO.own 0 172 3 (some 1) [[.im (bs.map byteC), .c (.int .i64 (0)), .c (.bool (false))]] = rdO bs (0, false) := rfl
  simp only [hrd]
  have hz : Small zeroB := zero_small
  refine call_f _ (c_many bs 20 (0, false) hn _ 1 rfl _ ?_)
  have hm0 := manyS_le bs 20 (0, false)
  rw [fin0, listS] at hR
  generalize manyS bs 20 (0, false) = u0 at hm0 hR ⊢
  (try simp only [go_sem]); repeat' (first | (with_reducible first | refine c_split ?_ ?_ | refine w_split ?_ ?_ | refine tw_split ?_ ?_) <;> intro hb <;> try simp only [go_sem, hb] | (first | with_reducible refine d67_0_LBRead4 (by with_unfolding_all rfl) (by kernel_rfl) ?_ | with_reducible refine d67_1_LBRead4 (by with_unfolding_all rfl) (by kernel_rfl) ?_ | with_reducible refine d67_2_LBRead4 (by with_unfolding_all rfl) (by kernel_rfl) ?_ | with_reducible refine d67_3_LBRead4 (by with_unfolding_all rfl) (by kernel_rfl) ?_ | fail) <;> try simp only [go_sem] | fail)
  refine for_at (u0.1) [0, 2, 4, 5, 14] (fun i f h => f 15 = (.one (.c (.int .i64 (i)))) ∧ h = [.own 0 31 6 (some 1) [[.nl, .nl, .nl, .nl, .nl, .c (.int .i64 (0))]], rdO bs (rowsS bs 2 u0.2 i).2, .own 0 31 6 (some 1) [[.sl 3 (i) 0 (i), .sl 4 (0) 0 (0), .sl 5 (0) 0 (0), .sl 6 (0) 0 (0), .sl 7 (0) 0 (0), .c (.int .i64 (0))]], .own (i) 129 2 none (((rowsS bs 2 u0.2 i).1.map accR).map accountC), .own (0) 131 2 none ((([] : List Account)).map accountC), .own (0) 134 3 none ((([] : List Bal)).map balC), .own (0) 137 5 none ((([] : List Lot)).map lotC), .own (0) 140 8 none ((([] : List Trade)).map tradeC)]) (GC.step (Ghost.nlc (l := 2) rfl 0 0 rfl rfl 129 2) (GC.step (Ghost.nlc (l := 2) rfl 0 1 rfl rfl 131 2) (GC.step (Ghost.nlc (l := 2) rfl 0 2 rfl rfl 134 3) (GC.step (Ghost.nlc (l := 2) rfl 0 3 rfl rfl 137 5) (GC.step (Ghost.nlc (l := 2) rfl 0 4 rfl rfl 140 8) (GC.now ?_)))))) ?_
  · simp only [go_sem, nc_0, true_and]
    rfl
  · rintro i f h J hi hA ⟨e15, rfl⟩ hJ
    simp only [go_sem] at hA
    simp only [go_sem, hA, e15]
    refine c_split (fun hb => ?_) (fun hb => ?_)
    rotate_left
    · simp only [go_sem, hb, hA, e15]
      obtain rfl := ge_len hb hi
      have hq0 := hA
      clear hJ hA
      have hl0 := rowsS_len bs 2 u0.2 u0.1
      generalize rowsS bs 2 u0.2 u0.1 = p0 at hl0 hR ⊢
      refine call_f _ (c_many bs 8 p0.2 hn _ 1 rfl _ ?_)
      have hm1 := manyS_le bs 8 p0.2
      rw [fin1, listS] at hR
      generalize manyS bs 8 p0.2 = u1 at hm1 hR ⊢
      (try simp only [go_sem, hq0]); repeat' (first | (with_reducible first | refine c_split ?_ ?_ | refine w_split ?_ ?_ | refine tw_split ?_ ?_) <;> intro hb <;> try simp only [go_sem, hb, hq0] | (first | with_reducible refine d67_0_LBRead4 (by with_unfolding_all rfl) (by kernel_rfl) ?_ | with_reducible refine d67_1_LBRead4 (by with_unfolding_all rfl) (by kernel_rfl) ?_ | with_reducible refine d67_2_LBRead4 (by with_unfolding_all rfl) (by kernel_rfl) ?_ | with_reducible refine d67_3_LBRead4 (by with_unfolding_all rfl) (by kernel_rfl) ?_ | fail) <;> try simp only [go_sem, hq0] | fail)
      refine for_at (u1.1) [0, 2, 4, 5, 30] (fun i f h => f 31 = (.one (.c (.int .i64 (i)))) ∧ h = [.own 0 31 6 (some 1) [[.nl, .nl, .nl, .nl, .nl, .c (.int .i64 (0))]], rdO bs (rowsS bs 2 u1.2 i).2, .own 0 31 6 (some 1) [[.sl 3 (u0.1) 0 (u0.1), .sl 4 (i) 0 (i), .sl 5 (0) 0 (0), .sl 6 (0) 0 (0), .sl 7 (0) 0 (0), .c (.int .i64 (0))]], .own (u0.1) 129 2 none ((p0.1.map accR).map accountC), .own (i) 131 2 none (((rowsS bs 2 u1.2 i).1.map accR).map accountC), .own (0) 134 3 none ((([] : List Bal)).map balC), .own (0) 137 5 none ((([] : List Lot)).map lotC), .own (0) 140 8 none ((([] : List Trade)).map tradeC)]) (GC.now ?_) ?_
      · simp only [go_sem, nc_0, true_and, hq0]
        rfl
      · rintro i f h J hi hA ⟨e31, rfl⟩ hJ
        simp only [go_sem, hq0] at hA
        simp only [go_sem, hA, e31, hq0]
        refine c_split (fun hb => ?_) (fun hb => ?_)
        rotate_left
        · simp only [go_sem, hb, hA, e31, hq0]
          obtain rfl := ge_len hb hi
          have hq1 := hA
          clear hJ hA
          have hl1 := rowsS_len bs 2 u1.2 u1.1
          generalize rowsS bs 2 u1.2 u1.1 = p1 at hl1 hR ⊢
          refine call_f _ (c_many bs 160 p1.2 hn _ 1 rfl _ ?_)
          have hm2 := manyS_le bs 160 p1.2
          rw [fin2, listS] at hR
          generalize manyS bs 160 p1.2 = u2 at hm2 hR ⊢
          (try simp only [go_sem, hq1]); repeat' (first | (with_reducible first | refine c_split ?_ ?_ | refine w_split ?_ ?_ | refine tw_split ?_ ?_) <;> intro hb <;> try simp only [go_sem, hb, hq1] | (first | with_reducible refine d67_0_LBRead4 (by with_unfolding_all rfl) (by kernel_rfl) ?_ | with_reducible refine d67_1_LBRead4 (by with_unfolding_all rfl) (by kernel_rfl) ?_ | with_reducible refine d67_2_LBRead4 (by with_unfolding_all rfl) (by kernel_rfl) ?_ | with_reducible refine d67_3_LBRead4 (by with_unfolding_all rfl) (by kernel_rfl) ?_ | fail) <;> try simp only [go_sem, hq1] | fail)
          refine for_at (u2.1) [0, 2, 4, 5, 46] (fun i f h => f 47 = (.one (.c (.int .i64 (i)))) ∧ h = [.own 0 31 6 (some 1) [[.nl, .nl, .nl, .nl, .nl, .c (.int .i64 (0))]], rdO bs (rowsS bs 3 u2.2 i).2, .own 0 31 6 (some 1) [[.sl 3 (u0.1) 0 (u0.1), .sl 4 (u1.1) 0 (u1.1), .sl 5 (i) 0 (i), .sl 6 (0) 0 (0), .sl 7 (0) 0 (0), .c (.int .i64 (0))]], .own (u0.1) 129 2 none ((p0.1.map accR).map accountC), .own (u1.1) 131 2 none ((p1.1.map accR).map accountC), .own (i) 134 3 none (((rowsS bs 3 u2.2 i).1.map balR).map balC), .own (0) 137 5 none ((([] : List Lot)).map lotC), .own (0) 140 8 none ((([] : List Trade)).map tradeC)]) (GC.now ?_) ?_
          · simp only [go_sem, nc_0, true_and, hq1]
            rfl
          · rintro i f h J hi hA ⟨e47, rfl⟩ hJ
            simp only [go_sem, hq1] at hA
            simp only [go_sem, hA, e47, hq1]
            refine c_split (fun hb => ?_) (fun hb => ?_)
            rotate_left
            · simp only [go_sem, hb, hA, e47, hq1]
              obtain rfl := ge_len hb hi
              have hq2 := hA
              clear hJ hA
              have hl2 := rowsS_len bs 3 u2.2 u2.1
              generalize rowsS bs 3 u2.2 u2.1 = p2 at hl2 hR ⊢
              refine call_f _ (c_many bs 120 p2.2 hn _ 1 rfl _ ?_)
              have hm3 := manyS_le bs 120 p2.2
              rw [fin3, listS] at hR
              generalize manyS bs 120 p2.2 = u3 at hm3 hR ⊢
              (try simp only [go_sem, hq2]); repeat' (first | (with_reducible first | refine c_split ?_ ?_ | refine w_split ?_ ?_ | refine tw_split ?_ ?_) <;> intro hb <;> try simp only [go_sem, hb, hq2] | (first | with_reducible refine d67_0_LBRead4 (by with_unfolding_all rfl) (by kernel_rfl) ?_ | with_reducible refine d67_1_LBRead4 (by with_unfolding_all rfl) (by kernel_rfl) ?_ | with_reducible refine d67_2_LBRead4 (by with_unfolding_all rfl) (by kernel_rfl) ?_ | with_reducible refine d67_3_LBRead4 (by with_unfolding_all rfl) (by kernel_rfl) ?_ | fail) <;> try simp only [go_sem, hq2] | fail)
              refine for_at (u3.1) [0, 2, 4, 5, 67] (fun i f h => f 68 = (.one (.c (.int .i64 (i)))) ∧ h = [.own 0 31 6 (some 1) [[.nl, .nl, .nl, .nl, .nl, .c (.int .i64 (0))]], rdO bs (rowsS bs 5 u3.2 i).2, .own 0 31 6 (some 1) [[.sl 3 (u0.1) 0 (u0.1), .sl 4 (u1.1) 0 (u1.1), .sl 5 (u2.1) 0 (u2.1), .sl 6 (i) 0 (i), .sl 7 (0) 0 (0), .c (.int .i64 (0))]], .own (u0.1) 129 2 none ((p0.1.map accR).map accountC), .own (u1.1) 131 2 none ((p1.1.map accR).map accountC), .own (u2.1) 134 3 none ((p2.1.map balR).map balC), .own (i) 137 5 none (((rowsS bs 5 u3.2 i).1.map lotR).map lotC), .own (0) 140 8 none ((([] : List Trade)).map tradeC)]) (GC.now ?_) ?_
              · simp only [go_sem, nc_0, true_and, hq2]
                rfl
              · rintro i f h J hi hA ⟨e68, rfl⟩ hJ
                simp only [go_sem, hq2] at hA
                simp only [go_sem, hA, e68, hq2]
                refine c_split (fun hb => ?_) (fun hb => ?_)
                rotate_left
                · simp only [go_sem, hb, hA, e68, hq2]
                  obtain rfl := ge_len hb hi
                  have hq3 := hA
                  clear hJ hA
                  have hl3 := rowsS_len bs 5 u3.2 u3.1
                  generalize rowsS bs 5 u3.2 u3.1 = p3 at hl3 hR ⊢
                  refine call_f _ (c_many bs 30 p3.2 hn _ 1 rfl _ ?_)
                  have hm4 := manyS_le bs 30 p3.2
                  rw [fin4, listS] at hR
                  generalize manyS bs 30 p3.2 = u4 at hm4 hR ⊢
                  (try simp only [go_sem, hq3]); repeat' (first | (with_reducible first | refine c_split ?_ ?_ | refine w_split ?_ ?_ | refine tw_split ?_ ?_) <;> intro hb <;> try simp only [go_sem, hb, hq3] | (first | with_reducible refine d67_0_LBRead4 (by with_unfolding_all rfl) (by kernel_rfl) ?_ | with_reducible refine d67_1_LBRead4 (by with_unfolding_all rfl) (by kernel_rfl) ?_ | with_reducible refine d67_2_LBRead4 (by with_unfolding_all rfl) (by kernel_rfl) ?_ | with_reducible refine d67_3_LBRead4 (by with_unfolding_all rfl) (by kernel_rfl) ?_ | fail) <;> try simp only [go_sem, hq3] | fail)
                  refine for_at (u4.1) [0, 2, 4, 5, 79] (fun i f h => f 80 = (.one (.c (.int .i64 (i)))) ∧ h = [.own 0 31 6 (some 1) [[.nl, .nl, .nl, .nl, .nl, .c (.int .i64 (0))]], rdO bs (rowsS bs 8 u4.2 i).2, .own 0 31 6 (some 1) [[.sl 3 (u0.1) 0 (u0.1), .sl 4 (u1.1) 0 (u1.1), .sl 5 (u2.1) 0 (u2.1), .sl 6 (u3.1) 0 (u3.1), .sl 7 (i) 0 (i), .c (.int .i64 (0))]], .own (u0.1) 129 2 none ((p0.1.map accR).map accountC), .own (u1.1) 131 2 none ((p1.1.map accR).map accountC), .own (u2.1) 134 3 none ((p2.1.map balR).map balC), .own (u3.1) 137 5 none ((p3.1.map lotR).map lotC), .own (i) 140 8 none (((rowsS bs 8 u4.2 i).1.map trdR).map tradeC)]) (GC.now ?_) ?_
                  · simp only [go_sem, nc_0, true_and, hq3]
                    rfl
                  · rintro i f h J hi hA ⟨e80, rfl⟩ hJ
                    simp only [go_sem, hq3] at hA
                    simp only [go_sem, hA, e80, hq3]
                    refine c_split (fun hb => ?_) (fun hb => ?_)
                    rotate_left
                    · simp only [go_sem, hb, hA, e80, hq3]
                      obtain rfl := ge_len hb hi
                      have hq4 := hA
                      clear hJ hA
                      have hl4 := rowsS_len bs 8 u4.2 u4.1
                      generalize rowsS bs 8 u4.2 u4.1 = p4 at hl4 hR ⊢
                      have hmap : (p0.1.map accR).length = u0.1 ∧ (p1.1.map accR).length = u1.1 ∧ (p2.1.map balR).length = u2.1 ∧ (p3.1.map lotR).length = u3.1 ∧ (p4.1.map trdR).length = u4.1 := by simp only [List.length_map]; exact ⟨hl0, hl1, hl2, hl3, hl4⟩
                      obtain ⟨g0, g1, g2, g3, g4⟩ := hmap
                      have tk0 : ((p0.1.map accR).map accountC).take u0.1 = (p0.1.map accR).map accountC := List.take_of_length_le (by rw [List.length_map, g0]; exact Nat.le_refl _)
                      have tk1 : ((p1.1.map accR).map accountC).take u1.1 = (p1.1.map accR).map accountC := List.take_of_length_le (by rw [List.length_map, g1]; exact Nat.le_refl _)
                      have tk2 : ((p2.1.map balR).map balC).take u2.1 = (p2.1.map balR).map balC := List.take_of_length_le (by rw [List.length_map, g2]; exact Nat.le_refl _)
                      have tk3 : ((p3.1.map lotR).map lotC).take u3.1 = (p3.1.map lotR).map lotC := List.take_of_length_le (by rw [List.length_map, g3]; exact Nat.le_refl _)
                      have tk4 : ((p4.1.map trdR).map tradeC).take u4.1 = (p4.1.map trdR).map tradeC := List.take_of_length_le (by rw [List.length_map, g4]; exact Nat.le_refl _)
                      (try simp only [go_sem, hq4]); repeat' (first | (with_reducible first | refine c_split ?_ ?_ | refine w_split ?_ ?_ | refine tw_split ?_ ?_) <;> intro hb <;> try simp only [go_sem, hb, hq4] | (first | with_reducible refine d67_0_LBRead4 (by with_unfolding_all rfl) (by kernel_rfl) ?_ | with_reducible refine d67_1_LBRead4 (by with_unfolding_all rfl) (by kernel_rfl) ?_ | with_reducible refine d67_2_LBRead4 (by with_unfolding_all rfl) (by kernel_rfl) ?_ | with_reducible refine d67_3_LBRead4 (by with_unfolding_all rfl) (by kernel_rfl) ?_ | fail) <;> try simp only [go_sem, hq4] | fail)
                      refine call_f _ (c_one bs p4.2 hn _ 1 rfl _ ?_)
                      have hsm : ∀ z, Small ⟨p0.1.map accR, p1.1.map accR, p2.1.map balR, p3.1.map lotR, p4.1.map trdR, z⟩ := fun z => ⟨le_len g0 (Nat.le_trans hm0 (by decide)), le_len g1 (Nat.le_trans hm1 (by decide)), le_len g2 (Nat.le_trans hm2 (by decide)), le_len g3 (Nat.le_trans hm3 (by decide)), le_len g4 (Nat.le_trans hm4 (by decide))⟩
                      rw [fin5] at hR
                      simp only [zeroB] at hR
                      generalize oneS bs p4.2 = q at hR ⊢
                      obtain ⟨x, a, bad⟩ := q
                      simp only at hR ⊢
                      have cB := fun K' hk' => c_impl_BooksOk ⟨p0.1.map accR, p1.1.map accR, p2.1.map balR, p3.1.map lotR, p4.1.map trdR, (x : Int)⟩ (hsm _) K' hk'
                      generalize hbo : booksOk ⟨p0.1.map accR, p1.1.map accR, p2.1.map balR, p3.1.map lotR, p4.1.map trdR, (x : Int)⟩ = bo at hR cB
                      simp only [booksC] at cB
                      have hzk : ∀ (_ : booksS bs = none), K (.tup [booksA zeroB, (.one (.c (.bool (false))))]) (ownB zeroB) := fun e => by rw [e] at hk; exact hk
                      simp only [booksA, ownB, zeroB] at hzk
                      cases bad with
                      | true =>
                        rw [if_pos (.inl rfl)] at hR
                        (try simp only [go_sem, hq4, rdO, rdC]); repeat' (first | (with_reducible first | refine c_split ?_ ?_ | refine w_split ?_ ?_ | refine tw_split ?_ ?_) <;> intro hb <;> try simp only [go_sem, hb, hq4, rdO, rdC] | (first | with_reducible refine d67_0_LBRead4 (by with_unfolding_all rfl) (by kernel_rfl) ?_ | with_reducible refine d67_1_LBRead4 (by with_unfolding_all rfl) (by kernel_rfl) ?_ | with_reducible refine d67_2_LBRead4 (by with_unfolding_all rfl) (by kernel_rfl) ?_ | with_reducible refine d67_3_LBRead4 (by with_unfolding_all rfl) (by kernel_rfl) ?_ | fail) <;> try simp only [go_sem, hq4, rdO, rdC] | fail)
                        refine hQO [8, 9, 10, 11, 12] _ _ (GC.step (Ghost.nlc (l := 0) rfl 0 0 rfl rfl 129 2) (GC.step (Ghost.nlc (l := 0) rfl 0 1 rfl rfl 131 2) (GC.step (Ghost.nlc (l := 0) rfl 0 2 rfl rfl 134 3) (GC.step (Ghost.nlc (l := 0) rfl 0 3 rfl rfl 137 5) (GC.step (Ghost.nlc (l := 0) rfl 0 4 rfl rfl 140 8) (GC.now ?_)))))) <;> simp only [Tryz.f67, go_sem, List.nodup_cons, List.nodup_nil, List.mem_cons, List.not_mem_nil, or_false, not_false_eq_true, List.idxOf?_cons, List.idxOf?_nil, Option.map_none, hq4]
                        exact hzk hR
                      | false =>
                        by_cases he : a = bs.length
                        · subst he
                          cases bo with
                          | false =>
                            rw [if_pos (.inr (.inr rfl))] at hR
                            (try simp only [go_sem, hq4, rdO, rdC, BEq.rfl, g0, g1, g2, g3, g4, tk0, tk1, tk2, tk3, tk4]); repeat' (first | (with_reducible first | refine c_split ?_ ?_ | refine w_split ?_ ?_ | refine tw_split ?_ ?_) <;> intro hb <;> try simp only [go_sem, hb, hq4, rdO, rdC, BEq.rfl, g0, g1, g2, g3, g4, tk0, tk1, tk2, tk3, tk4] | (first | with_reducible refine d67_0_LBRead4 (by with_unfolding_all rfl) (by kernel_rfl) ?_ | with_reducible refine d67_1_LBRead4 (by with_unfolding_all rfl) (by kernel_rfl) ?_ | with_reducible refine d67_2_LBRead4 (by with_unfolding_all rfl) (by kernel_rfl) ?_ | with_reducible refine d67_3_LBRead4 (by with_unfolding_all rfl) (by kernel_rfl) ?_ | refine call_c (cB _ ?_) | fail) <;> try simp only [go_sem, hq4, rdO, rdC, BEq.rfl, g0, g1, g2, g3, g4, tk0, tk1, tk2, tk3, tk4] | fail)
                            refine hQO [8, 9, 10, 11, 12] _ _ (GC.step (Ghost.nlc (l := 0) rfl 0 0 rfl rfl 129 2) (GC.step (Ghost.nlc (l := 0) rfl 0 1 rfl rfl 131 2) (GC.step (Ghost.nlc (l := 0) rfl 0 2 rfl rfl 134 3) (GC.step (Ghost.nlc (l := 0) rfl 0 3 rfl rfl 137 5) (GC.step (Ghost.nlc (l := 0) rfl 0 4 rfl rfl 140 8) (GC.now ?_)))))) <;> simp only [Tryz.f67, go_sem, List.nodup_cons, List.nodup_nil, List.mem_cons, List.not_mem_nil, or_false, not_false_eq_true, List.idxOf?_cons, List.idxOf?_nil, Option.map_none, hq4]
                            exact hzk hR
                          | true =>
                            rw [if_neg (fun q => by rcases q with q | q | q; cases q; exact q rfl; cases q)] at hR
                            rw [hR] at hk
                            simp only [Option.getD_some, Option.isSome_some, booksA, ownB, g0, g1, g2, g3, g4] at hk
                            (try simp only [go_sem, hq4, rdO, rdC, BEq.rfl, g0, g1, g2, g3, g4, tk0, tk1, tk2, tk3, tk4]); repeat' (first | (with_reducible first | refine c_split ?_ ?_ | refine w_split ?_ ?_ | refine tw_split ?_ ?_) <;> intro hb <;> try simp only [go_sem, hb, hq4, rdO, rdC, BEq.rfl, g0, g1, g2, g3, g4, tk0, tk1, tk2, tk3, tk4] | (first | with_reducible refine d67_0_LBRead4 (by with_unfolding_all rfl) (by kernel_rfl) ?_ | with_reducible refine d67_1_LBRead4 (by with_unfolding_all rfl) (by kernel_rfl) ?_ | with_reducible refine d67_2_LBRead4 (by with_unfolding_all rfl) (by kernel_rfl) ?_ | with_reducible refine d67_3_LBRead4 (by with_unfolding_all rfl) (by kernel_rfl) ?_ | refine call_c (cB _ ?_) | fail) <;> try simp only [go_sem, hq4, rdO, rdC, BEq.rfl, g0, g1, g2, g3, g4, tk0, tk1, tk2, tk3, tk4] | fail)
                            refine hQO [3, 4, 5, 6, 7] _ _ (GC.now ?_) <;> simp only [Tryz.f67, go_sem, List.nodup_cons, List.nodup_nil, List.mem_cons, List.not_mem_nil, or_false, not_false_eq_true, List.idxOf?_cons, List.idxOf?_nil, Option.map_none, hq4, g0, g1, g2, g3, g4, tk0, tk1, tk2, tk3, tk4]
                            exact hk
                        · rw [if_pos (.inr (.inl he))] at hR
                          have hne : ((a : Int) == (bs.length : Int)) = false := beq_eq_false_iff_ne.2 fun q => he (Int.ofNat_inj.1 q)
                          (try simp only [go_sem, hq4, rdO, rdC, hne]); repeat' (first | (with_reducible first | refine c_split ?_ ?_ | refine w_split ?_ ?_ | refine tw_split ?_ ?_) <;> intro hb <;> try simp only [go_sem, hb, hq4, rdO, rdC, hne] | (first | with_reducible refine d67_0_LBRead4 (by with_unfolding_all rfl) (by kernel_rfl) ?_ | with_reducible refine d67_1_LBRead4 (by with_unfolding_all rfl) (by kernel_rfl) ?_ | with_reducible refine d67_2_LBRead4 (by with_unfolding_all rfl) (by kernel_rfl) ?_ | with_reducible refine d67_3_LBRead4 (by with_unfolding_all rfl) (by kernel_rfl) ?_ | fail) <;> try simp only [go_sem, hq4, rdO, rdC, hne] | fail)
                          refine hQO [8, 9, 10, 11, 12] _ _ (GC.step (Ghost.nlc (l := 0) rfl 0 0 rfl rfl 129 2) (GC.step (Ghost.nlc (l := 0) rfl 0 1 rfl rfl 131 2) (GC.step (Ghost.nlc (l := 0) rfl 0 2 rfl rfl 134 3) (GC.step (Ghost.nlc (l := 0) rfl 0 3 rfl rfl 137 5) (GC.step (Ghost.nlc (l := 0) rfl 0 4 rfl rfl 140 8) (GC.now ?_)))))) <;> simp only [Tryz.f67, go_sem, List.nodup_cons, List.nodup_nil, List.mem_cons, List.not_mem_nil, or_false, not_false_eq_true, List.idxOf?_cons, List.idxOf?_nil, Option.map_none, hq4]
                          exact hzk hR
                    have hi := lt_len hb
                    have hw := wrap_nat i (by omega)
                    have hil : (i : Int) < ((u4.1 : Nat) : Int) := Int.ofNat_lt.2 hi
                    simp only [go_sem, hb, hA, e80, hq3]
                    try simp only [go_sem, hA, e80, hq3, hil]
                    have hli := rowsS_len bs 8 u4.2 i
                    have hs1 := rowsS_map bs 8 u4.2 i trdR
                    have hs2 : (rowsS bs 8 u4.2 (i + 1)).2 = (numsS bs (rowsS bs 8 u4.2 i).2 8).2 := rfl
                    have hir := le_1000 hi hm4 (by decide)
                    generalize rowsS bs 8 u4.2 i = P at hs1 hs2 hli ⊢
                    obtain ⟨rs, t0⟩ := P
                    simp only at hs1 hs2 hli ⊢
                    have hll : (rs.map trdR).length = i := by rw [List.length_map]; exact hli
                    (try simp only [go_sem, hA, e80, hq3, hil]); repeat' (first | (with_reducible first | refine c_split ?_ ?_ | refine w_split ?_ ?_ | refine tw_split ?_ ?_) <;> intro hb <;> try simp only [go_sem, hb, hA, e80, hq3, hil] | (first | with_reducible refine d67_0_LBRead4 (by with_unfolding_all rfl) (by kernel_rfl) ?_ | with_reducible refine d67_1_LBRead4 (by with_unfolding_all rfl) (by kernel_rfl) ?_ | with_reducible refine d67_2_LBRead4 (by with_unfolding_all rfl) (by kernel_rfl) ?_ | with_reducible refine d67_3_LBRead4 (by with_unfolding_all rfl) (by kernel_rfl) ?_ | fail) <;> try simp only [go_sem, hA, e80, hq3, hil] | fail)
                    refine call_f _ (c_trade bs t0 hn _ 1 rfl _ ?_)
                    generalize numsS bs t0 8 = q0 at hs1 hs2 ⊢
                    obtain ⟨x0, t1⟩ := q0
                    simp only [trdL, tradeC] at hs1 hs2 ⊢
                    generalize trdR x0 = y at hs1 ⊢
                    (try simp only [go_sem, hA, e80, hq3, hil]); repeat' (first | (with_reducible first | refine c_split ?_ ?_ | refine w_split ?_ ?_ | refine tw_split ?_ ?_) <;> intro hb <;> try simp only [go_sem, hb, hA, e80, hq3, hil] | (first | with_reducible refine d67_0_LBRead4 (by with_unfolding_all rfl) (by kernel_rfl) ?_ | with_reducible refine d67_1_LBRead4 (by with_unfolding_all rfl) (by kernel_rfl) ?_ | with_reducible refine d67_2_LBRead4 (by with_unfolding_all rfl) (by kernel_rfl) ?_ | with_reducible refine d67_3_LBRead4 (by with_unfolding_all rfl) (by kernel_rfl) ?_ | fail) <;> try simp only [go_sem, hA, e80, hq3, hil] | fail)
                    refine ap_end rfl (by rw [List.length_map, hll]) (by exact ap_room (by rw [List.length_map, hll]; exact hir) (Nat.le_of_ble_eq_true rfl) (Nat.le_of_ble_eq_true rfl)) ?_
                    (try simp only [go_sem, hA, e80, hq3, hil, hll]); repeat' (first | (with_reducible first | refine c_split ?_ ?_ | refine w_split ?_ ?_ | refine tw_split ?_ ?_) <;> intro hb <;> try simp only [go_sem, hb, hA, e80, hq3, hil, hll] | (first | with_reducible refine d67_0_LBRead4 (by with_unfolding_all rfl) (by kernel_rfl) ?_ | with_reducible refine d67_1_LBRead4 (by with_unfolding_all rfl) (by kernel_rfl) ?_ | with_reducible refine d67_2_LBRead4 (by with_unfolding_all rfl) (by kernel_rfl) ?_ | with_reducible refine d67_3_LBRead4 (by with_unfolding_all rfl) (by kernel_rfl) ?_ | fail) <;> try simp only [go_sem, hA, e80, hq3, hil, hll] | fail)
                    refine gc_trim 8 (by decide) (by simp only [go_sem]) (by simp only [go_sem]) (hJ _ _ hi (by simp only [go_sem, hA, e80, hq3]) ⟨?_, ?_⟩) <;> try simp only [go_sem, hA, e80, hq3, hw, hs1, hs2, hll]
                have hi := lt_len hb
                have hw := wrap_nat i (by omega)
                have hil : (i : Int) < ((u3.1 : Nat) : Int) := Int.ofNat_lt.2 hi
                simp only [go_sem, hb, hA, e68, hq2]
                try simp only [go_sem, hA, e68, hq2, hil]
                have hli := rowsS_len bs 5 u3.2 i
                have hs1 := rowsS_map bs 5 u3.2 i lotR
                have hs2 : (rowsS bs 5 u3.2 (i + 1)).2 = (numsS bs (rowsS bs 5 u3.2 i).2 5).2 := rfl
                have hir := le_1000 hi hm3 (by decide)
                generalize rowsS bs 5 u3.2 i = P at hs1 hs2 hli ⊢
                obtain ⟨rs, t0⟩ := P
                simp only at hs1 hs2 hli ⊢
                have hll : (rs.map lotR).length = i := by rw [List.length_map]; exact hli
                (try simp only [go_sem, hA, e68, hq2, hil]); repeat' (first | (with_reducible first | refine c_split ?_ ?_ | refine w_split ?_ ?_ | refine tw_split ?_ ?_) <;> intro hb <;> try simp only [go_sem, hb, hA, e68, hq2, hil] | (first | with_reducible refine d67_0_LBRead4 (by with_unfolding_all rfl) (by kernel_rfl) ?_ | with_reducible refine d67_1_LBRead4 (by with_unfolding_all rfl) (by kernel_rfl) ?_ | with_reducible refine d67_2_LBRead4 (by with_unfolding_all rfl) (by kernel_rfl) ?_ | with_reducible refine d67_3_LBRead4 (by with_unfolding_all rfl) (by kernel_rfl) ?_ | fail) <;> try simp only [go_sem, hA, e68, hq2, hil] | fail)
                refine call_f _ (c_lot bs t0 hn _ 1 rfl _ ?_)
                generalize numsS bs t0 5 = q0 at hs1 hs2 ⊢
                obtain ⟨x0, t1⟩ := q0
                simp only [lotL, lotC] at hs1 hs2 ⊢
                generalize lotR x0 = y at hs1 ⊢
                (try simp only [go_sem, hA, e68, hq2, hil]); repeat' (first | (with_reducible first | refine c_split ?_ ?_ | refine w_split ?_ ?_ | refine tw_split ?_ ?_) <;> intro hb <;> try simp only [go_sem, hb, hA, e68, hq2, hil] | (first | with_reducible refine d67_0_LBRead4 (by with_unfolding_all rfl) (by kernel_rfl) ?_ | with_reducible refine d67_1_LBRead4 (by with_unfolding_all rfl) (by kernel_rfl) ?_ | with_reducible refine d67_2_LBRead4 (by with_unfolding_all rfl) (by kernel_rfl) ?_ | with_reducible refine d67_3_LBRead4 (by with_unfolding_all rfl) (by kernel_rfl) ?_ | fail) <;> try simp only [go_sem, hA, e68, hq2, hil] | fail)
                refine ap_end rfl (by rw [List.length_map, hll]) (by exact ap_room (by rw [List.length_map, hll]; exact hir) (Nat.le_of_ble_eq_true rfl) (Nat.le_of_ble_eq_true rfl)) ?_
                (try simp only [go_sem, hA, e68, hq2, hil, hll]); repeat' (first | (with_reducible first | refine c_split ?_ ?_ | refine w_split ?_ ?_ | refine tw_split ?_ ?_) <;> intro hb <;> try simp only [go_sem, hb, hA, e68, hq2, hil, hll] | (first | with_reducible refine d67_0_LBRead4 (by with_unfolding_all rfl) (by kernel_rfl) ?_ | with_reducible refine d67_1_LBRead4 (by with_unfolding_all rfl) (by kernel_rfl) ?_ | with_reducible refine d67_2_LBRead4 (by with_unfolding_all rfl) (by kernel_rfl) ?_ | with_reducible refine d67_3_LBRead4 (by with_unfolding_all rfl) (by kernel_rfl) ?_ | fail) <;> try simp only [go_sem, hA, e68, hq2, hil, hll] | fail)
                refine gc_trim 8 (by decide) (by simp only [go_sem]) (by simp only [go_sem]) (hJ _ _ hi (by simp only [go_sem, hA, e68, hq2]) ⟨?_, ?_⟩) <;> try simp only [go_sem, hA, e68, hq2, hw, hs1, hs2, hll]
            have hi := lt_len hb
            have hw := wrap_nat i (by omega)
            have hil : (i : Int) < ((u2.1 : Nat) : Int) := Int.ofNat_lt.2 hi
            simp only [go_sem, hb, hA, e47, hq1]
            try simp only [go_sem, hA, e47, hq1, hil]
            have hli := rowsS_len bs 3 u2.2 i
            have hs1 := rowsS_map bs 3 u2.2 i balR
            have hs2 : (rowsS bs 3 u2.2 (i + 1)).2 = (numsS bs (rowsS bs 3 u2.2 i).2 3).2 := rfl
            have hir := le_1000 hi hm2 (by decide)
            generalize rowsS bs 3 u2.2 i = P at hs1 hs2 hli ⊢
            obtain ⟨rs, t0⟩ := P
            simp only at hs1 hs2 hli ⊢
            have hll : (rs.map balR).length = i := by rw [List.length_map]; exact hli
            simp only [numsS, List.nil_append, List.cons_append] at hs1 hs2
            (try simp only [go_sem, hA, e47, hq1, hil]); repeat' (first | (with_reducible first | refine c_split ?_ ?_ | refine w_split ?_ ?_ | refine tw_split ?_ ?_) <;> intro hb <;> try simp only [go_sem, hb, hA, e47, hq1, hil] | (first | with_reducible refine d67_0_LBRead4 (by with_unfolding_all rfl) (by kernel_rfl) ?_ | with_reducible refine d67_1_LBRead4 (by with_unfolding_all rfl) (by kernel_rfl) ?_ | with_reducible refine d67_2_LBRead4 (by with_unfolding_all rfl) (by kernel_rfl) ?_ | with_reducible refine d67_3_LBRead4 (by with_unfolding_all rfl) (by kernel_rfl) ?_ | fail) <;> try simp only [go_sem, hA, e47, hq1, hil] | fail)
            refine call_f _ (c_one bs t0 hn _ 1 rfl _ ?_)
            generalize oneS bs t0 = q0 at hs1 hs2 ⊢
            obtain ⟨x0, t1⟩ := q0
            simp only at hs1 hs2 ⊢
            (try simp only [go_sem, hA, e47, hq1, hil]); repeat' (first | (with_reducible first | refine c_split ?_ ?_ | refine w_split ?_ ?_ | refine tw_split ?_ ?_) <;> intro hb <;> try simp only [go_sem, hb, hA, e47, hq1, hil] | (first | with_reducible refine d67_0_LBRead4 (by with_unfolding_all rfl) (by kernel_rfl) ?_ | with_reducible refine d67_1_LBRead4 (by with_unfolding_all rfl) (by kernel_rfl) ?_ | with_reducible refine d67_2_LBRead4 (by with_unfolding_all rfl) (by kernel_rfl) ?_ | with_reducible refine d67_3_LBRead4 (by with_unfolding_all rfl) (by kernel_rfl) ?_ | fail) <;> try simp only [go_sem, hA, e47, hq1, hil] | fail)
            refine call_f _ (c_one bs t1 hn _ 1 rfl _ ?_)
            generalize oneS bs t1 = q1 at hs1 hs2 ⊢
            obtain ⟨x1, t2⟩ := q1
            simp only at hs1 hs2 ⊢
            (try simp only [go_sem, hA, e47, hq1, hil]); repeat' (first | (with_reducible first | refine c_split ?_ ?_ | refine w_split ?_ ?_ | refine tw_split ?_ ?_) <;> intro hb <;> try simp only [go_sem, hb, hA, e47, hq1, hil] | (first | with_reducible refine d67_0_LBRead4 (by with_unfolding_all rfl) (by kernel_rfl) ?_ | with_reducible refine d67_1_LBRead4 (by with_unfolding_all rfl) (by kernel_rfl) ?_ | with_reducible refine d67_2_LBRead4 (by with_unfolding_all rfl) (by kernel_rfl) ?_ | with_reducible refine d67_3_LBRead4 (by with_unfolding_all rfl) (by kernel_rfl) ?_ | fail) <;> try simp only [go_sem, hA, e47, hq1, hil] | fail)
            refine call_f _ (c_one bs t2 hn _ 1 rfl _ ?_)
            generalize oneS bs t2 = q2 at hs1 hs2 ⊢
            obtain ⟨x2, t3⟩ := q2
            simp only at hs1 hs2 ⊢
            rw [show balR [(x0 : Int), (x1 : Int), (x2 : Int)] = ⟨(x0 : Int), (x1 : Int), wrap64 ((x2 : Int) - 1000000000000000)⟩ from rfl] at hs1
            (try simp only [go_sem, hA, e47, hq1, hil]); repeat' (first | (with_reducible first | refine c_split ?_ ?_ | refine w_split ?_ ?_ | refine tw_split ?_ ?_) <;> intro hb <;> try simp only [go_sem, hb, hA, e47, hq1, hil] | (first | with_reducible refine d67_0_LBRead4 (by with_unfolding_all rfl) (by kernel_rfl) ?_ | with_reducible refine d67_1_LBRead4 (by with_unfolding_all rfl) (by kernel_rfl) ?_ | with_reducible refine d67_2_LBRead4 (by with_unfolding_all rfl) (by kernel_rfl) ?_ | with_reducible refine d67_3_LBRead4 (by with_unfolding_all rfl) (by kernel_rfl) ?_ | fail) <;> try simp only [go_sem, hA, e47, hq1, hil] | fail)
            refine ap_end rfl (by rw [List.length_map, hll]) (by exact ap_room (by rw [List.length_map, hll]; exact hir) (Nat.le_of_ble_eq_true rfl) (Nat.le_of_ble_eq_true rfl)) ?_
            (try simp only [go_sem, hA, e47, hq1, hil, hll]); repeat' (first | (with_reducible first | refine c_split ?_ ?_ | refine w_split ?_ ?_ | refine tw_split ?_ ?_) <;> intro hb <;> try simp only [go_sem, hb, hA, e47, hq1, hil, hll] | (first | with_reducible refine d67_0_LBRead4 (by with_unfolding_all rfl) (by kernel_rfl) ?_ | with_reducible refine d67_1_LBRead4 (by with_unfolding_all rfl) (by kernel_rfl) ?_ | with_reducible refine d67_2_LBRead4 (by with_unfolding_all rfl) (by kernel_rfl) ?_ | with_reducible refine d67_3_LBRead4 (by with_unfolding_all rfl) (by kernel_rfl) ?_ | fail) <;> try simp only [go_sem, hA, e47, hq1, hil, hll] | fail)
            refine gc_trim 8 (by decide) (by simp only [go_sem]) (by simp only [go_sem]) (hJ _ _ hi (by simp only [go_sem, hA, e47, hq1]) ⟨?_, ?_⟩) <;> try simp only [go_sem, hA, e47, hq1, hw, hs1, hs2, hll]
        have hi := lt_len hb
        have hw := wrap_nat i (by omega)
        have hil : (i : Int) < ((u1.1 : Nat) : Int) := Int.ofNat_lt.2 hi
        simp only [go_sem, hb, hA, e31, hq0]
        try simp only [go_sem, hA, e31, hq0, hil]
        have hli := rowsS_len bs 2 u1.2 i
        have hs1 := rowsS_map bs 2 u1.2 i accR
        have hs2 : (rowsS bs 2 u1.2 (i + 1)).2 = (numsS bs (rowsS bs 2 u1.2 i).2 2).2 := rfl
        have hir := le_1000 hi hm1 (by decide)
        generalize rowsS bs 2 u1.2 i = P at hs1 hs2 hli ⊢
        obtain ⟨rs, t0⟩ := P
        simp only at hs1 hs2 hli ⊢
        have hll : (rs.map accR).length = i := by rw [List.length_map]; exact hli
        simp only [numsS, List.nil_append, List.cons_append] at hs1 hs2
        (try simp only [go_sem, hA, e31, hq0, hil]); repeat' (first | (with_reducible first | refine c_split ?_ ?_ | refine w_split ?_ ?_ | refine tw_split ?_ ?_) <;> intro hb <;> try simp only [go_sem, hb, hA, e31, hq0, hil] | (first | with_reducible refine d67_0_LBRead4 (by with_unfolding_all rfl) (by kernel_rfl) ?_ | with_reducible refine d67_1_LBRead4 (by with_unfolding_all rfl) (by kernel_rfl) ?_ | with_reducible refine d67_2_LBRead4 (by with_unfolding_all rfl) (by kernel_rfl) ?_ | with_reducible refine d67_3_LBRead4 (by with_unfolding_all rfl) (by kernel_rfl) ?_ | fail) <;> try simp only [go_sem, hA, e31, hq0, hil] | fail)
        refine call_f _ (c_one bs t0 hn _ 1 rfl _ ?_)
        generalize oneS bs t0 = q0 at hs1 hs2 ⊢
        obtain ⟨x0, t1⟩ := q0
        simp only at hs1 hs2 ⊢
        (try simp only [go_sem, hA, e31, hq0, hil]); repeat' (first | (with_reducible first | refine c_split ?_ ?_ | refine w_split ?_ ?_ | refine tw_split ?_ ?_) <;> intro hb <;> try simp only [go_sem, hb, hA, e31, hq0, hil] | (first | with_reducible refine d67_0_LBRead4 (by with_unfolding_all rfl) (by kernel_rfl) ?_ | with_reducible refine d67_1_LBRead4 (by with_unfolding_all rfl) (by kernel_rfl) ?_ | with_reducible refine d67_2_LBRead4 (by with_unfolding_all rfl) (by kernel_rfl) ?_ | with_reducible refine d67_3_LBRead4 (by with_unfolding_all rfl) (by kernel_rfl) ?_ | fail) <;> try simp only [go_sem, hA, e31, hq0, hil] | fail)
        refine call_f _ (c_one bs t1 hn _ 1 rfl _ ?_)
        generalize oneS bs t1 = q1 at hs1 hs2 ⊢
        obtain ⟨x1, t2⟩ := q1
        simp only at hs1 hs2 ⊢
        rw [show accR [(x0 : Int), (x1 : Int)] = ⟨(x0 : Int), (x1 : Int)⟩ from rfl] at hs1
        (try simp only [go_sem, hA, e31, hq0, hil]); repeat' (first | (with_reducible first | refine c_split ?_ ?_ | refine w_split ?_ ?_ | refine tw_split ?_ ?_) <;> intro hb <;> try simp only [go_sem, hb, hA, e31, hq0, hil] | (first | with_reducible refine d67_0_LBRead4 (by with_unfolding_all rfl) (by kernel_rfl) ?_ | with_reducible refine d67_1_LBRead4 (by with_unfolding_all rfl) (by kernel_rfl) ?_ | with_reducible refine d67_2_LBRead4 (by with_unfolding_all rfl) (by kernel_rfl) ?_ | with_reducible refine d67_3_LBRead4 (by with_unfolding_all rfl) (by kernel_rfl) ?_ | fail) <;> try simp only [go_sem, hA, e31, hq0, hil] | fail)
        refine ap_end rfl (by rw [List.length_map, hll]) (by exact ap_room (by rw [List.length_map, hll]; exact hir) (Nat.le_of_ble_eq_true rfl) (Nat.le_of_ble_eq_true rfl)) ?_
        (try simp only [go_sem, hA, e31, hq0, hil, hll]); repeat' (first | (with_reducible first | refine c_split ?_ ?_ | refine w_split ?_ ?_ | refine tw_split ?_ ?_) <;> intro hb <;> try simp only [go_sem, hb, hA, e31, hq0, hil, hll] | (first | with_reducible refine d67_0_LBRead4 (by with_unfolding_all rfl) (by kernel_rfl) ?_ | with_reducible refine d67_1_LBRead4 (by with_unfolding_all rfl) (by kernel_rfl) ?_ | with_reducible refine d67_2_LBRead4 (by with_unfolding_all rfl) (by kernel_rfl) ?_ | with_reducible refine d67_3_LBRead4 (by with_unfolding_all rfl) (by kernel_rfl) ?_ | fail) <;> try simp only [go_sem, hA, e31, hq0, hil, hll] | fail)
        refine gc_trim 8 (by decide) (by simp only [go_sem]) (by simp only [go_sem]) (hJ _ _ hi (by simp only [go_sem, hA, e31, hq0]) ⟨?_, ?_⟩) <;> try simp only [go_sem, hA, e31, hq0, hw, hs1, hs2, hll]
    have hi := lt_len hb
    have hw := wrap_nat i (by omega)
    have hil : (i : Int) < ((u0.1 : Nat) : Int) := Int.ofNat_lt.2 hi
    simp only [go_sem, hb, hA, e15]
    try simp only [go_sem, hA, e15, hil]
    have hli := rowsS_len bs 2 u0.2 i
    have hs1 := rowsS_map bs 2 u0.2 i accR
    have hs2 : (rowsS bs 2 u0.2 (i + 1)).2 = (numsS bs (rowsS bs 2 u0.2 i).2 2).2 := rfl
    have hir := le_1000 hi hm0 (by decide)
    generalize rowsS bs 2 u0.2 i = P at hs1 hs2 hli ⊢
    obtain ⟨rs, t0⟩ := P
    simp only at hs1 hs2 hli ⊢
    have hll : (rs.map accR).length = i := by rw [List.length_map]; exact hli
    simp only [numsS, List.nil_append, List.cons_append] at hs1 hs2
    (try simp only [go_sem, hA, e15, hil]); repeat' (first | (with_reducible first | refine c_split ?_ ?_ | refine w_split ?_ ?_ | refine tw_split ?_ ?_) <;> intro hb <;> try simp only [go_sem, hb, hA, e15, hil] | (first | with_reducible refine d67_0_LBRead4 (by with_unfolding_all rfl) (by kernel_rfl) ?_ | with_reducible refine d67_1_LBRead4 (by with_unfolding_all rfl) (by kernel_rfl) ?_ | with_reducible refine d67_2_LBRead4 (by with_unfolding_all rfl) (by kernel_rfl) ?_ | with_reducible refine d67_3_LBRead4 (by with_unfolding_all rfl) (by kernel_rfl) ?_ | fail) <;> try simp only [go_sem, hA, e15, hil] | fail)
    refine call_f _ (c_one bs t0 hn _ 1 rfl _ ?_)
    generalize oneS bs t0 = q0 at hs1 hs2 ⊢
    obtain ⟨x0, t1⟩ := q0
    simp only at hs1 hs2 ⊢
    (try simp only [go_sem, hA, e15, hil]); repeat' (first | (with_reducible first | refine c_split ?_ ?_ | refine w_split ?_ ?_ | refine tw_split ?_ ?_) <;> intro hb <;> try simp only [go_sem, hb, hA, e15, hil] | (first | with_reducible refine d67_0_LBRead4 (by with_unfolding_all rfl) (by kernel_rfl) ?_ | with_reducible refine d67_1_LBRead4 (by with_unfolding_all rfl) (by kernel_rfl) ?_ | with_reducible refine d67_2_LBRead4 (by with_unfolding_all rfl) (by kernel_rfl) ?_ | with_reducible refine d67_3_LBRead4 (by with_unfolding_all rfl) (by kernel_rfl) ?_ | fail) <;> try simp only [go_sem, hA, e15, hil] | fail)
    refine call_f _ (c_one bs t1 hn _ 1 rfl _ ?_)
    generalize oneS bs t1 = q1 at hs1 hs2 ⊢
    obtain ⟨x1, t2⟩ := q1
    simp only at hs1 hs2 ⊢
    rw [show accR [(x0 : Int), (x1 : Int)] = ⟨(x0 : Int), (x1 : Int)⟩ from rfl] at hs1
    (try simp only [go_sem, hA, e15, hil]); repeat' (first | (with_reducible first | refine c_split ?_ ?_ | refine w_split ?_ ?_ | refine tw_split ?_ ?_) <;> intro hb <;> try simp only [go_sem, hb, hA, e15, hil] | (first | with_reducible refine d67_0_LBRead4 (by with_unfolding_all rfl) (by kernel_rfl) ?_ | with_reducible refine d67_1_LBRead4 (by with_unfolding_all rfl) (by kernel_rfl) ?_ | with_reducible refine d67_2_LBRead4 (by with_unfolding_all rfl) (by kernel_rfl) ?_ | with_reducible refine d67_3_LBRead4 (by with_unfolding_all rfl) (by kernel_rfl) ?_ | fail) <;> try simp only [go_sem, hA, e15, hil] | fail)
    refine ap_end rfl (by rw [List.length_map, hll]) (by exact ap_room (by rw [List.length_map, hll]; exact hir) (Nat.le_of_ble_eq_true rfl) (Nat.le_of_ble_eq_true rfl)) ?_
    (try simp only [go_sem, hA, e15, hil, hll]); repeat' (first | (with_reducible first | refine c_split ?_ ?_ | refine w_split ?_ ?_ | refine tw_split ?_ ?_) <;> intro hb <;> try simp only [go_sem, hb, hA, e15, hil, hll] | (first | with_reducible refine d67_0_LBRead4 (by with_unfolding_all rfl) (by kernel_rfl) ?_ | with_reducible refine d67_1_LBRead4 (by with_unfolding_all rfl) (by kernel_rfl) ?_ | with_reducible refine d67_2_LBRead4 (by with_unfolding_all rfl) (by kernel_rfl) ?_ | with_reducible refine d67_3_LBRead4 (by with_unfolding_all rfl) (by kernel_rfl) ?_ | fail) <;> try simp only [go_sem, hA, e15, hil, hll] | fail)
    refine gc_trim 8 (by decide) (by simp only [go_sem]) (by simp only [go_sem]) (hJ _ _ hi (by simp only [go_sem, hA, e15]) ⟨?_, ?_⟩) <;> try simp only [go_sem, hA, e15, hw, hs1, hs2, hll]
end Go.Proofs.YtlefjpbhbiajfaaGreat
end
section
namespace Go.Proofs.YtlefjpbhbiajfaaGreat
open Go.BL Go.RowKit
set_option linter.unusedVariables false
set_option linter.unusedSimpArgs false
set_option maxRecDepth 100000
attribute [local go_sem] byteC
def putN (x : Nat) : List UInt8 := if 127 < x then UInt8.ofNat (x % 128 + 128) :: putN (x / 128) else [UInt8.ofNat x]
termination_by x
decreasing_by omega
theorem putN_big {x : Nat} (h : 127 < x) : putN x = UInt8.ofNat (x % 128 + 128) :: putN (x / 128) := by rw [putN, if_pos h]
theorem putN_small {x : Nat} (h : ¬ 127 < x) : putN x = [UInt8.ofNat x] := by rw [putN, if_neg h]
def putNum (x : Int) : List UInt8 := if x < 0 then [] else putN x.toNat
theorem put_step {x out f : Nat} (hx : 127 < x) (hf : x < 128 ^ f) (h : out + f = 9) : ∃ f', f = f' + 1 ∧ x / 128 < 128 ^ f' ∧ out + 1 + f' = 9 := by
  obtain ⟨f', rfl⟩ : ∃ q, f = q + 1 := ⟨f - 1, by cases f; simp at hf; omega; omega⟩
  refine ⟨f', rfl, ?_, by omega⟩
  rw [Nat.pow_succ] at hf
  exact Nat.div_lt_of_lt_mul (by rw [Nat.mul_comm]; exact hf)
theorem put_less {x : Nat} (h : 127 < x) : x / 128 < x := by omega
theorem shr7 (x : Nat) : (x : Int).fdiv (2 ^ min (7 : Int).toNat 64) = ((x / 128 : Nat) : Int) := by
  rw [show (2 : Int) ^ min (7 : Int).toNat 64 = 128 by decide, Int.fdiv_eq_ediv_of_nonneg _ (by decide)]; rfl
theorem and127 (x : Nat) (hx : x < 9223372036854775808) : IntKind.i64.wrap (((BitVec.ofInt IntKind.i64.bits (x : Int) &&& BitVec.ofInt IntKind.i64.bits 127).toNat : Nat) : Int) = ((x % 128 : Nat) : Int) := by
  have h := and_nat x 127 hx (by omega)
  rw [Nat.and_two_pow_sub_one_eq_mod x 7] at h
  exact h
theorem or128 (x : Nat) : IntKind.i64.wrap (((BitVec.ofInt IntKind.i64.bits ((x % 128 : Nat) : Int) ||| BitVec.ofInt IntKind.i64.bits 128).toNat : Nat) : Int) = ((x % 128 + 128 : Nat) : Int) := by
  have h := or_nat (x % 128) 128 (by omega) (by omega)
  have h2 : x % 128 ||| 128 = x % 128 + 128 := or_add (x % 128) 1 1 (by omega)
  rw [h2] at h
  exact h
theorem c_impl_PutNum (x : Int) (hx : x < 9223372036854775808) (K : AV → AH → Prop) (hk : K (.one (.sl 0 0 0 (putNum x).length)) [.own 0 5 1 none ((putNum x).map byteC)]) : ACalls Tryz.prog 153 [(.one (.c (.int .i64 (x))))] [] K := by
  refine acall_c Tryz.f153.results.toList mixed Tryz.func153 rfl rfl (by kernel_rfl) ?_
  intro Q hQ hQO
  simp only [go_sem]
  (try simp only [go_sem]); repeat' (first | (with_reducible first | refine c_split ?_ ?_ | refine w_split ?_ ?_) <;> intro hb <;> try simp only [go_sem, hb] | fail)
  · rw [putNum, if_pos (of_decide_eq_true hb)] at hk
    refine hQO [0] _ _ (GC.step (Ghost.nlr 2 (by simp only [go_sem]) 5 1) (GC.now ?_)) <;> simp only [Tryz.f153, go_sem, List.nodup_cons, List.nodup_nil, List.mem_cons, List.not_mem_nil, or_false, not_false_eq_true, List.idxOf?_cons, List.idxOf?_nil, Option.map_none]
    exact hk
  rw [putNum, if_neg (of_decide_eq_false hb)] at hk
  obtain ⟨x0, rfl⟩ : ∃ q : Nat, x = (q : Int) := ⟨x.toNat, by have := of_decide_eq_false hb; omega⟩
  rw [Int.toNat_natCast] at hk
  have h07 : (0 : Int) ≤ 7 := by decide
  refine while_at (α := Nat × List UInt8 × Nat × Nat × Option Nat) (fun ⟨cur, out, n, g, cap⟩ => cur) [] (fun ⟨cur, out, n, g, cap⟩ f h => f 0 = (.one (.c (.int .i64 ((cur : Int))))) ∧ f 3 = .one (.sl 0 g 0 out.length) ∧ h = [.own g 5 1 cap (out.map byteC)] ∧ putN x0 = out ++ putN cur ∧ cur < 128 ^ n ∧ out.length + n = 9 ∧ cur < 9223372036854775808) (x0, [], 9, 0, some 0) (GC.now ?_) ?_
  · simp only [go_sem, nc_0, true_and]
    simp; omega
  · rintro ⟨cur, out, n, g, cap⟩ f h J hA ⟨e0, e3, rfl, hP⟩ hJ
    simp only [go_sem] at hA
    try dsimp only at hJ
    simp only [go_sem, hA, e0, e3]
    obtain ⟨hp1, hp2, hp3, hp4⟩ := hP
    refine c_split (fun hb => ?_) (fun hb => ?_)
    · have hbig : 127 < cur := by have := of_decide_eq_true hb; omega
      obtain ⟨n', rfl, q1, q2⟩ := put_step hbig hp2 hp3
      rw [putN_big hbig] at hp1
      have hand := and127 cur hp4
      have hor := or128 cur
      simp only [IntKind.bits] at hand hor
      (try simp only [go_sem, hA, e0, e3, hand, hor, b_and, b_or, b_shr, h07, shr7, u8_wrapn]); repeat' (first | (with_reducible first | refine c_split ?_ ?_ | refine w_split ?_ ?_) <;> intro hb <;> try simp only [go_sem, hb, hA, e0, e3, hand, hor, b_and, b_or, b_shr, h07, shr7, u8_wrapn] | fail)
      refine ap_end rfl (by simp) (by simp; omega) ?_
      (try simp only [go_sem, hA, e0, e3, b_shr, h07, shr7]); repeat' (first | (with_reducible first | refine c_split ?_ ?_ | refine w_split ?_ ?_) <;> intro hb <;> try simp only [go_sem, hb, hA, e0, e3, b_shr, h07, shr7] | fail)
      refine gc_trim 1 (by decide) (by simp only [go_sem]) (by simp only [go_sem]) (hJ (cur / 128, out ++ [UInt8.ofNat (cur % 128 + 128)], n', g + 1, none) _ _ (by exact put_less hbig) (by simp only [go_sem, hA, e0, e3]) ⟨?_, ?_, ?_, ?_⟩) <;> try simp only [go_sem, hA, e0, e3]
      exact ⟨by rw [hp1]; simp, q1, by simpa using q2, by omega⟩
    · have hsm : ¬ 127 < cur := by have := of_decide_eq_false hb; omega
      rw [putN_small hsm] at hp1
      (try simp only [go_sem, hA, e0, e3, u8_wrapn]); repeat' (first | (with_reducible first | refine c_split ?_ ?_ | refine w_split ?_ ?_) <;> intro hb <;> try simp only [go_sem, hb, hA, e0, e3, u8_wrapn] | fail)
      refine ap_end rfl (by simp) (by simp; omega) ?_
      (try simp only [go_sem, hA, e0, e3]); repeat' (first | (with_reducible first | refine c_split ?_ ?_ | refine w_split ?_ ?_) <;> intro hb <;> try simp only [go_sem, hb, hA, e0, e3] | fail)
      have hl : (putN x0).length = out.length + 1 := by rw [hp1]; simp
      rw [hl] at hk
      refine hQO [0] _ _ (GC.now ?_) <;> simp only [Tryz.f153, go_sem, List.nodup_cons, List.nodup_nil, List.mem_cons, List.not_mem_nil, or_false, not_false_eq_true, List.idxOf?_cons, List.idxOf?_nil, Option.map_none, ← hp1]
      exact hk
theorem im_row {K : AV → AH → Prop} (bs : List UInt8) (hk : K (.one (.im (bs.map byteC))) []) : K (retA [.own 0 5 1 none (bs.map byteC)] (.one (.sl 0 0 0 bs.length))) [] := by
  have : retA [AO.own 0 5 1 none (bs.map byteC)] (.one (.sl 0 0 0 bs.length)) = (.one (.im (bs.map byteC))) := by
    simp only [retA, imA, imV, objR_at, List.getElem?_cons_zero, obR_own, Nat.zero_add, List.drop_zero, byteC_tk, byteC_clz, List.length_map, Nat.le_refl, if_true]
  rw [this]; exact hk
theorem c_impl_PutNum_im (x : Int) (hx : x < 9223372036854775808) (K : AV → AH → Prop) (hk : K (.one (.im ((putNum x).map byteC))) []) : ACalls Tryz.prog 153 [(.one (.c (.int .i64 (x))))] [] K := acall_im (c_impl_PutNum x hx _ (im_row _ hk))
theorem c_Grow (n : Nat) (h : AH) (h0 : 0 < n) (h1 : n ≤ 1000000000000) (K : AV → AH → Prop) (hk : K (.one (.sl h.length 0 0 0)) (h ++ [.own 0 5 1 none (List.replicate n [.c (.int .u8 (0))])])) : ACalls Tryz.prog 262 [.one .nl, (.one (.c (.int .i64 ((n : Int)))))] h K := by
  have hw : wrap64 ((n : Int) - 0) = n := by unfold wrap64; omega
  have h2 : decide ((n : Int) < 0) = false := decide_eq_false (by omega)
  have h3 : decide ((0 : Int) < (n : Int)) = true := decide_eq_true (by omega)
  have h4 : (0 : Int) ≤ (n : Int) := by omega
  have h5 : (n : Int) ≤ 9223372036854775807 := by omega
  have h6 : n * 1 ≤ 281474976710656 := by omega
  have hnw : ∀ a : AO, (h ++ [a])[h.length]? = some a := fun a => by simp
  have p0 : (0 : Int) ≤ 0 := Int.le_refl _
  have t0 : Int.toNat 0 = 0 := rfl
  refine acall_w Tryz.f262.results.toList mixed Tryz.func262 rfl rfl (by kernel_rfl) ?_
  intro Q hQ
  simp only [go_sem]
  have hw0 : wrap64 ((0 : Int) - 0) = 0 := by unfold wrap64; omega
  (try simp only [go_sem, hw, hw0, h2, h3]); repeat' (first | (with_reducible first | refine c_split ?_ ?_ | refine w_split ?_ ?_) <;> intro hb <;> try simp only [go_sem, hb, hw, hw0, h2, h3] | fail)
  rw [sl_nl (he := (by kernel_rfl : elemA Tryz.prog 79 = some 5)) (hn := (by kernel_rfl : sizeA Tryz.prog 5 = some 1)) (h1 := rfl) (h2 := rfl)]
  (try simp only [go_sem, Option.isSome_none, srB_i, h4, h5, h6]); repeat' (first | (with_reducible first | refine c_split ?_ ?_ | refine w_split ?_ ?_) <;> intro hb <;> try simp only [go_sem, hb, Option.isSome_none, srB_i, h4, h5, h6] | fail)
  refine ap_nl (by simp; omega) ?_
  (try simp only [go_sem, Nat.zero_le, p0, t0, hnw]); repeat' (first | (with_reducible first | refine c_split ?_ ?_ | refine w_split ?_ ?_) <;> intro hb <;> try simp only [go_sem, hb, Nat.zero_le, p0, t0, hnw] | fail)
  refine hQ _ _ (GC.now ?_) <;> simp only [retW, Tryz.f262, go_sem]
  exact hk
def rowC (bs : List UInt8) : List CV := [.im (bs.map byteC)]
def lenTo (xss : List (List UInt8)) : Nat → Nat
  | 0 => 0
  | i + 1 => lenTo xss i + (xss[i]?.getD []).length
theorem lenTo_eq (xss : List (List UInt8)) : ∀ i, lenTo xss i = ((xss.take i).flatten).length
  | 0 => rfl
  | i + 1 => by
    rw [lenTo, lenTo_eq xss i, List.take_add_one]
    cases xss[i]? <;> simp
theorem lenTo_mono (xss : List (List UInt8)) : ∀ {i j : Nat}, i ≤ j → lenTo xss i ≤ lenTo xss j := fun {i j} h => by
  induction j with
  | zero => rw [show i = 0 by omega]; exact Nat.le_refl _
  | succ j ih =>
    rcases Nat.lt_or_ge i (j + 1) with h' | h'
    · have := ih (by omega)
      rw [lenTo]; omega
    · rw [show i = j + 1 by omega]; exact Nat.le_refl _
theorem cset_fill (A : List UInt8) (n m : Nat) (bs : List UInt8) (z : List CV) (h : A.length + bs.length + m = n) : cset (A.map byteC ++ List.replicate (n - A.length) z) A.length (bs.map byteC) = (A ++ bs).map byteC ++ List.replicate (n - (A ++ bs).length) z := by
  apply List.ext_getElem?
  intro j
  rw [cset_get _ _ _ _ (by simp; omega)]
  simp only [List.length_map]
  by_cases hc : A.length ≤ j ∧ j < A.length + bs.length
  · rw [if_pos hc, List.map_append, List.append_assoc, List.getElem?_append_right (by simp; omega), List.getElem?_append_left (by simp; omega)]
    congr 1; simp
  · rw [if_neg hc]
    by_cases h1 : j < A.length
    · rw [List.getElem?_append_left (by simpa using h1), List.map_append, List.append_assoc, List.getElem?_append_left (by simpa using h1)]
    · rw [List.getElem?_append_right (by simp; omega), List.getElem?_append_right (by simp; omega), List.getElem?_replicate, List.getElem?_replicate]
      simp only [List.length_map, List.length_append]
      by_cases h2 : j < n
      · rw [if_pos (by omega), if_pos (by omega)]
      · rw [if_neg (by omega), if_neg (by omega)]
theorem fee_rep (n : Nat) : freeE (List.replicate n [.c (.int .u8 (0))]) = true := by
  unfold freeE
  rw [List.all_eq_true]
  intro x hx
  rw [List.eq_of_mem_replicate hx]
  rfl
theorem c_Concat (xss : List (List UInt8)) (hn : xss.length ≤ 1000000000) (h0 : 0 < lenTo xss xss.length) (h1 : lenTo xss xss.length ≤ 1000000000000) (K : AV → AH → Prop) (hk : K (.one (.sl 0 0 0 xss.flatten.length)) [.own 0 5 1 none (xss.flatten.map byteC)]) : ACalls Tryz.prog 217 [(.one (.im (xss.map rowC)))] [] K := by
  have hlt : lenTo xss xss.length = xss.flatten.length := by rw [lenTo_eq, List.take_length]
  refine acall_c Tryz.f217.results.toList mixed Tryz.func217 rfl rfl (by kernel_rfl) ?_
  intro Q hQ hQO
  simp only [go_sem, rowC]
  refine for_at (xss.length) [0, 9, 10] (fun i f h => f 11 = (.one (.c (.int .i64 (i)))) ∧ f 3 = (.one (.c (.int .i64 ((lenTo xss i : Int))))) ∧ h = []) (GC.now ?_) ?_
  · simp only [go_sem, nc_0, true_and, rowC]
    simp [lenTo]
  · rintro i f h J hi hA ⟨e11, e3, rfl⟩ hJ
    simp only [go_sem, rowC] at hA
    simp only [go_sem, hA, e11, e3, rowC]
    refine c_split (fun hb => ?_) (fun hb => ?_)
    rotate_left
    · simp only [go_sem, hb, hA, e11, e3, rowC]
      obtain rfl := ge_len hb hi
      (try simp only [go_sem, hA, e11, e3, rowC, List.nil_append, List.length_nil, fee_rep]); repeat' (first | (with_reducible first | refine c_split ?_ ?_ | refine w_split ?_ ?_) <;> intro hb <;> try simp only [go_sem, hb, hA, e11, e3, rowC, List.nil_append, List.length_nil, fee_rep] | refine call_n (c_Grow (lenTo xss xss.length) [] h0 h1 _ ?_) <;> try simp only [go_sem, hA, e11, e3, rowC, List.nil_append, List.length_nil, fee_rep] | fail)
      refine for_at (xss.length) [25, 26] (fun i f h => f 27 = (.one (.c (.int .i64 (i)))) ∧ f 6 = .one (.sl 0 0 0 (lenTo xss i)) ∧ h = [.own 0 5 1 none (((xss.take i).flatten).map byteC ++ List.replicate (lenTo xss xss.length - lenTo xss i) [.c (.int .u8 (0))])]) (GC.now ?_) ?_
      · simp only [go_sem, nc_0, true_and, rowC]
        simp [lenTo]; exact .inr rfl
      · rintro i f h J hi hA ⟨e27, e6, rfl⟩ hJ
        simp only [go_sem, rowC] at hA
        simp only [go_sem, hA, e27, e6, rowC]
        refine c_split (fun hb => ?_) (fun hb => ?_)
        rotate_left
        · simp only [go_sem, hb, hA, e27, e6, rowC]
          obtain rfl := ge_len hb hi
          (try simp only [go_sem, hA, e27, e6, rowC]); repeat' (first | (with_reducible first | refine c_split ?_ ?_ | refine w_split ?_ ?_) <;> intro hb <;> try simp only [go_sem, hb, hA, e27, e6, rowC] | fail)
          refine hQO [0] _ _ (GC.now ?_) <;> simp only [Tryz.f217, go_sem, List.nodup_cons, List.nodup_nil, List.mem_cons, List.not_mem_nil, or_false, not_false_eq_true, List.idxOf?_cons, List.idxOf?_nil, Option.map_none, List.take_length, Nat.sub_self, List.replicate_zero, List.append_nil, hlt]
          exact hk
        have hi := lt_len hb
        have hw := wrap_nat i (by omega)
        have hil : (i : Int) < ((xss.length : Nat) : Int) := Int.ofNat_lt.2 hi
        have hg0 : (xss)[i]? = some ((xss)[i]) := List.getElem?_eq_getElem (by omega)
        simp only [go_sem, hb, hA, e27, e6, rowC, hg0]
        try simp only [go_sem, hA, e27, e6, rowC, hil, hg0]
        have hm := lenTo_mono xss (show i + 1 ≤ xss.length by omega)
        have hs : lenTo xss (i + 1) = lenTo xss i + xss[i].length := by rw [lenTo, hg0]; rfl
        (try simp only [go_sem, hA, e27, e6, rowC, hil, hg0]); repeat' (first | (with_reducible first | refine c_split ?_ ?_ | refine w_split ?_ ?_) <;> intro hb <;> try simp only [go_sem, hb, hA, e27, e6, rowC, hil, hg0] | fail)
        have hle := lenTo_eq xss i
        have hl1 : ((xss.take i).flatten).length + xss[i].length ≤ lenTo xss xss.length := by omega
        have hfl : (xss.take (i + 1)).flatten = (xss.take i).flatten ++ xss[i] := by rw [List.take_add_one, hg0, Option.toList_some, List.flatten_append, List.flatten_cons, List.flatten_nil, List.append_nil]
        refine ap_in rfl (by simp only [List.length_map, List.length_append, List.length_replicate]; omega) ?_
        have hcs := cset_fill ((xss.take i).flatten) (lenTo xss xss.length) (lenTo xss xss.length - lenTo xss (i + 1)) xss[i] [.c (.int .u8 (0))] (by omega)
        rw [← hfl, ← lenTo_eq xss (i + 1), ← hle] at hcs
        (try simp only [go_sem, hA, e27, e6, rowC, hil, hg0, Nat.zero_add, hcs, List.length_map, ← hs]); repeat' (first | (with_reducible first | refine c_split ?_ ?_ | refine w_split ?_ ?_) <;> intro hb <;> try simp only [go_sem, hb, hA, e27, e6, rowC, hil, hg0, Nat.zero_add, hcs, List.length_map, ← hs] | fail)
        refine GC.now (hJ _ _ hi (by simp only [go_sem, hA, e27, e6, rowC]) ⟨?_, ?_, ?_⟩) <;> try simp only [go_sem, hA, e27, e6, rowC, hw]
    have hi := lt_len hb
    have hw := wrap_nat i (by omega)
    have hil : (i : Int) < ((xss.length : Nat) : Int) := Int.ofNat_lt.2 hi
    have hg0 : (xss)[i]? = some ((xss)[i]) := List.getElem?_eq_getElem (by omega)
    simp only [go_sem, hb, hA, e11, e3, rowC, hg0]
    try simp only [go_sem, hA, e11, e3, rowC, hil, hg0]
    have hm := lenTo_mono xss (show i + 1 ≤ xss.length by omega)
    have hs : lenTo xss (i + 1) = lenTo xss i + xss[i].length := by rw [lenTo, hg0]; rfl
    have hw2 : wrap64 ((lenTo xss i : Int) + (xss[i].length : Int)) = ((lenTo xss (i + 1) : Nat) : Int) := by rw [hs]; unfold wrap64; omega
    have hng : decide (((lenTo xss (i + 1) : Nat) : Int) < 0) = false := decide_eq_false (by omega)
    (try simp only [go_sem, hA, e11, e3, rowC, hil, hg0, hw2, hng]); repeat' (first | (with_reducible first | refine c_split ?_ ?_ | refine w_split ?_ ?_) <;> intro hb <;> try simp only [go_sem, hb, hA, e11, e3, rowC, hil, hg0, hw2, hng] | fail)
    refine GC.now (hJ _ _ hi (by simp only [go_sem, hA, e11, e3, rowC]) ⟨?_, ?_, ?_⟩) <;> try simp only [go_sem, hA, e11, e3, rowC, hw]
theorem c_Concat_im (xss : List (List UInt8)) (hn : xss.length ≤ 1000000000) (h0 : 0 < lenTo xss xss.length) (h1 : lenTo xss xss.length ≤ 1000000000000) (K : AV → AH → Prop) (hk : K (.one (.im (xss.flatten.map byteC))) []) : ACalls Tryz.prog 217 [(.one (.im (xss.map rowC)))] [] K := acall_im (c_Concat xss hn h0 h1 _ (im_row _ hk))
def sealS (bs : List UInt8) : List UInt8 × Bool := if 9000 < bs.length then ([], false) else (putNum bs.length ++ bs ++ ckBytes (ckN bs), true)
def sealR (s : List UInt8 × Bool) : AV := .tup [(.one (.im (s.1.map byteC))), (.one (.c (.bool (s.2))))]
theorem putN_len (x : Nat) : 0 < (putN x).length := by rw [putN]; split <;> simp
theorem putNum_nat (n : Nat) : putNum (n : Int) = putN n := by rw [putNum, if_neg (by omega), Int.toNat_natCast]
theorem putN_le : ∀ (f x : Nat), x < 128 ^ f → (putN x).length ≤ f + 1
  | 0, x, h => by rw [putN_small (by simp at h; omega)]; simp
  | f + 1, x, h => by
    by_cases hb : 127 < x
    · rw [putN_big hb]
      have := putN_le f (x / 128) (Nat.div_lt_of_lt_mul (by rw [Nat.pow_succ] at h; rw [Nat.mul_comm]; exact h))
      simp; omega
    · rw [putN_small hb]; simp
theorem putNum_le (n : Nat) (h : n < 9223372036854775808) : (putNum (n : Int)).length ≤ 10 := by
  rw [putNum_nat]; exact putN_le 9 n (by rw [show (128 : Nat) ^ 9 = 9223372036854775808 by decide]; exact h)
theorem c_impl_Seal (bs : List UInt8) (hn : bs.length ≤ 1000000000000) (K : AV → AH → Prop) (hk : K (sealR (sealS bs)) []) : ACalls Tryz.prog 152 [(.one (.im (bs.map byteC)))] [] K := by
  refine acall_c Tryz.f152.results.toList mixed Tryz.func152 rfl rfl (by kernel_rfl) ?_
  intro Q hQ hQO
  simp only [go_sem]
  (try simp only [go_sem]); repeat' (first | (with_reducible first | refine c_split ?_ ?_ | refine w_split ?_ ?_) <;> intro hb <;> try simp only [go_sem, hb] | fail)
  · have hb' : 9000 < bs.length := by have := of_decide_eq_true hb; omega
    rw [sealS, if_pos hb'] at hk
    (try simp only [go_sem]); repeat' (first | (with_reducible first | refine c_split ?_ ?_ | refine w_split ?_ ?_) <;> intro hb <;> try simp only [go_sem, hb] | with_reducible refine hQ _ _ ?_ <;> simp only [Tryz.f152, go_sem])
    exact hk
  · have hb' : ¬ 9000 < bs.length := by have := of_decide_eq_false hb; omega
    rw [sealS, if_neg hb'] at hk
    (try simp only [go_sem]); repeat' (first | (with_reducible first | refine c_split ?_ ?_ | refine w_split ?_ ?_) <;> intro hb <;> try simp only [go_sem, hb] | (first | refine call_c (c_checkBytes bs (by omega) _ ?_) | refine call_c (c_impl_PutNum_im bs.length (by omega) _ ?_) | fail) <;> try simp only [go_sem] | fail)
    refine call_c (c_Concat_im [putNum bs.length, bs, ckBytes (ckN bs)] (Nat.le_of_ble_eq_true rfl) ?_ ?_ _ ?_)
    · rw [lenTo_eq]; simp [putNum_nat]; have := putN_len bs.length; omega
    · rw [lenTo_eq]; have := putNum_le bs.length (by omega); simp [ckBytes]; omega
    simp only [List.flatten_cons, List.flatten_nil, List.append_nil, ← List.append_assoc]
    (try simp only [go_sem]); repeat' (first | (with_reducible first | refine c_split ?_ ?_ | refine w_split ?_ ?_) <;> intro hb <;> try simp only [go_sem, hb] | with_reducible refine hQ _ _ ?_ <;> simp only [Tryz.f152, go_sem])
    exact hk
end Go.Proofs.YtlefjpbhbiajfaaGreat
end
section
namespace Go.Proofs.YtlefjpbhbiajfaaGreat
open Go.BL Go.RowKit
set_option linter.unusedVariables false
set_option linter.unusedSimpArgs false
set_option maxRecDepth 100000
attribute [local go_sem] accountC balC lotC tradeC booksC intC byteC
def accN (x : Account) : List Int := [x.no, x.kind]
def balN (x : Bal) : List Int := [x.account, x.instr, wrap64 (x.amount + 1000000000000000)]
def lotN (x : Lot) : List Int := [x.account, x.instr, x.no, x.qty, x.cost]
def trdN (x : Trade) : List Int := [x.no, x.buyer, x.seller, x.paper, x.qty, x.cash, x.price, x.state]
def numsK {α : Type} (pre : List Int) (f : α → List Int) (xs : List α) (j : Nat) : List Int := pre ++ (xs.take j).flatMap f
theorem numsK_0 {α : Type} (pre : List Int) (f : α → List Int) (xs : List α) : numsK pre f xs 0 = pre := by simp [numsK]
theorem numsK_s {α : Type} (pre : List Int) (f : α → List Int) (xs : List α) (j : Nat) (hj : j < xs.length) : numsK pre f xs (j + 1) = numsK pre f xs j ++ f xs[j] := by
  rw [numsK, List.take_succ_eq_append_getElem hj, List.flatMap_append, numsK, List.append_assoc]; simp
theorem numsK_len {α : Type} (pre : List Int) (f : α → List Int) (xs : List α) (w : Nat) (hf : ∀ x, (f x).length = w) : ∀ j, (numsK pre f xs j).length ≤ pre.length + w * xs.length
  | 0 => by rw [numsK_0]; omega
  | j + 1 => by
    rw [numsK, List.length_append, List.length_flatMap]
    have : ∀ ys : List α, (ys.map fun x => (f x).length).sum = w * ys.length := by
      intro ys
      induction ys with
      | nil => simp
      | cons y r ih => rw [List.map_cons, List.sum_cons, ih, hf, List.length_cons, Nat.mul_add]; omega
    rw [this]
    have h2 : w * (xs.take (j + 1)).length ≤ w * xs.length := Nat.mul_le_mul_left _ (by rw [List.length_take]; omega)
    omega
theorem num_room {s : List Int} (h : s.length ≤ 100000000) {x : List (List CV)} (hx : x.length ≤ 8) : ((s.map intC).length + x.length) * 8 ≤ 140737488355328 := by rw [List.length_map]; omega
def preN0 (b : Books) : List Int := [(b.accounts.length : Int)]
def preN1 (b : Books) : List Int := numsK (preN0 b) accN b.accounts b.accounts.length ++ [(b.instrs.length : Int)]
def preN2 (b : Books) : List Int := numsK (preN1 b) accN b.instrs b.instrs.length ++ [(b.bals.length : Int)]
def preN3 (b : Books) : List Int := numsK (preN2 b) balN b.bals b.bals.length ++ [(b.lots.length : Int)]
def preN4 (b : Books) : List Int := numsK (preN3 b) lotN b.lots b.lots.length ++ [(b.trades.length : Int)]
def booksN (b : Books) : List Int := numsK (preN4 b) trdN b.trades b.trades.length ++ [b.lot]
theorem pre_len {b : Books} (h : booksOk b = true) : (preN0 b).length ≤ 2000 ∧ (preN1 b).length ≤ 2000 ∧ (preN2 b).length ≤ 2000 ∧ (preN3 b).length ≤ 2000 ∧ (preN4 b).length ≤ 2000 ∧ (booksN b).length ≤ 2000 ∧ (∀ j, (numsK (preN0 b) accN b.accounts j).length ≤ 2000) ∧ (∀ j, (numsK (preN1 b) accN b.instrs j).length ≤ 2000) ∧ (∀ j, (numsK (preN2 b) balN b.bals j).length ≤ 2000) ∧ (∀ j, (numsK (preN3 b) lotN b.lots j).length ≤ 2000) ∧ (∀ j, (numsK (preN4 b) trdN b.trades j).length ≤ 2000) := by
  obtain ⟨p1, p2, p3, p4, p5⟩ := booksOk_parts h
  have q1 := okL_len p1
  have q2 := okL_len p2
  have q3 := (balsOk_amt p3).2
  have q4 : b.lots.length ≤ 120 := by
    rw [lotsOk, Bool.and_eq_true] at p4
    have := okL_len p4.1
    omega
  have q5 := okL_len p5
  have l0 : (preN0 b).length = 1 := rfl
  have k0 := numsK_len (preN0 b) accN b.accounts 2 (fun _ => rfl)
  have l1 : (preN1 b).length = (numsK (preN0 b) accN b.accounts b.accounts.length).length + 1 := by rw [preN1, List.length_append]; rfl
  have m0 := k0 b.accounts.length
  have k1 := numsK_len (preN1 b) accN b.instrs 2 (fun _ => rfl)
  have l2 : (preN2 b).length = (numsK (preN1 b) accN b.instrs b.instrs.length).length + 1 := by rw [preN2, List.length_append]; rfl
  have m1 := k1 b.instrs.length
  have k2 := numsK_len (preN2 b) balN b.bals 3 (fun _ => rfl)
  have l3 : (preN3 b).length = (numsK (preN2 b) balN b.bals b.bals.length).length + 1 := by rw [preN3, List.length_append]; rfl
  have m2 := k2 b.bals.length
  have k3 := numsK_len (preN3 b) lotN b.lots 5 (fun _ => rfl)
  have l4 : (preN4 b).length = (numsK (preN3 b) lotN b.lots b.lots.length).length + 1 := by rw [preN4, List.length_append]; rfl
  have m3 := k3 b.lots.length
  have k4 := numsK_len (preN4 b) trdN b.trades 8 (fun _ => rfl)
  have m4 := k4 b.trades.length
  have l5 : (booksN b).length = (numsK (preN4 b) trdN b.trades b.trades.length).length + 1 := by rw [booksN, List.length_append]; rfl
  refine ⟨by omega, by omega, by omega, by omega, by omega, by omega, ?_, ?_, ?_, ?_, ?_⟩
  · intro j; have := k0 j; omega
  · intro j; have := k1 j; omega
  · intro j; have := k2 j; omega
  · intro j; have := k3 j; omega
  · intro j; have := k4 j; omega
def putNums (ns : List Int) : List UInt8 := if ns.any (fun n => decide (n < 0)) = true then [] else ns.flatMap putNum
theorem any_find {p : Int → Bool} (ns : List Int) : decide (0 ≤ findG p ns) = ns.any p := by
  rcases findO_cases p ns with ⟨k, hk, e1, e2⟩ | ⟨e1, e2⟩
  · rw [e1, decide_eq_true (Int.natCast_nonneg k)]
    exact (List.any_eq_true.2 ⟨_, List.getElem_mem hk, List.find?_some e2⟩).symm
  · rw [e1]
    have := List.find?_eq_none.1 e2
    symm
    rw [show decide ((0 : Int) ≤ -1) = false from rfl, List.any_eq_false]
    exact this
theorem c_IndexFuncInt (fs : List Int) (g : Nat) (caps : List Nat) (p : Int → Bool) (h0 : AH) (K : AV → AH → Prop) (hn : fs.length ≤ 1000000000)
    (hp : ∀ i (hi : i < fs.length) (K' : AV → AH → Prop), K' (.one (.c (.bool (p fs[i])))) h0 → callA Tryz.prog g ([(.one (.c (.int .i64 (fs[i]))))] ++ caps.map fun l => .one (.pt l 0 0 0)) h0 K')
    (hk : K (.one (.c (.int .i64 (findG p fs)))) h0) : ACalls Tryz.prog 295 [(.one (.im (fs.map intC))), .one (.clo g caps)] h0 K := by
  refine acall_m Tryz.f295.results.toList mixed Tryz.func295 rfl rfl (by kernel_rfl) ?_
  intro hwf Q hQ
  simp only [go_sem, ca_clos]
  refine for_at (fs.length) [0, 1, 7] (fun i f h => f 8 = (.one (.c (.int .i64 (i)))) ∧ f 7 = (.one (.c (.int .i64 (fs.length)))) ∧ h = h0 ∧ noneTo p fs i) (GC.now ?_) ?_
  · simp only [go_sem, nc_0, true_and, ca_clos]
    exact noneTo_0 p fs
  · rintro i f h J hi hA ⟨e8, e7, rfl, hP⟩ hJ
    simp only [go_sem, ca_clos] at hA
    simp only [go_sem, hA, e8, e7, ca_clos]
    refine c_split (fun hb => ?_) (fun hb => ?_)
    rotate_left
    · simp only [go_sem, hb, hA, e8, e7, ca_clos]
      obtain rfl := ge_len hb hi
      refine hQ (h) _ _ ?_; refine GC.now (ret_m (by simp only [go_sem, Tryz.f295, hA, e8, e7, ca_clos]; exact _root_.id rfl) (by simp only [go_sem]) (by simp) (by first | exact hwf | exact wf_set hwf (by simp only [go_sem, hA, e8, e7, ca_clos]) | exact wf_set2 hwf (by simp only [go_sem, hA, e8, e7, ca_clos]) (by simp only [go_sem, hA, e8, e7, ca_clos]) | (simp only [go_sem]; done)) (by first | exact ⟨_, _root_.id rfl⟩ | exact ⟨[], (List.append_nil _).symm⟩) ?_) <;> simp only [go_sem, hA, e8, e7, ca_clos]
      rw [findG_no hP] at hk
      exact hk
    have hi := lt_len hb
    have hw := wrap_nat i (by omega)
    have hil : (i : Int) < ((fs.length : Nat) : Int) := Int.ofNat_lt.2 hi
    have hg0 : (fs)[i]? = some ((fs)[i]) := List.getElem?_eq_getElem (by omega)
    simp only [go_sem, hb, hA, e8, e7, ca_clos, hg0]
    try simp only [go_sem, hA, e8, e7, ca_clos, hil, hg0]
    refine hp i hi _ ?_
    simp only [go_sem, hA, e8, e7, ca_clos, hil, hg0]
    (try simp only [go_sem, hA, e8, e7, ca_clos, hil, hg0]); repeat' (first | (with_reducible first | refine c_split ?_ ?_ | refine w_split ?_ ?_) <;> intro hb <;> try simp only [go_sem, hb, hA, e8, e7, ca_clos, hil, hg0] | fail)
    · refine hQ (h) _ _ ?_; refine GC.now (ret_m (by simp only [go_sem, Tryz.f295, hA, e8, e7, ca_clos, hil, hg0]; exact _root_.id rfl) (by simp only [go_sem]) (by simp) (by first | exact hwf | exact wf_set hwf (by simp only [go_sem, hA, e8, e7, ca_clos, hil, hg0]) | exact wf_set2 hwf (by simp only [go_sem, hA, e8, e7, ca_clos, hil, hg0]) (by simp only [go_sem, hA, e8, e7, ca_clos, hil, hg0]) | (simp only [go_sem]; done)) (by first | exact ⟨_, _root_.id rfl⟩ | exact ⟨[], (List.append_nil _).symm⟩) ?_) <;> simp only [go_sem, hA, e8, e7, ca_clos, hil, hg0]
      rw [findG_of hP hi hb] at hk
      exact hk
    · refine GC.now (hJ _ _ hi (by simp only [go_sem, hA, e8, e7, ca_clos]) ⟨?_, ?_, ?_, ?_⟩) <;> try simp only [go_sem, hA, e8, e7, ca_clos, hw]
      exact noneTo_s hP hi hb
theorem c_impl_PutNums1 (n : Int) (K : AV → AH → Prop) (hk : K (.one (.c (.bool (decide (n < 0))))) []) : ACalls Tryz.prog 261 [(.one (.c (.int .i64 (n))))] [] K := by
  refine acall_c Tryz.f261.results.toList mixed Tryz.func261 rfl rfl (by kernel_rfl) ?_
  intro Q hQ hQO
  simp only [go_sem]
  (try simp only [go_sem]); repeat' (first | (with_reducible first | refine c_split ?_ ?_ | refine w_split ?_ ?_) <;> intro hb <;> try simp only [go_sem, hb] | with_reducible refine hQ _ _ ?_ <;> simp only [Tryz.f261, go_sem])
  exact hk
theorem calK_b (args : List AV) (K : AV → AH → Prop) (b : Bool) (hk : K (.one (.c (.bool (b)))) []) : calK args [] K (.one (.c (.bool (b)))) [] := by
  unfold calK
  rw [if_pos ⟨rfl, rfl⟩]
  exact hk
theorem c_ContainsInt (xs : List Int) (g : Nat) (p : Int → Bool) (K : AV → AH → Prop) (hn : xs.length ≤ 1000000000)
    (hp : ∀ i (hi : i < xs.length) (K' : AV → AH → Prop), K' (.one (.c (.bool (p xs[i])))) [] → ACalls Tryz.prog g [(.one (.c (.int .i64 (xs[i]))))] [] K')
    (hk : K (.one (.c (.bool (decide (0 ≤ findG p xs))))) []) : ACalls Tryz.prog 260 [(.one (.im (xs.map intC))), .one (.clo g [])] [] K := by
  refine acall_c Tryz.f260.results.toList mixed Tryz.func260 rfl rfl (by kernel_rfl) ?_
  intro Q hQ hQO
  simp only [go_sem]
  (try simp only [go_sem]); repeat' (first | (with_reducible first | refine c_split ?_ ?_ | refine w_split ?_ ?_) <;> intro hb <;> try simp only [go_sem, hb] | refine call_c (c_IndexFuncInt xs g [] p [] _ hn (fun i hi K' hk' => .inr (.inr (.inr (.inl ⟨rfl, hp i hi _ (calK_b _ _ _ hk')⟩)))) ?_) <;> try simp only [go_sem] | with_reducible refine hQ _ _ ?_ <;> simp only [Tryz.f260, go_sem])
  exact hk
theorem putN_le10 {n : Int} (h : n < 9223372036854775808) : (putNum n).length ≤ 10 := by
  by_cases hn : n < 0
  · rw [putNum, if_pos hn]; exact Nat.zero_le _
  · obtain ⟨m, rfl⟩ : ∃ m : Nat, n = m := ⟨n.toNat, by omega⟩
    exact putNum_le m (by omega)
def putTo (ns : List Int) (j : Nat) : List UInt8 := (ns.take j).flatMap putNum
theorem putTo_s (ns : List Int) (j : Nat) (hj : j < ns.length) : putTo ns (j + 1) = putTo ns j ++ putNum ns[j] := by
  rw [putTo, List.take_succ_eq_append_getElem hj, List.flatMap_append, putTo]; simp
theorem putTo_len {ns : List Int} (hb : ∀ n ∈ ns, n < 9223372036854775808) : ∀ j, j ≤ ns.length → (putTo ns j).length ≤ 10 * j
  | 0, _ => by simp [putTo]
  | j + 1, hj => by
    have ih := putTo_len hb j (by omega)
    have := putN_le10 (hb _ (List.getElem_mem (show j < ns.length by omega)))
    rw [putTo_s ns j (by omega), List.length_append]; omega
theorem put_room {bs ds : List UInt8} {j : Nat} (h : bs.length ≤ 10 * j) (hj : j ≤ 1000000) (h2 : ds.length ≤ 10) : ((bs.map byteC).length + (ds.map byteC).length) * 1 ≤ 140737488355328 := by rw [List.length_map, List.length_map]; omega
theorem put_all (ns : List Int) (h : ns.any (fun n => decide (n < 0)) = false) : putNums ns = putTo ns ns.length := by rw [putNums, h, if_neg (by decide), putTo, List.take_length]
theorem c_impl_PutNums (ns : List Int) (hn : ns.length ≤ 1000000) (hb : ∀ n ∈ ns, n < 9223372036854775808) (K : AV → AH → Prop) (hk : K (.one (.im ((putNums ns).map byteC))) []) : ACalls Tryz.prog 216 [(.one (.im (ns.map intC)))] [] K := by
  have hn9 : ns.length ≤ 1000000000 := Nat.le_trans hn (by decide)
  refine acall_c Tryz.f216.results.toList mixed Tryz.func216 rfl rfl (by kernel_rfl) ?_
  intro Q hQ hQO
  simp only [go_sem]
  cases hc : ns.any (fun n => decide (n < 0)) with
  | true =>
    rw [putNums, hc, if_pos rfl] at hk
    (try simp only [go_sem, any_find, hc]); repeat' (first | (with_reducible first | refine c_split ?_ ?_ | refine w_split ?_ ?_) <;> intro hb <;> try simp only [go_sem, hb, any_find, hc] | refine call_c (c_ContainsInt ns _ (fun n => decide (n < 0)) _ hn9 (fun i _ K' hk' => c_impl_PutNums1 ns[i] _ hk') ?_) <;> try simp only [go_sem, any_find, hc] | with_reducible refine hQ _ _ ?_ <;> simp only [Tryz.f216, go_sem, any_find, hc])
    exact hk
  | false =>
    rw [put_all ns hc] at hk
    (try simp only [go_sem, any_find, hc]); repeat' (first | (with_reducible first | refine c_split ?_ ?_ | refine w_split ?_ ?_) <;> intro hb <;> try simp only [go_sem, hb, any_find, hc] | refine call_c (c_ContainsInt ns _ (fun n => decide (n < 0)) _ hn9 (fun i _ K' hk' => c_impl_PutNums1 ns[i] _ hk') ?_) <;> try simp only [go_sem, any_find, hc] | fail)
    refine while_at (α := Nat × Nat × Option Nat) (fun ⟨j, g, cap⟩ => ns.length - j) [9, 10] (fun ⟨j, g, cap⟩ f h => f 11 = (.one (.c (.int .i64 ((j : Int))))) ∧ f 3 = .one (.sl 0 g 0 (putTo ns j).length) ∧ h = [.own g 5 1 cap ((putTo ns j).map byteC)] ∧ j ≤ ns.length) (0, 0, some 0) (GC.now ?_) ?_
    · simp only [go_sem, nc_0, true_and]
      exact ⟨rfl, rfl, Nat.zero_le _⟩
    · rintro ⟨j, g, cap⟩ f h J hA ⟨e11, e3, rfl, hP⟩ hJ
      simp only [go_sem] at hA
      try dsimp only at hJ
      simp only [go_sem, hA, e11, e3]
      by_cases hj : j < ns.length
      · have hdl : decide ((j : Int) < (ns.length : Int)) = true := decide_eq_true (Int.ofNat_lt.2 hj)
        have hg2 : ns[j]? = some ns[j] := List.getElem?_eq_getElem hj
        have hil2 : (j : Int) < (ns.length : Int) := Int.ofNat_lt.2 hj
        have hsn := putTo_s ns j hj
        have hw : wrap64 ((j : Int) + 1) = ((j + 1 : Nat) : Int) := wrap_nat j (Nat.lt_of_lt_of_le hj (Nat.le_trans hn (by decide)))
        have hdec : ns.length - (j + 1) < ns.length - j := Nat.sub_lt_sub_left hj (Nat.lt_succ_self j)
        have hx := hb _ (List.getElem_mem hj)
        have hr := put_room (putTo_len hb j hP) (Nat.le_trans hP hn) (putN_le10 hx)
        (try simp only [go_sem, hA, e11, e3, hdl, hg2, hil2]); repeat' (first | (with_reducible first | refine c_split ?_ ?_ | refine w_split ?_ ?_) <;> intro hb <;> try simp only [go_sem, hb, hA, e11, e3, hdl, hg2, hil2] | refine call_c (c_impl_PutNum_im _ hx _ ?_) <;> try simp only [go_sem, hA, e11, e3, hdl, hg2, hil2] | fail)
        refine ap_end rfl (List.length_map ..).symm hr ?_
        simp only [go_sem, hA, e11, e3]
        (try simp only [go_sem, hA, e11, e3]); repeat' (first | (with_reducible first | refine c_split ?_ ?_ | refine w_split ?_ ?_) <;> intro hb <;> try simp only [go_sem, hb, hA, e11, e3] | fail)
        refine gc_trim 1 (by decide) (by simp only [go_sem]) (by simp only [go_sem, hw, hsn, List.map_append, List.length_append]) (hJ (j + 1, g + 1, none) _ _ (by exact hdec) (by simp only [go_sem, hA, e11, e3]) ⟨?_, ?_, ?_, ?_⟩) <;> try simp only [go_sem, hA, e11, e3, hw, hsn, List.map_append, List.length_append]
        exact hj
      · have hjl : j = ns.length := Nat.le_antisymm hP (Nat.le_of_not_lt hj)
        have hdl : decide ((j : Int) < (ns.length : Int)) = false := decide_eq_false (fun q => hj (Int.ofNat_lt.1 q))
        rw [← hjl] at hk
        (try simp only [go_sem, hA, e11, e3, hdl]); repeat' (first | (with_reducible first | refine c_split ?_ ?_ | refine w_split ?_ ?_) <;> intro hb <;> try simp only [go_sem, hb, hA, e11, e3, hdl] | with_reducible refine hQ _ _ ?_ <;> simp only [Tryz.f216, go_sem, hA, e11, e3, hdl])
        exact hk
theorem numsK_mem {α : Type} {pre : List Int} {f : α → List Int} {xs : List α} {j : Nat} {n : Int} (h : n ∈ numsK pre f xs j) : n ∈ pre ∨ ∃ x ∈ xs, n ∈ f x := by
  rw [numsK, List.mem_append, List.mem_flatMap] at h
  rcases h with h | ⟨x, hx, h⟩
  · exact .inl h
  · exact .inr ⟨x, List.mem_of_mem_take hx, h⟩
theorem wrap_lt (a : Int) : wrap64 a < 9223372036854775808 := by unfold wrap64; omega
theorem books_lt {b : Books} (h : booksOk b = true) : ∀ n ∈ booksN b, n < 9223372036854775808 := by
  obtain ⟨p1, p2, p3, p4, p5⟩ := booksOk_parts h
  have q1 := okL_len p1
  have q2 := okL_len p2
  have q3 := (balsOk_amt p3).2
  rw [lotsOk, Bool.and_eq_true] at p4
  have q4 := okL_len p4.1
  have q5 := okL_len p5
  have p6 : 0 ≤ b.lot ∧ b.lot ≤ 1000000000 := by
    simp only [booksOk, listsOk, Bool.and_eq_true] at h
    exact of_decide_eq_true h.1.1.1.2
  intro n hn
  rw [booksN, List.mem_append] at hn
  rcases hn with hn | hn
  · rcases numsK_mem hn with hn | ⟨x, hx, hn⟩
    · rw [preN4, List.mem_append] at hn
      rcases hn with hn | hn
      · rcases numsK_mem hn with hn | ⟨x, hx, hn⟩
        · rw [preN3, List.mem_append] at hn
          rcases hn with hn | hn
          · rcases numsK_mem hn with hn | ⟨x, hx, hn⟩
            · rw [preN2, List.mem_append] at hn
              rcases hn with hn | hn
              · rcases numsK_mem hn with hn | ⟨x, hx, hn⟩
                · rw [preN1, List.mem_append] at hn
                  rcases hn with hn | hn
                  · rcases numsK_mem hn with hn | ⟨x, hx, hn⟩
                    · simp only [preN0, List.mem_singleton] at hn; omega
                    · have q := okL_p p1 hx
                      simp only [accP, noOk, Bool.and_eq_true, decide_eq_true_eq] at q
                      simp only [accN, List.mem_cons, List.not_mem_nil, or_false] at hn
                      omega
                  · simp only [List.mem_singleton] at hn; omega
                · have q := okL_p p2 hx
                  simp only [insP, noOk, Bool.and_eq_true, decide_eq_true_eq] at q
                  simp only [accN, List.mem_cons, List.not_mem_nil, or_false] at hn
                  omega
              · simp only [List.mem_singleton] at hn; omega
            · have q := okL_p p3 hx
              have hw := wrap_lt (x.amount + 1000000000000000)
              simp only [balP, noOk, Bool.and_eq_true, decide_eq_true_eq] at q
              simp only [balN, List.mem_cons, List.not_mem_nil, or_false] at hn
              omega
          · simp only [List.mem_singleton] at hn; omega
        · have q := okL_p p4.1 hx
          simp only [lotP, noOk, Bool.and_eq_true, decide_eq_true_eq] at q
          simp only [lotN, List.mem_cons, List.not_mem_nil, or_false] at hn
          omega
      · simp only [List.mem_singleton] at hn; omega
    · have q := okL_p p5 hx
      simp only [trP, noOk, Bool.and_eq_true, decide_eq_true_eq] at q
      simp only [trdN, List.mem_cons, List.not_mem_nil, or_false] at hn
      omega
  · simp only [List.mem_singleton] at hn; omega
def packS (b : Books) : List UInt8 := putNums (booksN b)
theorem packS_len {b : Books} (h : booksOk b = true) : (packS b).length ≤ 20000 := by
  unfold packS putNums
  split
  · exact Nat.zero_le _
  · have h1 := putTo_len (books_lt h) (booksN b).length (Nat.le_refl _)
    have h2 := (pre_len h).2.2.2.2.2.1
    rw [putTo, List.take_length] at h1
    omega
theorem c_impl_BooksPack (b : Books) (hs : Small b) (K : AV → AH → Prop) (hk : K (.tup [(.one (.im ((if booksOk b = true then packS b else []).map byteC))), (.one (.c (.bool (booksOk b))))]) []) : ACalls Tryz.prog 151 [.agg (booksC b)] [] K := by
  refine acall_c Tryz.f151.results.toList mixed Tryz.func151 rfl rfl (by kernel_rfl) ?_
  intro Q hQ hQO
  simp only [go_sem]
  cases hok : booksOk b with
  | false =>
    rw [hok, if_neg (by decide)] at hk
    (try simp only [go_sem, hok]); repeat' (first | (with_reducible first | refine c_split ?_ ?_ | refine w_split ?_ ?_) <;> intro hb <;> try simp only [go_sem, hb, hok] | refine call_c (c_impl_BooksOk b hs _ ?_) <;> try simp only [go_sem, hok] | with_reducible refine hQ _ _ ?_ <;> simp only [Tryz.f151, go_sem, hok])
    exact hk
  | true =>
    rw [hok, if_pos rfl, packS] at hk
    have cP := fun K' hk' => c_impl_PutNums (booksN b) (Nat.le_trans (pre_len hok).2.2.2.2.2.1 (by decide)) (books_lt hok) K' hk'
    have lens := (pre_len hok).2.2.2.2.2.2
    have l0 : b.accounts.length ≤ 1000000000 := hs.ha
    have l1 : b.instrs.length ≤ 1000000000 := hs.hi
    have l2 : b.bals.length ≤ 1000000000 := hs.hb
    have l3 : b.lots.length ≤ 1000000000 := hs.hl
    have l4 : b.trades.length ≤ 1000000000 := hs.ht
    (try simp only [go_sem, hok]); repeat' (first | (with_reducible first | refine c_split ?_ ?_ | refine w_split ?_ ?_) <;> intro hb <;> try simp only [go_sem, hb, hok] | refine call_c (c_impl_BooksOk b hs _ ?_) <;> try simp only [go_sem, hok] | fail)
    have z0 := lens.1
    refine while_at (α := Nat × Nat × Option Nat) (fun ⟨j0, g0, c0⟩ => b.accounts.length - j0) [1, 23, 24] (fun ⟨j0, g0, c0⟩ f h => f 25 = (.one (.c (.int .i64 ((j0 : Int))))) ∧ f 4 = .one (.sl 1 g0 0 (numsK (preN0 b) accN b.accounts j0).length) ∧ h = [.own 0 31 6 (some 1) [booksC b], .own g0 3 1 c0 ((numsK (preN0 b) accN b.accounts j0).map intC)] ∧ j0 ≤ b.accounts.length) (0, 0, some 1) (GC.now ?_) ?_
    · simp only [go_sem, nc_0, true_and]
      rw [numsK_0]; exact ⟨rfl, rfl, Nat.zero_le _⟩
    · rintro ⟨j0, g0, c0⟩ f h J hA ⟨e25, e4, rfl, hP⟩ hJ
      simp only [go_sem] at hA
      try dsimp only at hJ
      simp only [go_sem, hA, e25, e4]
      have hr := fun (x : List (List CV)) hx => num_room (x := x) (Nat.le_trans (z0 j0) (by decide : 2000 ≤ 100000000)) hx
      by_cases hj : j0 < b.accounts.length
      · have hdl : decide ((j0 : Int) < (b.accounts.length : Int)) = true := decide_eq_true (Int.ofNat_lt.2 hj)
        have hg2 : b.accounts[j0]? = some b.accounts[j0] := List.getElem?_eq_getElem hj
        have hil2 : (j0 : Int) < (b.accounts.length : Int) := Int.ofNat_lt.2 hj
        have hsn := numsK_s (preN0 b) accN b.accounts j0 hj
        rw [accN] at hsn
        have hw : wrap64 ((j0 : Int) + 1) = ((j0 + 1 : Nat) : Int) := wrap_nat j0 (Nat.lt_of_lt_of_le hj (Nat.le_trans l0 (by decide)))
        have hdec : b.accounts.length - (j0 + 1) < b.accounts.length - j0 := Nat.sub_lt_sub_left hj (Nat.lt_succ_self j0)
        (try simp only [go_sem, hA, e25, e4, hdl, hg2, hil2]); repeat' (first | (with_reducible first | refine c_split ?_ ?_ | refine w_split ?_ ?_) <;> intro hb <;> try simp only [go_sem, hb, hA, e25, e4, hdl, hg2, hil2] | fail)
        refine ap_end rfl (List.length_map ..).symm (by exact hr _ (Nat.le_of_ble_eq_true rfl)) ?_
        simp only [go_sem, hA, e25, e4]
        (try simp only [go_sem, hA, e25, e4]); repeat' (first | (with_reducible first | refine c_split ?_ ?_ | refine w_split ?_ ?_) <;> intro hb <;> try simp only [go_sem, hb, hA, e25, e4] | fail)
        refine gc_trim 2 (by decide) (by simp only [go_sem]) (by simp only [go_sem, hw, hsn, List.map_append, List.map_cons, List.map_nil]) (hJ (j0 + 1, g0 + 1, none) _ _ (by exact hdec) (by simp only [go_sem, hA, e25, e4]) ⟨?_, ?_, ?_, ?_⟩) <;> try simp only [go_sem, hA, e25, e4, hw, hsn, List.map_append, List.map_cons, List.map_nil]
        exact hj
      · have hjl : j0 = b.accounts.length := Nat.le_antisymm hP (Nat.le_of_not_lt hj)
        have hdl : decide ((j0 : Int) < (b.accounts.length : Int)) = false := decide_eq_false (fun q => hj (Int.ofNat_lt.1 q))
        (try simp only [go_sem, hA, e25, e4, hdl]); repeat' (first | (with_reducible first | refine c_split ?_ ?_ | refine w_split ?_ ?_) <;> intro hb <;> try simp only [go_sem, hb, hA, e25, e4, hdl] | fail)
        refine ap_end rfl (List.length_map ..).symm (by exact hr _ (Nat.le_of_ble_eq_true rfl)) ?_
        simp only [go_sem, hA, e25, e4]
        have hp1 : preN1 b = numsK (preN0 b) accN b.accounts j0 ++ [(b.instrs.length : Int)] := by rw [preN1, hjl]
        (try simp only [go_sem, hA, e25, e4]); repeat' (first | (with_reducible first | refine c_split ?_ ?_ | refine w_split ?_ ?_) <;> intro hb <;> try simp only [go_sem, hb, hA, e25, e4] | fail)
        have hq0 := hA
        clear hJ hA hj hdl hr
        have z1 := lens.2.1
        refine while_at (α := Nat × Nat × Option Nat) (fun ⟨j1, g1, c1⟩ => b.instrs.length - j1) [1, 44, 45] (fun ⟨j1, g1, c1⟩ f h => f 46 = (.one (.c (.int .i64 ((j1 : Int))))) ∧ f 4 = .one (.sl 1 g1 0 (numsK (preN1 b) accN b.instrs j1).length) ∧ h = [.own 0 31 6 (some 1) [booksC b], .own g1 3 1 c1 ((numsK (preN1 b) accN b.instrs j1).map intC), .own 0 3 1 (some 1) [[.c (.int .i64 ((b.instrs.length : Int)))]]] ∧ j1 ≤ b.instrs.length) (0, g0 + 1, none) (GC.now ?_) ?_
        · simp only [go_sem, nc_0, true_and, hq0]
          rw [numsK_0, hp1]; exact ⟨by rw [List.length_append]; rfl, by first | (rw [List.map_append]; done) | (rw [List.map_append]; rfl), Nat.zero_le _⟩
        · rintro ⟨j1, g1, c1⟩ f h J hA ⟨e46, e4, rfl, hP⟩ hJ
          simp only [go_sem, hq0] at hA
          try dsimp only at hJ
          simp only [go_sem, hA, e46, e4, hq0]
          try simp only [hq0] at hA
          have hr := fun (x : List (List CV)) hx => num_room (x := x) (Nat.le_trans (z1 j1) (by decide : 2000 ≤ 100000000)) hx
          by_cases hj : j1 < b.instrs.length
          · have hdl : decide ((j1 : Int) < (b.instrs.length : Int)) = true := decide_eq_true (Int.ofNat_lt.2 hj)
            have hg2 : b.instrs[j1]? = some b.instrs[j1] := List.getElem?_eq_getElem hj
            have hil2 : (j1 : Int) < (b.instrs.length : Int) := Int.ofNat_lt.2 hj
            have hsn := numsK_s (preN1 b) accN b.instrs j1 hj
            rw [accN] at hsn
            have hw : wrap64 ((j1 : Int) + 1) = ((j1 + 1 : Nat) : Int) := wrap_nat j1 (Nat.lt_of_lt_of_le hj (Nat.le_trans l1 (by decide)))
            have hdec : b.instrs.length - (j1 + 1) < b.instrs.length - j1 := Nat.sub_lt_sub_left hj (Nat.lt_succ_self j1)
            (try simp only [go_sem, hA, e46, e4, hq0, hdl, hg2, hil2]); repeat' (first | (with_reducible first | refine c_split ?_ ?_ | refine w_split ?_ ?_) <;> intro hb <;> try simp only [go_sem, hb, hA, e46, e4, hq0, hdl, hg2, hil2] | fail)
            refine ap_end rfl (List.length_map ..).symm (by exact hr _ (Nat.le_of_ble_eq_true rfl)) ?_
            simp only [go_sem, hA, e46, e4, hq0]
            (try simp only [go_sem, hA, e46, e4, hq0]); repeat' (first | (with_reducible first | refine c_split ?_ ?_ | refine w_split ?_ ?_) <;> intro hb <;> try simp only [go_sem, hb, hA, e46, e4, hq0] | fail)
            refine gc_trim 3 (by decide) (by simp only [go_sem]) (by simp only [go_sem, hw, hsn, List.map_append, List.map_cons, List.map_nil]) (hJ (j1 + 1, g1 + 1, none) _ _ (by exact hdec) (by simp only [go_sem, hA, e46, e4, hq0]) ⟨?_, ?_, ?_, ?_⟩) <;> try simp only [go_sem, hA, e46, e4, hq0, hw, hsn, List.map_append, List.map_cons, List.map_nil]
            exact hj
          · have hjl : j1 = b.instrs.length := Nat.le_antisymm hP (Nat.le_of_not_lt hj)
            have hdl : decide ((j1 : Int) < (b.instrs.length : Int)) = false := decide_eq_false (fun q => hj (Int.ofNat_lt.1 q))
            (try simp only [go_sem, hA, e46, e4, hq0, hdl]); repeat' (first | (with_reducible first | refine c_split ?_ ?_ | refine w_split ?_ ?_) <;> intro hb <;> try simp only [go_sem, hb, hA, e46, e4, hq0, hdl] | fail)
            refine ap_end rfl (List.length_map ..).symm (by exact hr _ (Nat.le_of_ble_eq_true rfl)) ?_
            simp only [go_sem, hA, e46, e4, hq0]
            have hp2 : preN2 b = numsK (preN1 b) accN b.instrs j1 ++ [(b.bals.length : Int)] := by rw [preN2, hjl]
            (try simp only [go_sem, hA, e46, e4, hq0]); repeat' (first | (with_reducible first | refine c_split ?_ ?_ | refine w_split ?_ ?_) <;> intro hb <;> try simp only [go_sem, hb, hA, e46, e4, hq0] | fail)
            have hq1 := hA
            clear hJ hA hj hdl hr
            have z2 := lens.2.2.1
            refine while_at (α := Nat × Nat × Option Nat) (fun ⟨j2, g2, c2⟩ => b.bals.length - j2) [1, 65, 66] (fun ⟨j2, g2, c2⟩ f h => f 67 = (.one (.c (.int .i64 ((j2 : Int))))) ∧ f 4 = .one (.sl 1 g2 0 (numsK (preN2 b) balN b.bals j2).length) ∧ h = [.own 0 31 6 (some 1) [booksC b], .own g2 3 1 c2 ((numsK (preN2 b) balN b.bals j2).map intC), .own 0 3 1 (some 1) [[.c (.int .i64 ((b.instrs.length : Int)))]], .own 0 3 1 (some 1) [[.c (.int .i64 ((b.bals.length : Int)))]]] ∧ j2 ≤ b.bals.length) (0, g1 + 1, none) (GC.now ?_) ?_
            · simp only [go_sem, nc_0, true_and, hq1]
              rw [numsK_0, hp2]; exact ⟨by rw [List.length_append]; rfl, by first | (rw [List.map_append]; done) | (rw [List.map_append]; rfl), Nat.zero_le _⟩
            · rintro ⟨j2, g2, c2⟩ f h J hA ⟨e67, e4, rfl, hP⟩ hJ
              simp only [go_sem, hq1] at hA
              try dsimp only at hJ
              simp only [go_sem, hA, e67, e4, hq1]
              try simp only [hq1] at hA
              have hr := fun (x : List (List CV)) hx => num_room (x := x) (Nat.le_trans (z2 j2) (by decide : 2000 ≤ 100000000)) hx
              by_cases hj : j2 < b.bals.length
              · have hdl : decide ((j2 : Int) < (b.bals.length : Int)) = true := decide_eq_true (Int.ofNat_lt.2 hj)
                have hg2 : b.bals[j2]? = some b.bals[j2] := List.getElem?_eq_getElem hj
                have hil2 : (j2 : Int) < (b.bals.length : Int) := Int.ofNat_lt.2 hj
                have hsn := numsK_s (preN2 b) balN b.bals j2 hj
                rw [balN] at hsn
                have hw : wrap64 ((j2 : Int) + 1) = ((j2 + 1 : Nat) : Int) := wrap_nat j2 (Nat.lt_of_lt_of_le hj (Nat.le_trans l2 (by decide)))
                have hdec : b.bals.length - (j2 + 1) < b.bals.length - j2 := Nat.sub_lt_sub_left hj (Nat.lt_succ_self j2)
                (try simp only [go_sem, hA, e67, e4, hq1, hdl, hg2, hil2]); repeat' (first | (with_reducible first | refine c_split ?_ ?_ | refine w_split ?_ ?_) <;> intro hb <;> try simp only [go_sem, hb, hA, e67, e4, hq1, hdl, hg2, hil2] | fail)
                refine ap_end rfl (List.length_map ..).symm (by exact hr _ (Nat.le_of_ble_eq_true rfl)) ?_
                simp only [go_sem, hA, e67, e4, hq1]
                (try simp only [go_sem, hA, e67, e4, hq1]); repeat' (first | (with_reducible first | refine c_split ?_ ?_ | refine w_split ?_ ?_) <;> intro hb <;> try simp only [go_sem, hb, hA, e67, e4, hq1] | fail)
                refine gc_trim 4 (by decide) (by simp only [go_sem]) (by simp only [go_sem, hw, hsn, List.map_append, List.map_cons, List.map_nil]) (hJ (j2 + 1, g2 + 1, none) _ _ (by exact hdec) (by simp only [go_sem, hA, e67, e4, hq1]) ⟨?_, ?_, ?_, ?_⟩) <;> try simp only [go_sem, hA, e67, e4, hq1, hw, hsn, List.map_append, List.map_cons, List.map_nil]
                exact hj
              · have hjl : j2 = b.bals.length := Nat.le_antisymm hP (Nat.le_of_not_lt hj)
                have hdl : decide ((j2 : Int) < (b.bals.length : Int)) = false := decide_eq_false (fun q => hj (Int.ofNat_lt.1 q))
                (try simp only [go_sem, hA, e67, e4, hq1, hdl]); repeat' (first | (with_reducible first | refine c_split ?_ ?_ | refine w_split ?_ ?_) <;> intro hb <;> try simp only [go_sem, hb, hA, e67, e4, hq1, hdl] | fail)
                refine ap_end rfl (List.length_map ..).symm (by exact hr _ (Nat.le_of_ble_eq_true rfl)) ?_
                simp only [go_sem, hA, e67, e4, hq1]
                have hp3 : preN3 b = numsK (preN2 b) balN b.bals j2 ++ [(b.lots.length : Int)] := by rw [preN3, hjl]
                (try simp only [go_sem, hA, e67, e4, hq1]); repeat' (first | (with_reducible first | refine c_split ?_ ?_ | refine w_split ?_ ?_) <;> intro hb <;> try simp only [go_sem, hb, hA, e67, e4, hq1] | fail)
                have hq2 := hA
                clear hJ hA hj hdl hr
                have z3 := lens.2.2.2.1
                refine while_at (α := Nat × Nat × Option Nat) (fun ⟨j3, g3, c3⟩ => b.lots.length - j3) [1, 89, 90] (fun ⟨j3, g3, c3⟩ f h => f 91 = (.one (.c (.int .i64 ((j3 : Int))))) ∧ f 4 = .one (.sl 1 g3 0 (numsK (preN3 b) lotN b.lots j3).length) ∧ h = [.own 0 31 6 (some 1) [booksC b], .own g3 3 1 c3 ((numsK (preN3 b) lotN b.lots j3).map intC), .own 0 3 1 (some 1) [[.c (.int .i64 ((b.instrs.length : Int)))]], .own 0 3 1 (some 1) [[.c (.int .i64 ((b.bals.length : Int)))]], .own 0 3 1 (some 1) [[.c (.int .i64 ((b.lots.length : Int)))]]] ∧ j3 ≤ b.lots.length) (0, g2 + 1, none) (GC.now ?_) ?_
                · simp only [go_sem, nc_0, true_and, hq2]
                  rw [numsK_0, hp3]; exact ⟨by rw [List.length_append]; rfl, by first | (rw [List.map_append]; done) | (rw [List.map_append]; rfl), Nat.zero_le _⟩
                · rintro ⟨j3, g3, c3⟩ f h J hA ⟨e91, e4, rfl, hP⟩ hJ
                  simp only [go_sem, hq2] at hA
                  try dsimp only at hJ
                  simp only [go_sem, hA, e91, e4, hq2]
                  try simp only [hq2] at hA
                  have hr := fun (x : List (List CV)) hx => num_room (x := x) (Nat.le_trans (z3 j3) (by decide : 2000 ≤ 100000000)) hx
                  by_cases hj : j3 < b.lots.length
                  · have hdl : decide ((j3 : Int) < (b.lots.length : Int)) = true := decide_eq_true (Int.ofNat_lt.2 hj)
                    have hg2 : b.lots[j3]? = some b.lots[j3] := List.getElem?_eq_getElem hj
                    have hil2 : (j3 : Int) < (b.lots.length : Int) := Int.ofNat_lt.2 hj
                    have hsn := numsK_s (preN3 b) lotN b.lots j3 hj
                    rw [lotN] at hsn
                    have hw : wrap64 ((j3 : Int) + 1) = ((j3 + 1 : Nat) : Int) := wrap_nat j3 (Nat.lt_of_lt_of_le hj (Nat.le_trans l3 (by decide)))
                    have hdec : b.lots.length - (j3 + 1) < b.lots.length - j3 := Nat.sub_lt_sub_left hj (Nat.lt_succ_self j3)
                    (try simp only [go_sem, hA, e91, e4, hq2, hdl, hg2, hil2]); repeat' (first | (with_reducible first | refine c_split ?_ ?_ | refine w_split ?_ ?_) <;> intro hb <;> try simp only [go_sem, hb, hA, e91, e4, hq2, hdl, hg2, hil2] | fail)
                    refine ap_end rfl (List.length_map ..).symm (by exact hr _ (Nat.le_of_ble_eq_true rfl)) ?_
                    simp only [go_sem, hA, e91, e4, hq2]
                    (try simp only [go_sem, hA, e91, e4, hq2]); repeat' (first | (with_reducible first | refine c_split ?_ ?_ | refine w_split ?_ ?_) <;> intro hb <;> try simp only [go_sem, hb, hA, e91, e4, hq2] | fail)
                    refine gc_trim 5 (by decide) (by simp only [go_sem]) (by simp only [go_sem, hw, hsn, List.map_append, List.map_cons, List.map_nil]) (hJ (j3 + 1, g3 + 1, none) _ _ (by exact hdec) (by simp only [go_sem, hA, e91, e4, hq2]) ⟨?_, ?_, ?_, ?_⟩) <;> try simp only [go_sem, hA, e91, e4, hq2, hw, hsn, List.map_append, List.map_cons, List.map_nil]
                    exact hj
                  · have hjl : j3 = b.lots.length := Nat.le_antisymm hP (Nat.le_of_not_lt hj)
                    have hdl : decide ((j3 : Int) < (b.lots.length : Int)) = false := decide_eq_false (fun q => hj (Int.ofNat_lt.1 q))
                    (try simp only [go_sem, hA, e91, e4, hq2, hdl]); repeat' (first | (with_reducible first | refine c_split ?_ ?_ | refine w_split ?_ ?_) <;> intro hb <;> try simp only [go_sem, hb, hA, e91, e4, hq2, hdl] | fail)
                    refine ap_end rfl (List.length_map ..).symm (by exact hr _ (Nat.le_of_ble_eq_true rfl)) ?_
                    simp only [go_sem, hA, e91, e4, hq2]
                    have hp4 : preN4 b = numsK (preN3 b) lotN b.lots j3 ++ [(b.trades.length : Int)] := by rw [preN4, hjl]
                    (try simp only [go_sem, hA, e91, e4, hq2]); repeat' (first | (with_reducible first | refine c_split ?_ ?_ | refine w_split ?_ ?_) <;> intro hb <;> try simp only [go_sem, hb, hA, e91, e4, hq2] | fail)
                    have hq3 := hA
                    clear hJ hA hj hdl hr
                    have z4 := lens.2.2.2.2
                    refine while_at (α := Nat × Nat × Option Nat) (fun ⟨j4, g4, c4⟩ => b.trades.length - j4) [1, 116, 117] (fun ⟨j4, g4, c4⟩ f h => f 118 = (.one (.c (.int .i64 ((j4 : Int))))) ∧ f 4 = .one (.sl 1 g4 0 (numsK (preN4 b) trdN b.trades j4).length) ∧ h = [.own 0 31 6 (some 1) [booksC b], .own g4 3 1 c4 ((numsK (preN4 b) trdN b.trades j4).map intC), .own 0 3 1 (some 1) [[.c (.int .i64 ((b.instrs.length : Int)))]], .own 0 3 1 (some 1) [[.c (.int .i64 ((b.bals.length : Int)))]], .own 0 3 1 (some 1) [[.c (.int .i64 ((b.lots.length : Int)))]], .own 0 3 1 (some 1) [[.c (.int .i64 ((b.trades.length : Int)))]]] ∧ j4 ≤ b.trades.length) (0, g3 + 1, none) (GC.now ?_) ?_
                    · simp only [go_sem, nc_0, true_and, hq3]
                      rw [numsK_0, hp4]; exact ⟨by rw [List.length_append]; rfl, by first | (rw [List.map_append]; done) | (rw [List.map_append]; rfl), Nat.zero_le _⟩
                    · rintro ⟨j4, g4, c4⟩ f h J hA ⟨e118, e4, rfl, hP⟩ hJ
                      simp only [go_sem, hq3] at hA
                      try dsimp only at hJ
                      simp only [go_sem, hA, e118, e4, hq3]
                      try simp only [hq3] at hA
                      have hr := fun (x : List (List CV)) hx => num_room (x := x) (Nat.le_trans (z4 j4) (by decide : 2000 ≤ 100000000)) hx
                      by_cases hj : j4 < b.trades.length
                      · have hdl : decide ((j4 : Int) < (b.trades.length : Int)) = true := decide_eq_true (Int.ofNat_lt.2 hj)
                        have hg2 : b.trades[j4]? = some b.trades[j4] := List.getElem?_eq_getElem hj
                        have hil2 : (j4 : Int) < (b.trades.length : Int) := Int.ofNat_lt.2 hj
                        have hsn := numsK_s (preN4 b) trdN b.trades j4 hj
                        rw [trdN] at hsn
                        have hw : wrap64 ((j4 : Int) + 1) = ((j4 + 1 : Nat) : Int) := wrap_nat j4 (Nat.lt_of_lt_of_le hj (Nat.le_trans l4 (by decide)))
                        have hdec : b.trades.length - (j4 + 1) < b.trades.length - j4 := Nat.sub_lt_sub_left hj (Nat.lt_succ_self j4)
                        (try simp only [go_sem, hA, e118, e4, hq3, hdl, hg2, hil2]); repeat' (first | (with_reducible first | refine c_split ?_ ?_ | refine w_split ?_ ?_) <;> intro hb <;> try simp only [go_sem, hb, hA, e118, e4, hq3, hdl, hg2, hil2] | fail)
                        refine ap_end rfl (List.length_map ..).symm (by exact hr _ (Nat.le_of_ble_eq_true rfl)) ?_
                        simp only [go_sem, hA, e118, e4, hq3]
                        (try simp only [go_sem, hA, e118, e4, hq3]); repeat' (first | (with_reducible first | refine c_split ?_ ?_ | refine w_split ?_ ?_) <;> intro hb <;> try simp only [go_sem, hb, hA, e118, e4, hq3] | fail)
                        refine gc_trim 6 (by decide) (by simp only [go_sem]) (by simp only [go_sem, hw, hsn, List.map_append, List.map_cons, List.map_nil]) (hJ (j4 + 1, g4 + 1, none) _ _ (by exact hdec) (by simp only [go_sem, hA, e118, e4, hq3]) ⟨?_, ?_, ?_, ?_⟩) <;> try simp only [go_sem, hA, e118, e4, hq3, hw, hsn, List.map_append, List.map_cons, List.map_nil]
                        exact hj
                      · have hjl : j4 = b.trades.length := Nat.le_antisymm hP (Nat.le_of_not_lt hj)
                        have hdl : decide ((j4 : Int) < (b.trades.length : Int)) = false := decide_eq_false (fun q => hj (Int.ofNat_lt.1 q))
                        (try simp only [go_sem, hA, e118, e4, hq3, hdl]); repeat' (first | (with_reducible first | refine c_split ?_ ?_ | refine w_split ?_ ?_) <;> intro hb <;> try simp only [go_sem, hb, hA, e118, e4, hq3, hdl] | fail)
                        refine ap_end rfl (List.length_map ..).symm (by exact hr _ (Nat.le_of_ble_eq_true rfl)) ?_
                        simp only [go_sem, hA, e118, e4, hq3]
                        have hp5 : booksN b = numsK (preN4 b) trdN b.trades j4 ++ [b.lot] := by rw [booksN, hjl]
                        rw [hp5] at hk cP
                        have htk : ∀ x : Int, List.take ((numsK (preN4 b) trdN b.trades j4).length + 1) (List.map intC (numsK (preN4 b) trdN b.trades j4 ++ [x])) = List.map intC (numsK (preN4 b) trdN b.trades j4 ++ [x]) := fun x => List.take_of_length_le (by simp)
                        (try simp only [go_sem, hA, e118, e4, hq3, htk]); repeat' (first | (with_reducible first | refine c_split ?_ ?_ | refine w_split ?_ ?_) <;> intro hb <;> try simp only [go_sem, hb, hA, e118, e4, hq3, htk] | refine call_c (cP _ ?_) <;> try simp only [go_sem, hA, e118, e4, hq3, htk] | with_reducible refine hQ _ _ ?_ <;> simp only [Tryz.f151, go_sem, hA, e118, e4, hq3, htk])
                        exact hk
end Go.Proofs.YtlefjpbhbiajfaaGreat
end
section
namespace Go.Proofs.YtlefjpbhbiajfaaGreat
open Go.BL Go.RowKit
set_option linter.unusedVariables false
set_option linter.unusedSimpArgs false
set_option maxRecDepth 100000
attribute [local go_sem] accountC balC lotC tradeC booksC booksA fileC diskC
structure Save where
  from_ : Int
  books : Books
def saveC (s : Save) : List CV := [.c (.int .i64 (s.from_)), .im (s.books.accounts.map accountC), .im (s.books.instrs.map accountC), .im (s.books.bals.map balC), .im (s.books.lots.map lotC), .im (s.books.trades.map tradeC), .c (.int .i64 (s.books.lot))]
end Go.Proofs.YtlefjpbhbiajfaaGreat
end
section
namespace Go.Proofs.YtlefjpbhbiajfaaGreat
open Go.BL Go.RowKit
set_option linter.unusedVariables false
set_option linter.unusedSimpArgs false
set_option maxRecDepth 100000
attribute [local go_sem] accountC balC lotC tradeC booksC booksA saveC byteC
def saveBody (s : Save) : List UInt8 := putNum s.from_ ++ packS s.books
def saveGood (s : Save) : Bool := booksOk s.books && decide (0 ≤ s.from_ ∧ s.from_ ≤ 19) && !decide (9000 < (saveBody s).length)
def saveT (s : Save) : ByteArray := if saveGood s = true then ⟨(sealS (saveBody s)).1.toArray⟩ else ⟨#[]⟩
theorem save_sealed {s : Save} (h1 : booksOk s.books = true) (h2 : decide (0 ≤ s.from_ ∧ s.from_ ≤ 19) = true) : saveGood s = (sealS (saveBody s)).2 ∧ saveT s = ⟨(sealS (saveBody s)).1.toArray⟩ := by
  unfold saveT saveGood sealS
  rw [h1, h2]
  by_cases h : 9000 < (saveBody s).length
  · simp [h]
  · simp [h]
theorem save_len {s : Save} (h1 : booksOk s.books = true) (h2 : decide (0 ≤ s.from_ ∧ s.from_ ≤ 19) = true) : (saveBody s).length ≤ 1000000 ∧ (putNum s.from_).length ≤ 10 := by
  have h3 := of_decide_eq_true h2
  have := packS_len h1
  have h4 := putN_le10 (n := s.from_) (by omega)
  rw [saveBody, List.length_append]
  omega
theorem save_room {p q : List UInt8} (h1 : p.length ≤ 10) (h2 : q.length ≤ 20000) : ((p.map byteC).length + (q.map byteC).length) * 1 ≤ 140737488355328 := by rw [List.length_map, List.length_map]; omega
theorem c_impl_SavePack (s : Save) (hs : Small s.books) (K : AV → AH → Prop) (hk : K (.tup [(.one (.c (.string (saveT s)))), (.one (.c (.bool (saveGood s))))]) []) : ACalls Tryz.prog 68 [.agg (saveC s)] [] K := by
  refine acall_c Tryz.f68.results.toList mixed Tryz.func68 rfl rfl (by kernel_rfl) ?_
  intro Q hQ hQO
  simp only [go_sem]
  cases h1 : booksOk s.books with
  | false =>
    have e : saveGood s = false := by rw [saveGood, h1]; rfl
    rw [saveT, e, if_neg (by decide)] at hk
    (try simp only [go_sem, h1]); repeat' (first | (with_reducible first | refine c_split ?_ ?_ | refine w_split ?_ ?_) <;> intro hb <;> try simp only [go_sem, hb, h1] | refine call_c (c_impl_BooksPack s.books hs _ ?_) <;> try simp only [go_sem, h1] | with_reducible refine hQ _ _ ?_ <;> simp only [Tryz.f68, go_sem, h1])
    exact hk
  | true =>
    cases h2 : decide (0 ≤ s.from_ ∧ s.from_ ≤ 19) with
    | false =>
      have e : saveGood s = false := by rw [saveGood, h1, h2]; rfl
      rw [saveT, e, if_neg (by decide)] at hk
      (try simp only [go_sem, h1, h2]); repeat' (first | (with_reducible first | refine c_split ?_ ?_ | refine w_split ?_ ?_) <;> intro hb <;> try simp only [go_sem, hb, h1, h2] | (first | refine call_c (c_impl_BooksPack s.books hs _ ?_) | refine call_c (c_isSeg _ _ ?_) | fail) <;> try simp only [go_sem, h1, h2] | with_reducible refine hQ _ _ ?_ <;> simp only [Tryz.f68, go_sem, h1, h2])
      exact hk
    | true =>
      obtain ⟨e1, e2⟩ := save_sealed h1 h2
      obtain ⟨hl, hl2⟩ := save_len h1 h2
      have hfr := of_decide_eq_true h2
      rw [e1, e2] at hk
      have hsb : saveBody s = putNum s.from_ ++ packS s.books := rfl
      have cS := fun K' hk' => c_impl_Seal (saveBody s) (Nat.le_trans hl (by decide)) K' hk'
      rw [hsb] at cS
      have hso : strOf (List.map (fun b => (b.toNat : Int)) (sealS (saveBody s)).1) = (⟨(sealS (saveBody s)).1.toArray⟩ : ByteArray) := so_map _
      rw [hsb] at hk hso
      (try simp only [go_sem, h1, h2]); repeat' (first | (with_reducible first | refine c_split ?_ ?_ | refine w_split ?_ ?_) <;> intro hb <;> try simp only [go_sem, hb, h1, h2] | (first | refine call_c (c_impl_BooksPack s.books hs _ ?_) | refine call_c (c_isSeg _ _ ?_) | refine call_c (c_impl_PutNum s.from_ (by omega) _ ?_) | fail) <;> try simp only [go_sem, h1, h2] | fail)
      refine ap_end rfl (List.length_map ..).symm (save_room hl2 (packS_len h1)) ?_
      simp only [go_sem]
      have htk : List.take ((putNum s.from_).length + (packS s.books).length) (List.map byteC (putNum s.from_) ++ List.map byteC (packS s.books)) = List.map byteC (putNum s.from_ ++ packS s.books) := by rw [← List.map_append]; exact List.take_of_length_le (by simp)
      cases hg : (sealS (putNum s.from_ ++ packS s.books)).2 with
      | false =>
        have hem : (sealS (putNum s.from_ ++ packS s.books)).1 = [] := by
          unfold sealS at hg ⊢
          split at hg
          · rename_i q; rw [if_pos q]
          · cases hg
        rw [hg, hem] at hk
        rw [hem] at hso
        (try simp only [go_sem, List.length_map, htk, sealR, hg, hem, bo_map, so_some, hso, bytesE_map]); repeat' (first | (with_reducible first | refine c_split ?_ ?_ | refine w_split ?_ ?_) <;> intro hb <;> try simp only [go_sem, hb, List.length_map, htk, sealR, hg, hem, bo_map, so_some, hso, bytesE_map] | refine call_c (cS _ ?_) <;> try simp only [go_sem, List.length_map, htk, sealR, hg, hem, bo_map, so_some, hso, bytesE_map] | with_reducible refine hQ _ _ ?_ <;> simp only [Tryz.f68, go_sem, List.length_map, htk, sealR, hg, hem, bo_map, so_some, hso, bytesE_map])
        exact hk
      | true =>
        rw [hg] at hk
        (try simp only [go_sem, List.length_map, htk, sealR, hg, bo_map, so_some, hso, bytesE_map]); repeat' (first | (with_reducible first | refine c_split ?_ ?_ | refine w_split ?_ ?_) <;> intro hb <;> try simp only [go_sem, hb, List.length_map, htk, sealR, hg, bo_map, so_some, hso, bytesE_map] | refine call_c (cS _ ?_) <;> try simp only [go_sem, List.length_map, htk, sealR, hg, bo_map, so_some, hso, bytesE_map] | with_reducible refine hQ _ _ ?_ <;> simp only [Tryz.f68, go_sem, List.length_map, htk, sealR, hg, bo_map, so_some, hso, bytesE_map])
        exact hk
def saveA (s : Save) : AV := .agg [.c (.int .i64 (s.from_)), .sl 0 0 0 s.books.accounts.length, .sl 1 0 0 s.books.instrs.length, .sl 2 0 0 s.books.bals.length, .sl 3 0 0 s.books.lots.length, .sl 4 0 0 s.books.trades.length, .c (.int .i64 (s.books.lot))]
theorem c_eqSave (s : Save) (hs : Small s.books) (K : AV → AH → Prop) (hk : K (.one (.c (.bool (true)))) []) : ACalls Tryz.prog 24 [.agg (saveC s), .agg (saveC s)] [] K := by
  refine acall_c Tryz.f24.results.toList mixed Tryz.func24 rfl rfl (by kernel_rfl) ?_
  intro Q hQ hQO
  simp only [go_sem]
  (try simp only [go_sem, BEq.rfl]); repeat' (first | (with_reducible first | refine c_split ?_ ?_ | refine w_split ?_ ?_) <;> intro hb <;> try simp only [go_sem, hb, BEq.rfl] | refine call_c (c_eqBooks s.books hs _ ?_) <;> try simp only [go_sem, BEq.rfl] | with_reducible refine hQ _ _ ?_ <;> simp only [Tryz.f24, go_sem, BEq.rfl])
  exact hk
end Go.Proofs.YtlefjpbhbiajfaaGreat
end
section
namespace Go.Proofs.YtlefjpbhbiajfaaGreat
open Go.BL Go.RowKit
set_option linter.unusedVariables false
set_option linter.unusedSimpArgs false
set_option maxRecDepth 100000
attribute [local go_sem] fileC fileC_len
end Go.Proofs.YtlefjpbhbiajfaaGreat
end
section
namespace Go.Proofs.YtlefjpbhbiajfaaGreat
open Go.BL Go.RowKit
set_option linter.unusedVariables false
set_option linter.unusedSimpArgs false
set_option maxRecDepth 100000
attribute [local go_sem] fileC diskC fileC_len
/-! ### Rows in order -/
/-! ### Folds over a row's beginning -/
/-! ### One file put into its place -/
/-! ### The specification's own -/
/-! ### What the specification answers -/
/-! ### The program's own -/
end Go.Proofs.YtlefjpbhbiajfaaGreat
end
section
namespace Go.Proofs.YtlefjpbhbiajfaaGreat
open Go.BL Go.RowKit
set_option linter.unusedVariables false
set_option linter.unusedSimpArgs false
set_option maxRecDepth 100000
attribute [local go_sem] accountC balC lotC tradeC booksC booksA saveC byteC fileC diskC
/-! ### What the program's reader reads is what the specification's reads -/
theorem oneS_ok {bs : List UInt8} {a n m : Nat} (h : getNum bs a = some (n, m)) : oneS bs (a, false) = (n, (m, false)) := by unfold oneS; simp [h]
theorem oneS_no {bs : List UInt8} {a : Nat} (h : getNum bs a = none) : (oneS bs (a, false)).2.2 = true := by unfold oneS; simp [h]
theorem oneS_bad (bs : List UInt8) (a : Nat) : oneS bs (a, true) = (0, (a, true)) := by unfold oneS; simp
theorem numsS_bad (bs : List UInt8) (a : Nat) : ∀ w, (numsS bs (a, true) w).2 = (a, true)
  | 0 => rfl
  | w + 1 => by rw [numsS, numsS_bad bs a w, oneS_bad]
theorem bad_eq {s : RS} (h : s.2 = true) : s = (s.1, true) := by rw [← h]
theorem one_bad {bs : List UInt8} {s : RS} (h : s.2 = true) : (oneS bs s).2.2 = true := by rw [bad_eq h, oneS_bad]
theorem nums_bad {bs : List UInt8} {s : RS} (h : s.2 = true) (w : Nat) : (numsS bs s w).2.2 = true := by rw [bad_eq h, numsS_bad]
theorem many_bad {bs : List UInt8} {s : RS} (h : s.2 = true) (m : Nat) : (manyS bs m s).2.2 = true := by
  unfold manyS; split
  · rfl
  · exact one_bad h
theorem rows_bad {bs : List UInt8} {w : Nat} {s : RS} (h : s.2 = true) : ∀ n, (rowsS bs w s n).2.2 = true
  | 0 => h
  | n + 1 => by rw [rowsS]; exact nums_bad (rows_bad h n) w
theorem list_bad {bs : List UInt8} {s : RS} (h : s.2 = true) (w m : Nat) : (listS bs w m s).2.2 = true := rows_bad (many_bad h m) _
theorem numsS_some (bs : List UInt8) (a : Nat) : ∀ (w : Nat) (r : List Int) (m : Nat), numsR bs a w = some (r, m) → numsS bs (a, false) w = (r, (m, false))
  | 0, r, m, h => by rw [numsR] at h; cases h; rfl
  | w + 1, r, m, h => by
    rw [numsR] at h
    split at h
    · cases h
    · rename_i r0 m0 h0
      split at h
      · cases h
      · rename_i n m2 h2
        cases h
        rw [numsS, numsS_some bs a w r0 m0 h0]
        simp only [oneS_ok h2]
theorem numsS_none (bs : List UInt8) (a : Nat) : ∀ (w : Nat), numsR bs a w = none → (numsS bs (a, false) w).2.2 = true
  | 0, h => by rw [numsR] at h; cases h
  | w + 1, h => by
    rw [numsR] at h
    rw [numsS]
    split at h
    · rename_i h0
      exact one_bad (numsS_none bs a w h0)
    · rename_i r0 m0 h0
      split at h
      · rename_i h2
        rw [numsS_some bs a w r0 m0 h0]
        exact oneS_no h2
      · cases h
theorem rowsS_some (bs : List UInt8) (w a : Nat) : ∀ (n : Nat) (r : List (List Int)) (m : Nat), rowsR bs w a n = some (r, m) → rowsS bs w (a, false) n = (r, (m, false))
  | 0, r, m, h => by rw [rowsR] at h; cases h; rfl
  | n + 1, r, m, h => by
    rw [rowsR] at h
    split at h
    · cases h
    · rename_i r0 m0 h0
      split at h
      · cases h
      · rename_i x m2 h2
        cases h
        rw [rowsS, rowsS_some bs w a n r0 m0 h0]
        simp only [numsS_some _ _ _ _ _ h2]
theorem rowsS_none (bs : List UInt8) (w a : Nat) : ∀ (n : Nat), rowsR bs w a n = none → (rowsS bs w (a, false) n).2.2 = true
  | 0, h => by rw [rowsR] at h; cases h
  | n + 1, h => by
    rw [rowsR] at h
    rw [rowsS]
    split at h
    · rename_i h0
      exact nums_bad (rowsS_none bs w a n h0) w
    · rename_i r0 m0 h0
      split at h
      · rename_i h2
        rw [rowsS_some bs w a n r0 m0 h0]
        exact numsS_none _ _ _ h2
      · cases h
theorem listS_some {bs : List UInt8} {w most a : Nat} {r : List (List Int)} {m : Nat} (h : listR bs w most a = some (r, m)) : listS bs w most (a, false) = (r, (m, false)) := by
  unfold listR at h
  unfold listS manyS
  split at h
  · cases h
  · rename_i n m0 h0
    split at h
    · cases h
    · rename_i hq
      rw [oneS_ok h0, if_neg hq]
      exact rowsS_some bs w m0 n r m h
theorem listS_none {bs : List UInt8} {w most a : Nat} (h : listR bs w most a = none) : (listS bs w most (a, false)).2.2 = true := by
  unfold listR at h
  unfold listS manyS
  split at h
  · rename_i h0
    split
    · exact rows_bad rfl _
    · exact rows_bad (oneS_no h0) _
  · rename_i n m0 h0
    split at h
    · rename_i hq
      rw [oneS_ok h0, if_pos hq]
      exact rows_bad rfl _
    · rename_i hq
      rw [oneS_ok h0, if_neg hq]
      exact rowsS_none bs w m0 n h
theorem fin5_bad {bs : List UInt8} {s : RS} (h : s.2 = true) (b : Books) : fin5 bs s b = none := by unfold fin5; rw [if_pos (.inl (one_bad h))]
theorem fin4_bad {bs : List UInt8} {s : RS} (h : s.2 = true) (b : Books) : fin4 bs s b = none := fin5_bad (list_bad h _ _) _
theorem fin3_bad {bs : List UInt8} {s : RS} (h : s.2 = true) (b : Books) : fin3 bs s b = none := fin4_bad (list_bad h _ _) _
theorem fin2_bad {bs : List UInt8} {s : RS} (h : s.2 = true) (b : Books) : fin2 bs s b = none := fin3_bad (list_bad h _ _) _
theorem fin1_bad {bs : List UInt8} {s : RS} (h : s.2 = true) (b : Books) : fin1 bs s b = none := fin2_bad (list_bad h _ _) _
theorem fin5_eq (bs : List UInt8) (a : Nat) (b : Books) : fin5 bs (a, false) b = rest5 bs a b := by
  unfold rest5
  cases hg : getNum bs a with
  | none => unfold fin5; rw [if_pos (.inl (oneS_no hg))]
  | some q =>
    obtain ⟨n, e⟩ := q
    unfold fin5
    simp only [oneS_ok hg]
    by_cases h1 : e = bs.length
    · cases h2 : booksOk { b with lot := (n : Int) } with
      | true => rw [if_neg (fun q => by rcases q with q | q | q; cases q; exact q h1; cases q), if_pos ⟨h1, rfl⟩]
      | false => rw [if_pos (.inr (.inr rfl)), if_neg (fun q => by cases q.2)]
    · rw [if_pos (.inr (.inl h1)), if_neg (fun q => h1 q.1)]
theorem fin4_eq (bs : List UInt8) (a : Nat) (b : Books) : fin4 bs (a, false) b = rest4 bs a b := by
  unfold rest4 fin4
  cases h : listR bs 8 30 a with
  | none => exact fin5_bad (listS_none h) _
  | some q => rw [listS_some h]; exact fin5_eq bs q.2 _
theorem fin3_eq (bs : List UInt8) (a : Nat) (b : Books) : fin3 bs (a, false) b = rest3 bs a b := by
  unfold rest3 fin3
  cases h : listR bs 5 120 a with
  | none => exact fin4_bad (listS_none h) _
  | some q => rw [listS_some h]; exact fin4_eq bs q.2 _
theorem fin2_eq (bs : List UInt8) (a : Nat) (b : Books) : fin2 bs (a, false) b = rest2 bs a b := by
  unfold rest2 fin2
  cases h : listR bs 3 160 a with
  | none => exact fin3_bad (listS_none h) _
  | some q => rw [listS_some h]; exact fin3_eq bs q.2 _
theorem fin1_eq (bs : List UInt8) (a : Nat) (b : Books) : fin1 bs (a, false) b = rest1 bs a b := by
  unfold rest1 fin1
  cases h : listR bs 2 8 a with
  | none => exact fin2_bad (listS_none h) _
  | some q => rw [listS_some h]; exact fin2_eq bs q.2 _
theorem booksS_eq (bs : List UInt8) : booksS bs = booksR bs := by
  unfold booksS booksR rest0 fin0
  cases h : listR bs 2 20 0 with
  | none => exact fin1_bad (listS_none h) _
  | some q => rw [listS_some h]; exact fin1_eq bs q.2 _
theorem c_impl_BooksRead (bs : List UInt8) (hn : bs.length ≤ 1000000000000) (K : AV → AH → Prop) (hk : K (.tup [booksA ((booksR bs).getD zeroB), (.one (.c (.bool ((booksR bs).isSome))))]) (ownB ((booksR bs).getD zeroB))) : ACalls Tryz.prog 67 [(.one (.im (bs.map byteC)))] [] K := c_impl_BooksReadS bs hn K (by rw [booksS_eq]; exact hk)
end Go.Proofs.YtlefjpbhbiajfaaGreat
end
section
namespace Go.Proofs.YtlefjpbhbiajfaaGreat
open Go.BL Go.RowKit
set_option linter.unusedVariables false
set_option linter.unusedSimpArgs false
set_option maxRecDepth 100000
attribute [local go_sem] accountC balC lotC tradeC booksC booksA saveC byteC fileC diskC
theorem drop_cons {bs : List UInt8} {i : Nat} {d : UInt8} (h : bs[i]? = some d) : bs.drop i = d :: bs.drop (i + 1) := by
  obtain ⟨hi, rfl⟩ := List.getElem?_eq_some_iff.1 h
  exact List.drop_eq_getElem_cons hi
theorem u8_lo {d : UInt8} : UInt8.ofNat d.toNat = d := by simp
theorem gn_put (bs : List UInt8) (a : Nat) : ∀ (f k x n m : Nat), gnGo bs a f k x = some (n, m) → ∃ y, n = x + y * 128 ^ k ∧ bs.drop (a + k) = putN y ++ bs.drop m ∧ (0 < k → 0 < y)
  | 0, k, x, n, m, h => by simp [gnGo] at h
  | f + 1, k, x, n, m, h => by
    rw [gnGo] at h
    split at h
    · cases h
    · rename_i d hd
      split at h
      · rename_i hlt
        split at h
        · cases h
        · rename_i hz
          cases h
          refine ⟨d.toNat, by rw [Nat.mod_eq_of_lt hlt], ?_, fun hk => ?_⟩
          · rw [putN_small (by omega), u8_lo, drop_cons hd]; rfl
          · rcases Nat.eq_zero_or_pos d.toNat with e | e
            · exact absurd ⟨e, hk⟩ hz
            · exact e
      · rename_i hge
        obtain ⟨y, h1, h2, h3⟩ := gn_put bs a f (k + 1) _ n m h
        have hd256 := d.toNat_lt
        have hy := h3 (by omega)
        refine ⟨d.toNat % 128 + 128 * y, ?_, ?_, fun _ => by omega⟩
        · rw [h1, Nat.pow_succ, Nat.add_mul, Nat.add_assoc, Nat.mul_assoc 128 y, Nat.mul_comm 128 (y * 128 ^ k), Nat.mul_assoc]
        · rw [putN_big (by omega), drop_cons hd, show a + k + 1 = a + (k + 1) by omega, h2]
          have e1 : (d.toNat % 128 + 128 * y) % 128 + 128 = d.toNat := by omega
          have e2 : (d.toNat % 128 + 128 * y) / 128 = y := by omega
          rw [e1, e2, u8_lo]; rfl
theorem num_put {bs : List UInt8} {a n m : Nat} (h : getNum bs a = some (n, m)) : bs.drop a = putNum n ++ bs.drop m := by
  unfold getNum at h
  split at h
  · obtain ⟨y, h1, h2, _⟩ := gn_put bs _ _ _ _ _ _ h
    rw [putNum_nat]
    have : y = n := by rw [h1]; simp
    subst this
    simpa using h2
  · cases h
theorem gn_lt (bs : List UInt8) (a : Nat) : ∀ (f k x n m : Nat), k + f = 9 → x < 128 ^ k → gnGo bs a f k x = some (n, m) → n < 9223372036854775808
  | 0, k, x, n, m, _, _, h => by simp [gnGo] at h
  | f + 1, k, x, n, m, hk, hx, h => by
    rw [gnGo] at h
    split at h
    · cases h
    · rename_i d hd
      have hn : x + d.toNat % 128 * 128 ^ k < 128 ^ (k + 1) := by
        have h1 : d.toNat % 128 * 128 ^ k ≤ 127 * 128 ^ k := Nat.mul_le_mul_right _ (by omega)
        rw [Nat.pow_succ]
        generalize 128 ^ k = q at *
        omega
      split at h
      · split at h
        · cases h
        · cases h
          have : 128 ^ (k + 1) ≤ 128 ^ 9 := Nat.pow_le_pow_right (by decide) (by omega)
          have e : (128 : Nat) ^ 9 = 9223372036854775808 := by decide
          omega
      · exact gn_lt bs a f (k + 1) _ n m (by omega) hn h
theorem num_lt {bs : List UInt8} {a n m : Nat} (h : getNum bs a = some (n, m)) : n < 9223372036854775808 := by
  unfold getNum at h
  split at h
  · exact gn_lt bs _ 9 0 0 n m rfl (by decide) h
  · cases h
def numW (x : Int) : Prop := 0 ≤ x ∧ x < 9223372036854775808
theorem numsR_put {bs : List UInt8} {a : Nat} : ∀ {w : Nat} {r : List Int} {m : Nat}, numsR bs a w = some (r, m) → bs.drop a = r.flatMap putNum ++ bs.drop m ∧ ∀ x ∈ r, numW x
  | 0, r, m, h => by rw [numsR] at h; cases h; exact ⟨rfl, fun x hx => nomatch hx⟩
  | w + 1, r, m, h => by
    rw [numsR] at h
    split at h
    · cases h
    · rename_i r0 m0 h0
      have h1 := numsR_put h0
      split at h
      · cases h
      · rename_i n m2 h2
        cases h
        refine ⟨?_, fun x hx => ?_⟩
        · rw [h1.1, num_put h2, List.flatMap_append, List.append_assoc]; simp
        · rcases List.mem_append.1 hx with hx | hx
          · exact h1.2 x hx
          · rw [List.mem_singleton.1 hx]; exact ⟨Int.natCast_nonneg _, Int.ofNat_lt.2 (num_lt h2)⟩
theorem rowsR_put {bs : List UInt8} {w a : Nat} : ∀ {n : Nat} {r : List (List Int)} {m : Nat}, rowsR bs w a n = some (r, m) → bs.drop a = (r.flatten).flatMap putNum ++ bs.drop m ∧ ∀ x ∈ r.flatten, numW x
  | 0, r, m, h => by rw [rowsR] at h; cases h; exact ⟨rfl, fun x hx => nomatch hx⟩
  | n + 1, r, m, h => by
    rw [rowsR] at h
    split at h
    · cases h
    · rename_i r0 m0 h0
      have h1 := rowsR_put h0
      split at h
      · cases h
      · rename_i x m2 h2
        cases h
        have h3 := numsR_put h2
        refine ⟨?_, fun y hy => ?_⟩
        · rw [h1.1, h3.1, List.flatten_append, List.flatMap_append, List.append_assoc]; simp
        · rw [List.flatten_append] at hy
          rcases List.mem_append.1 hy with hy | hy
          · exact h1.2 y hy
          · simp at hy; exact h3.2 y hy
theorem listR_put {bs : List UInt8} {w most a : Nat} {r : List (List Int)} {m : Nat} (ha : a ≤ bs.length) (h : listR bs w most a = some (r, m)) : bs.drop a = ((r.length : Int) :: r.flatten).flatMap putNum ++ bs.drop m ∧ (∀ x ∈ r.flatten, numW x) ∧ ∀ x ∈ r, x.length = w := by
  have hw := (listR_len h).2.2
  unfold listR at h
  split at h
  · cases h
  · rename_i n m0 h0
    split at h
    · cases h
    · have h1 := rowsR_put h
      have h2 := rowsR_len (getNum_le h0) h
      refine ⟨?_, h1.2, hw⟩
      rw [num_put h0, h1.1, h2.1]
      simp
theorem numsK_end {α : Type} (pre : List Int) (f : α → List Int) (xs : List α) : numsK pre f xs xs.length = pre ++ xs.flatMap f := by rw [numsK, List.take_length]
theorem flat_map {α : Type} (f : α → List Int) (g : List Int → α) (w : Nat) (hfg : ∀ r : List Int, r.length = w → (∀ x ∈ r, numW x) → f (g r) = r) : ∀ (r : List (List Int)), (∀ x ∈ r, x.length = w) → (∀ x ∈ r.flatten, numW x) → (r.map g).flatMap f = r.flatten
  | [], _, _ => rfl
  | x :: r, h1, h2 => by
    rw [List.map_cons, List.flatMap_cons, List.flatten_cons, flat_map f g w hfg r (fun y hy => h1 y (by simp [hy])) (fun y hy => h2 y (by rw [List.flatten_cons]; exact List.mem_append_right _ hy)), hfg x (h1 x (by simp)) (fun y hy => h2 y (by rw [List.flatten_cons]; exact List.mem_append_left _ hy))]
theorem accN_R {r : List Int} (h : r.length = 2) : accN (accR r) = r := by obtain ⟨a, b, rfl⟩ := len_2 h; rfl
theorem lotN_R {r : List Int} (h : r.length = 5) : lotN (lotR r) = r := by obtain ⟨a, b, c, d, e, rfl⟩ := len_5 h; rfl
theorem trdN_R {r : List Int} (h : r.length = 8) : trdN (trdR r) = r := by obtain ⟨a, b, c, d, e, f, g, i, rfl⟩ := len_8 h; rfl
theorem balN_R {r : List Int} (h : r.length = 3) (hx : ∀ x ∈ r, numW x) : balN (balR r) = r := by
  obtain ⟨a, b, c, rfl⟩ := len_3 h
  have hc := hx c (by simp)
  unfold numW at hc
  show [a, b, wrap64 (wrap64 (c - 1000000000000000) + 1000000000000000)] = [a, b, c]
  have : wrap64 (wrap64 (c - 1000000000000000) + 1000000000000000) = c := by unfold wrap64; omega
  rw [this]
theorem books_back {bs : List UInt8} {b : Books} (h : booksR bs = some b) : bs = packS b ∧ booksOk b = true := by
  unfold booksR rest0 at h
  split at h
  · cases h
  rename_i r0 a0 h0
  have q0 := listR_put (Nat.zero_le _) h0
  have l0 := (listR_len h0).2.1
  unfold rest1 at h
  split at h
  · cases h
  rename_i r1 a1 h1
  have q1 := listR_put l0 h1
  have l1 := (listR_len h1).2.1
  unfold rest2 at h
  split at h
  · cases h
  rename_i r2 a2 h2
  have q2 := listR_put l1 h2
  have l2 := (listR_len h2).2.1
  unfold rest3 at h
  split at h
  · cases h
  rename_i r3 a3 h3
  have q3 := listR_put l2 h3
  have l3 := (listR_len h3).2.1
  unfold rest4 at h
  split at h
  · cases h
  rename_i r4 a4 h4
  have q4 := listR_put l3 h4
  unfold rest5 at h
  split at h
  · cases h
  rename_i n e h5
  have q5 := num_put h5
  split at h
  · rename_i hc
    obtain ⟨he, hok⟩ := hc
    cases h
    refine ⟨?_, hok⟩
    have e0 := flat_map accN accR 2 (fun r hr _ => accN_R hr) r0 q0.2.2 q0.2.1
    have e1 := flat_map accN accR 2 (fun r hr _ => accN_R hr) r1 q1.2.2 q1.2.1
    have e2 := flat_map balN balR 3 (fun r hr hx => balN_R hr hx) r2 q2.2.2 q2.2.1
    have e3 := flat_map lotN lotR 5 (fun r hr _ => lotN_R hr) r3 q3.2.2 q3.2.1
    have e4 := flat_map trdN trdR 8 (fun r hr _ => trdN_R hr) r4 q4.2.2 q4.2.1
    have hN : booksN ⟨r0.map accR, r1.map accR, r2.map balR, r3.map lotR, r4.map trdR, (n : Int)⟩ = ((r0.length : Int) :: r0.flatten) ++ (((r1.length : Int) :: r1.flatten) ++ (((r2.length : Int) :: r2.flatten) ++ (((r3.length : Int) :: r3.flatten) ++ (((r4.length : Int) :: r4.flatten) ++ [(n : Int)])))) := by
      simp only [booksN, preN4, preN3, preN2, preN1, preN0, numsK_end, e0, e1, e2, e3, e4]
      simp only [List.length_map, List.append_assoc, List.cons_append, List.nil_append, List.singleton_append]
    have hb : bs = (booksN ⟨r0.map accR, r1.map accR, r2.map balR, r3.map lotR, r4.map trdR, (n : Int)⟩).flatMap putNum := by
      have d0 : bs.drop 0 = bs := rfl
      rw [hN, ← d0, q0.1, q1.1, q2.1, q3.1, q4.1, q5, he, List.drop_length]
      simp only [List.flatMap_append, List.append_nil, List.flatMap_cons, List.flatMap_nil]
    have hneg : (booksN ⟨r0.map accR, r1.map accR, r2.map balR, r3.map lotR, r4.map trdR, (n : Int)⟩).any (fun n => decide (n < 0)) = false := by
      rw [hN, List.any_eq_false]
      intro x hx
      have hx2 : 0 ≤ x := by
        simp only [List.mem_append, List.mem_cons, List.not_mem_nil, or_false] at hx
        rcases hx with (rfl | hx) | (rfl | hx) | (rfl | hx) | (rfl | hx) | (rfl | hx) | rfl
        · exact Int.natCast_nonneg _
        · exact (q0.2.1 x hx).1
        · exact Int.natCast_nonneg _
        · exact (q1.2.1 x hx).1
        · exact Int.natCast_nonneg _
        · exact (q2.2.1 x hx).1
        · exact Int.natCast_nonneg _
        · exact (q3.2.1 x hx).1
        · exact Int.natCast_nonneg _
        · exact (q4.2.1 x hx).1
        · exact Int.natCast_nonneg _
      have : ¬ x < 0 := by omega
      simpa using this
    unfold packS putNums
    rw [hneg, if_neg (by decide)]
    exact hb
  · cases h
def saveR (d : Disk) : Option Save := match readA d 21 with
  | none => none
  | some t => if (openS t.data.toList 0).2.2 = 0 ∧ (openS t.data.toList 0).2.1 = t.data.toList.length then match getNum (openS t.data.toList 0).1 0 with
    | none => none
    | some (f, a) => if f ≤ 19 then match booksR ((openS t.data.toList 0).1.drop a) with
      | none => none
      | some b => some ⟨(f : Int), b⟩
      else none
    else none
theorem open_seal {bs : List UInt8} {e : Nat} {body : List UInt8} (h : openS bs 0 = (body, e, 0)) (he : e = bs.length) : sealS body = (bs, true) := by
  unfold openS at h
  split at h
  · cases h
  · rename_i n a hg
    split at h
    · cases h
    · rename_i h1
      split at h
      · cases h
      · rename_i h2
        split at h
        · rename_i h3
          cases h
          have h4 := num_put hg
          have hbl : ((bs.drop a).take n).length = n := by simp; omega
          unfold sealS
          rw [hbl, if_neg h1, ← h3]
          have h5 : bs.drop (a + n) = (bs.drop a).drop n := by rw [List.drop_drop]
          have h6 : (bs.drop (a + n)).take 4 = bs.drop (a + n) := List.take_of_length_le (by simp; omega)
          rw [h6, h5, List.append_assoc, List.take_append_drop]
          rw [← h4]; rfl
        · cases h
theorem save_back {t : ByteArray} {f a : Nat} {b : Books} (h1 : (openS t.data.toList 0).2.2 = 0) (h2 : (openS t.data.toList 0).2.1 = t.data.toList.length) (h3 : getNum (openS t.data.toList 0).1 0 = some (f, a)) (h4 : f ≤ 19) (h5 : booksR ((openS t.data.toList 0).1.drop a) = some b) : saveT ⟨(f : Int), b⟩ = t ∧ saveGood ⟨(f : Int), b⟩ = true := by
  have hs := open_seal (body := (openS t.data.toList 0).1) (e := (openS t.data.toList 0).2.1) (Prod.ext rfl (Prod.ext rfl h1)) h2
  obtain ⟨p1, p2⟩ := books_back h5
  have hbody : saveBody ⟨(f : Int), b⟩ = (openS t.data.toList 0).1 := by
    show putNum (f : Int) ++ packS b = _
    rw [← p1, ← num_put h3]; rfl
  obtain ⟨e1, e2⟩ := save_sealed (s := ⟨(f : Int), b⟩) p2 (decide_eq_true ⟨Int.natCast_nonneg _, Int.ofNat_le.2 h4⟩)
  rw [hbody, hs] at e1 e2
  refine ⟨?_, e1⟩
  rw [e2]
theorem open_len (bs : List UInt8) (a : Int) : (openS bs a).1.length ≤ bs.length := by
  unfold openS
  split
  · exact Nat.zero_le _
  · split
    · exact Nat.zero_le _
    · split
      · exact Nat.zero_le _
      · split
        · simp; omega
        · exact Nat.zero_le _
theorem size_list (t : ByteArray) : t.size = t.data.toList.length := rfl
theorem c_spec_SaveLoad (d : Disk) (hn : d.files.length ≤ 1000000000) (hz : SmallF d.files) (hb0 : ∀ s, readA d 21 = some s → s.size ≤ 1000000000000) (K : AV → AH → Prop) (hk : K (.tup [.agg (saveC ((saveR d).getD ⟨0, zeroB⟩)), (.one (.c (.bool ((saveR d).isSome))))]) []) : ACalls Tryz.prog 21 [.agg (diskC d)] [] K := by
  refine acall_c Tryz.f21.results.toList mixed Tryz.func21 rfl rfl (by kernel_rfl) ?_
  intro Q hQ hQO
  simp only [go_sem]
  refine call_c (c_spec_DiskRead d 21 hn hz _ ?_)
  cases hr : readA d 21 with
  | none =>
    have he : saveR d = none := by simp only [saveR, hr]
    rw [he] at hk
    simp only [readR, go_sem]
    (try simp only [go_sem]); repeat' (first | (with_reducible first | refine c_split ?_ ?_ | refine w_split ?_ ?_) <;> intro hb <;> try simp only [go_sem, hb] | with_reducible refine hQ _ _ ?_ <;> simp only [Tryz.f21, go_sem])
    exact hk
  | some t =>
    simp only [readR, go_sem]
    have hs := hb0 t hr
    have hs2 : t.data.toList.length ≤ 1000000000000 := hs
    have hsm : t.data.toList.length ≤ maxLen := Nat.le_trans hs2 (by decide)
    have hsl := size_list t
    unfold saveR at hk
    simp only [hr] at hk
    generalize hO : openS t.data.toList 0 = O at hk
    obtain ⟨body, e, code⟩ := O
    have cU := fun K' hk' => c_spec_Unseal t.data.toList 0 hs2 K' hk'
    rw [hO] at cU
    have hbl : body.length ≤ 1000000000000 := by have := open_len t.data.toList 0; rw [hO] at this; exact Nat.le_trans this hs2
    have cG := fun K' hk' => c_spec_GetNum body 0 (Nat.le_trans hbl (by decide)) K' hk'
    simp only [openR] at cU
    simp only at hk
    by_cases h1 : code = 0
    · subst h1
      by_cases h2 : e = t.data.toList.length
      · rw [if_pos ⟨rfl, h2⟩] at hk
        subst h2
        cases hg : getNum body 0 with
        | none =>
          rw [hg] at cG hk
          (try simp only [go_sem, hsl, hsm, bytesE_map, BEq.rfl, numA]); repeat' (first | (with_reducible first | refine c_split ?_ ?_ | refine w_split ?_ ?_) <;> intro hb <;> try simp only [go_sem, hb, hsl, hsm, bytesE_map, BEq.rfl, numA] | (first | refine call_c (cU _ ?_) | refine call_c (cG _ ?_) | fail) <;> try simp only [go_sem, hsl, hsm, bytesE_map, BEq.rfl, numA] | with_reducible refine hQ _ _ ?_ <;> simp only [Tryz.f21, go_sem, hsl, hsm, bytesE_map, BEq.rfl, numA])
          exact hk
        | some q =>
          obtain ⟨f, a⟩ := q
          rw [hg] at cG hk
          simp only [numA] at cG hk
          have hal := getNum_le hg
          by_cases h4 : f ≤ 19
          · have d4 : decide ((f : Int) ≤ 19) = true := decide_eq_true (Int.ofNat_le.2 h4)
            rw [if_pos h4] at hk
            have hdl : (body.drop a).length ≤ 1000000000000 := by rw [List.length_drop]; exact Nat.le_trans (Nat.sub_le _ _) hbl
            have cB := fun K' hk' => c_spec_BooksRead (body.drop a) hdl K' hk'
            have htk : (List.map byteC (body.drop a)).take (body.length - a) = List.map byteC (body.drop a) := List.take_of_length_le (by simp)
            cases hb : booksR (body.drop a) with
            | none =>
              rw [hb] at cB hk
              simp only [Option.getD_some, Option.getD_none, Option.isSome_some, Option.isSome_none, booksC, zeroB] at cB
              (try simp only [go_sem, hsl, hsm, bytesE_map, BEq.rfl, d4, hal, htk, ← List.map_drop]); repeat' (first | (with_reducible first | refine c_split ?_ ?_ | refine w_split ?_ ?_) <;> intro hb <;> try simp only [go_sem, hb, hsl, hsm, bytesE_map, BEq.rfl, d4, hal, htk, ← List.map_drop] | (first | refine call_c (cU _ ?_) | refine call_c (cG _ ?_) | refine call_c (c_l15Seg _ _ ?_) | refine call_c (cB _ ?_) | fail) <;> try simp only [go_sem, hsl, hsm, bytesE_map, BEq.rfl, d4, hal, htk, ← List.map_drop] | with_reducible refine hQ _ _ ?_ <;> simp only [Tryz.f21, go_sem, hsl, hsm, bytesE_map, BEq.rfl, d4, hal, htk, ← List.map_drop])
              exact hk
            | some bk =>
              rw [hb] at cB hk
              simp only [Option.getD_some, Option.getD_none, Option.isSome_some, Option.isSome_none, booksC, zeroB] at cB
              (try simp only [go_sem, hsl, hsm, bytesE_map, BEq.rfl, d4, hal, htk, ← List.map_drop]); repeat' (first | (with_reducible first | refine c_split ?_ ?_ | refine w_split ?_ ?_) <;> intro hb <;> try simp only [go_sem, hb, hsl, hsm, bytesE_map, BEq.rfl, d4, hal, htk, ← List.map_drop] | (first | refine call_c (cU _ ?_) | refine call_c (cG _ ?_) | refine call_c (c_l15Seg _ _ ?_) | refine call_c (cB _ ?_) | fail) <;> try simp only [go_sem, hsl, hsm, bytesE_map, BEq.rfl, d4, hal, htk, ← List.map_drop] | with_reducible refine hQ _ _ ?_ <;> simp only [Tryz.f21, go_sem, hsl, hsm, bytesE_map, BEq.rfl, d4, hal, htk, ← List.map_drop])
              exact hk
          · have d4 : decide ((f : Int) ≤ 19) = false := decide_eq_false (fun q => h4 (Int.ofNat_le.1 q))
            rw [if_neg h4] at hk
            (try simp only [go_sem, hsl, hsm, bytesE_map, BEq.rfl, d4]); repeat' (first | (with_reducible first | refine c_split ?_ ?_ | refine w_split ?_ ?_) <;> intro hb <;> try simp only [go_sem, hb, hsl, hsm, bytesE_map, BEq.rfl, d4] | (first | refine call_c (cU _ ?_) | refine call_c (cG _ ?_) | refine call_c (c_l15Seg _ _ ?_) | fail) <;> try simp only [go_sem, hsl, hsm, bytesE_map, BEq.rfl, d4] | with_reducible refine hQ _ _ ?_ <;> simp only [Tryz.f21, go_sem, hsl, hsm, bytesE_map, BEq.rfl, d4])
            exact hk
      · rw [if_neg (fun q => h2 q.2)] at hk
        have hne : ((e : Int) == (t.data.toList.length : Int)) = false := beq_eq_false_iff_ne.2 fun q => h2 (Int.ofNat_inj.1 q)
        (try simp only [go_sem, hsl, hsm, bytesE_map, BEq.rfl, hne]); repeat' (first | (with_reducible first | refine c_split ?_ ?_ | refine w_split ?_ ?_) <;> intro hb <;> try simp only [go_sem, hb, hsl, hsm, bytesE_map, BEq.rfl, hne] | refine call_c (cU _ ?_) <;> try simp only [go_sem, hsl, hsm, bytesE_map, BEq.rfl, hne] | with_reducible refine hQ _ _ ?_ <;> simp only [Tryz.f21, go_sem, hsl, hsm, bytesE_map, BEq.rfl, hne])
        exact hk
    · rw [if_neg (fun q => h1 q.1)] at hk
      have hne : (code == 0) = false := beq_eq_false_iff_ne.2 h1
      (try simp only [go_sem, hsl, hsm, bytesE_map, hne]); repeat' (first | (with_reducible first | refine c_split ?_ ?_ | refine w_split ?_ ?_) <;> intro hb <;> try simp only [go_sem, hb, hsl, hsm, bytesE_map, hne] | refine call_c (cU _ ?_) <;> try simp only [go_sem, hsl, hsm, bytesE_map, hne] | with_reducible refine hQ _ _ ?_ <;> simp only [Tryz.f21, go_sem, hsl, hsm, bytesE_map, hne])
      exact hk
end Go.Proofs.YtlefjpbhbiajfaaGreat
end
section
namespace Go.Proofs.YtlefjpbhbiajfaaGreat
open Go.BL Go.RowKit
set_option linter.unusedVariables false
set_option linter.unusedSimpArgs false
set_option maxRecDepth 100000
attribute [local go_sem] accountC balC lotC tradeC booksC booksA saveC saveA byteC fileC diskC ownB
theorem ok_small {b : Books} (h : booksOk b = true) : Small b := by
  obtain ⟨p1, p2, p3, p4, p5⟩ := booksOk_parts h
  have q1 := okL_len p1
  have q2 := okL_len p2
  have q3 := (balsOk_amt p3).2
  have q4 : b.lots.length ≤ 120 := by
    rw [lotsOk, Bool.and_eq_true] at p4
    have := okL_len p4.1
    omega
  have q5 := okL_len p5
  exact ⟨by omega, by omega, by omega, by omega, by omega⟩
theorem c_impl_SaveLoad (d : Disk) (hn : d.files.length ≤ 1000000000) (hz : SmallF d.files) (hb0 : ∀ s, readA d 21 = some s → s.size ≤ 1000000000000) (K : AV → AH → Prop) (hk : K (.tup [saveA ((saveR d).getD ⟨0, zeroB⟩), (.one (.c (.bool ((saveR d).isSome))))]) (ownB ((saveR d).getD ⟨0, zeroB⟩).books)) : ACalls Tryz.prog 23 [.agg (diskC d)] [] K := by
  refine acall_c Tryz.f23.results.toList mixed Tryz.func23 rfl rfl (by kernel_rfl) ?_
  intro Q hQ hQO
  simp only [go_sem]
  refine call_c (c_impl_DiskRead d 21 hn hz _ ?_)
  cases hr : readA d 21 with
  | none =>
    have he : saveR d = none := by simp only [saveR, hr]
    rw [he] at hk
    simp only [readR, go_sem]
    (try simp only [go_sem]); repeat' (first | (with_reducible first | refine c_split ?_ ?_ | refine w_split ?_ ?_) <;> intro hb <;> try simp only [go_sem, hb] | fail)
    refine hQO [2, 3, 4, 5, 6] _ _ (GC.step (Ghost.nlc (l := 1) rfl 0 1 rfl rfl 129 2) (GC.step (Ghost.nlc (l := 1) rfl 0 2 rfl rfl 131 2) (GC.step (Ghost.nlc (l := 1) rfl 0 3 rfl rfl 134 3) (GC.step (Ghost.nlc (l := 1) rfl 0 4 rfl rfl 137 5) (GC.step (Ghost.nlc (l := 1) rfl 0 5 rfl rfl 140 8) (GC.now ?_)))))) <;> simp only [Tryz.f23, go_sem, List.nodup_cons, List.nodup_nil, List.mem_cons, List.not_mem_nil, or_false, not_false_eq_true, List.idxOf?_cons, List.idxOf?_nil, Option.map_none]
    exact hk
  | some t =>
    simp only [readR, go_sem]
    have hs := hb0 t hr
    have hs2 : t.data.toList.length ≤ 1000000000000 := hs
    have hsm : t.data.toList.length ≤ maxLen := Nat.le_trans hs2 (by decide)
    have hsl := size_list t
    unfold saveR at hk
    simp only [hr] at hk
    generalize hO : openS t.data.toList 0 = O at hk
    obtain ⟨body, e, code⟩ := O
    have cU := fun K' hk' => c_impl_Unseal t.data.toList 0 hs2 K' hk'
    rw [hO] at cU
    have hbl : body.length ≤ 1000000000000 := by have := open_len t.data.toList 0; rw [hO] at this; exact Nat.le_trans this hs2
    have cG := fun K' hk' => c_impl_GetNum body 0 (Nat.le_trans hbl (by decide)) K' hk'
    simp only [openR] at cU
    simp only at hk
    by_cases h1 : code = 0
    · subst h1
      by_cases h2 : e = t.data.toList.length
      · rw [if_pos ⟨rfl, h2⟩] at hk
        subst h2
        cases hg : getNum body 0 with
        | none =>
          rw [hg] at cG hk
          (try simp only [go_sem, hsl, hsm, bytesE_map, BEq.rfl, numA]); repeat' (first | (with_reducible first | refine c_split ?_ ?_ | refine w_split ?_ ?_) <;> intro hb <;> try simp only [go_sem, hb, hsl, hsm, bytesE_map, BEq.rfl, numA] | (first | refine call_c (cU _ ?_) | refine call_c (cG _ ?_) | fail) <;> try simp only [go_sem, hsl, hsm, bytesE_map, BEq.rfl, numA] | fail)
          refine hQO [3, 4, 5, 6, 7] _ _ (GC.step (Ghost.nlc (l := 1) rfl 0 1 rfl rfl 129 2) (GC.step (Ghost.nlc (l := 1) rfl 0 2 rfl rfl 131 2) (GC.step (Ghost.nlc (l := 1) rfl 0 3 rfl rfl 134 3) (GC.step (Ghost.nlc (l := 1) rfl 0 4 rfl rfl 137 5) (GC.step (Ghost.nlc (l := 1) rfl 0 5 rfl rfl 140 8) (GC.now ?_)))))) <;> simp only [Tryz.f23, go_sem, List.nodup_cons, List.nodup_nil, List.mem_cons, List.not_mem_nil, or_false, not_false_eq_true, List.idxOf?_cons, List.idxOf?_nil, Option.map_none]
          exact hk
        | some q =>
          obtain ⟨f, a⟩ := q
          rw [hg] at cG hk
          simp only [numA] at cG hk
          have hal := getNum_le hg
          by_cases h4 : f ≤ 19
          · have d4 : decide ((f : Int) ≤ 19) = true := decide_eq_true (Int.ofNat_le.2 h4)
            rw [if_pos h4] at hk
            have hdl : (body.drop a).length ≤ 1000000000000 := by rw [List.length_drop]; exact Nat.le_trans (Nat.sub_le _ _) hbl
            have cB := fun K' hk' => c_impl_BooksRead (body.drop a) hdl K' hk'
            have htk : (List.map byteC (body.drop a)).take (body.length - a) = List.map byteC (body.drop a) := List.take_of_length_le (by simp)
            cases hb : booksR (body.drop a) with
            | none =>
              rw [hb] at cB hk
              simp only [Option.getD_some, Option.getD_none, Option.isSome_some, Option.isSome_none, booksA, ownB, zeroB] at cB
              have cP := fun K' hk' => c_impl_SavePack ⟨(f : Int), zeroB⟩ zero_small K' hk'
              simp only [saveC, zeroB] at cP
              generalize saveT ⟨(f : Int), ⟨[], [], [], [], [], 0⟩⟩ = sT at cP
              generalize saveGood ⟨(f : Int), ⟨[], [], [], [], [], 0⟩⟩ = sG at cP
              (try simp only [go_sem, hsl, hsm, bytesE_map, BEq.rfl, d4, hal, htk, ← List.map_drop]); repeat' (first | (with_reducible first | refine c_split ?_ ?_ | refine w_split ?_ ?_) <;> intro hb <;> try simp only [go_sem, hb, hsl, hsm, bytesE_map, BEq.rfl, d4, hal, htk, ← List.map_drop] | (first | refine call_c (cU _ ?_) | refine call_c (cG _ ?_) | refine call_c (c_isSeg _ _ ?_) | refine call_c (cB _ ?_) | refine call_c (cP _ ?_) | fail) <;> try simp only [go_sem, hsl, hsm, bytesE_map, BEq.rfl, d4, hal, htk, ← List.map_drop] | fail)
              refine hQO [10, 11, 12, 13, 14] _ _ (GC.step (Ghost.nlc (l := 1) rfl 0 1 rfl rfl 129 2) (GC.step (Ghost.nlc (l := 1) rfl 0 2 rfl rfl 131 2) (GC.step (Ghost.nlc (l := 1) rfl 0 3 rfl rfl 134 3) (GC.step (Ghost.nlc (l := 1) rfl 0 4 rfl rfl 137 5) (GC.step (Ghost.nlc (l := 1) rfl 0 5 rfl rfl 140 8) (GC.now ?_)))))) <;> simp only [Tryz.f23, go_sem, List.nodup_cons, List.nodup_nil, List.mem_cons, List.not_mem_nil, or_false, not_false_eq_true, List.idxOf?_cons, List.idxOf?_nil, Option.map_none]
              exact hk
            | some bk =>
              rw [hb] at cB hk
              obtain ⟨e1, e2⟩ := save_back (t := t) (by rw [hO]) (by rw [hO]) (by rw [hO]; exact hg) h4 (by rw [hO]; exact hb)
              have hbk := ok_small (books_back hb).2
              simp only [Option.getD_some, Option.getD_none, Option.isSome_some, Option.isSome_none, booksA, ownB] at cB
              have cP := fun K' hk' => c_impl_SavePack ⟨(f : Int), bk⟩ hbk K' hk'
              rw [e1, e2] at cP
              simp only [saveC] at cP
              (try simp only [go_sem, hsl, hsm, bytesE_map, BEq.rfl, d4, hal, htk, ← List.map_drop]); repeat' (first | (with_reducible first | refine c_split ?_ ?_ | refine w_split ?_ ?_) <;> intro hb <;> try simp only [go_sem, hb, hsl, hsm, bytesE_map, BEq.rfl, d4, hal, htk, ← List.map_drop] | (first | refine call_c (cU _ ?_) | refine call_c (cG _ ?_) | refine call_c (c_isSeg _ _ ?_) | refine call_c (cB _ ?_) | refine call_c (cP _ ?_) | fail) <;> try simp only [go_sem, hsl, hsm, bytesE_map, BEq.rfl, d4, hal, htk, ← List.map_drop] | fail)
              refine hQO [3, 4, 5, 6, 7] _ _ (GC.now ?_) <;> simp only [Tryz.f23, go_sem, List.nodup_cons, List.nodup_nil, List.mem_cons, List.not_mem_nil, or_false, not_false_eq_true, List.idxOf?_cons, List.idxOf?_nil, Option.map_none]
              exact hk
          · have d4 : decide ((f : Int) ≤ 19) = false := decide_eq_false (fun q => h4 (Int.ofNat_le.1 q))
            rw [if_neg h4] at hk
            (try simp only [go_sem, hsl, hsm, bytesE_map, BEq.rfl, d4]); repeat' (first | (with_reducible first | refine c_split ?_ ?_ | refine w_split ?_ ?_) <;> intro hb <;> try simp only [go_sem, hb, hsl, hsm, bytesE_map, BEq.rfl, d4] | (first | refine call_c (cU _ ?_) | refine call_c (cG _ ?_) | refine call_c (c_isSeg _ _ ?_) | fail) <;> try simp only [go_sem, hsl, hsm, bytesE_map, BEq.rfl, d4] | fail)
            refine hQO [3, 4, 5, 6, 7] _ _ (GC.step (Ghost.nlc (l := 1) rfl 0 1 rfl rfl 129 2) (GC.step (Ghost.nlc (l := 1) rfl 0 2 rfl rfl 131 2) (GC.step (Ghost.nlc (l := 1) rfl 0 3 rfl rfl 134 3) (GC.step (Ghost.nlc (l := 1) rfl 0 4 rfl rfl 137 5) (GC.step (Ghost.nlc (l := 1) rfl 0 5 rfl rfl 140 8) (GC.now ?_)))))) <;> simp only [Tryz.f23, go_sem, List.nodup_cons, List.nodup_nil, List.mem_cons, List.not_mem_nil, or_false, not_false_eq_true, List.idxOf?_cons, List.idxOf?_nil, Option.map_none]
            exact hk
      · rw [if_neg (fun q => h2 q.2)] at hk
        have hne : ((e : Int) == (t.data.toList.length : Int)) = false := beq_eq_false_iff_ne.2 fun q => h2 (Int.ofNat_inj.1 q)
        (try simp only [go_sem, hsl, hsm, bytesE_map, BEq.rfl, hne]); repeat' (first | (with_reducible first | refine c_split ?_ ?_ | refine w_split ?_ ?_) <;> intro hb <;> try simp only [go_sem, hb, hsl, hsm, bytesE_map, BEq.rfl, hne] | refine call_c (cU _ ?_) <;> try simp only [go_sem, hsl, hsm, bytesE_map, BEq.rfl, hne] | fail)
        refine hQO [3, 4, 5, 6, 7] _ _ (GC.step (Ghost.nlc (l := 1) rfl 0 1 rfl rfl 129 2) (GC.step (Ghost.nlc (l := 1) rfl 0 2 rfl rfl 131 2) (GC.step (Ghost.nlc (l := 1) rfl 0 3 rfl rfl 134 3) (GC.step (Ghost.nlc (l := 1) rfl 0 4 rfl rfl 137 5) (GC.step (Ghost.nlc (l := 1) rfl 0 5 rfl rfl 140 8) (GC.now ?_)))))) <;> simp only [Tryz.f23, go_sem, List.nodup_cons, List.nodup_nil, List.mem_cons, List.not_mem_nil, or_false, not_false_eq_true, List.idxOf?_cons, List.idxOf?_nil, Option.map_none]
        exact hk
    · rw [if_neg (fun q => h1 q.1)] at hk
      have hne : (code == 0) = false := beq_eq_false_iff_ne.2 h1
      (try simp only [go_sem, hsl, hsm, bytesE_map, hne]); repeat' (first | (with_reducible first | refine c_split ?_ ?_ | refine w_split ?_ ?_) <;> intro hb <;> try simp only [go_sem, hb, hsl, hsm, bytesE_map, hne] | refine call_c (cU _ ?_) <;> try simp only [go_sem, hsl, hsm, bytesE_map, hne] | fail)
      refine hQO [3, 4, 5, 6, 7] _ _ (GC.step (Ghost.nlc (l := 1) rfl 0 1 rfl rfl 129 2) (GC.step (Ghost.nlc (l := 1) rfl 0 2 rfl rfl 131 2) (GC.step (Ghost.nlc (l := 1) rfl 0 3 rfl rfl 134 3) (GC.step (Ghost.nlc (l := 1) rfl 0 4 rfl rfl 137 5) (GC.step (Ghost.nlc (l := 1) rfl 0 5 rfl rfl 140 8) (GC.now ?_)))))) <;> simp only [Tryz.f23, go_sem, List.nodup_cons, List.nodup_nil, List.mem_cons, List.not_mem_nil, or_false, not_false_eq_true, List.idxOf?_cons, List.idxOf?_nil, Option.map_none]
      exact hk
end Go.Proofs.YtlefjpbhbiajfaaGreat
end
section
namespace Go.Proofs.YtlefjpbhbiajfaaGreat
open Go.BL Go.RowKit
set_option linter.unusedVariables false
set_option linter.unusedSimpArgs false
set_option maxRecDepth 100000
attribute [local go_sem] accountC balC lotC tradeC booksC booksA fileC diskC
end Go.Proofs.YtlefjpbhbiajfaaGreat
end
