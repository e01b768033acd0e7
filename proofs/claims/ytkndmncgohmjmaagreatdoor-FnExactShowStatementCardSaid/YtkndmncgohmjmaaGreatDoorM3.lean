/- Walks of functions of the program and the laws they rest on (3 of 3). Conditions: none. -/
import Derived.Shelf.Strconv.Itoa3
import Derived.Shelf.Strconv.ErrVarAll
import Derived.Shelf.Strings.Prefix
import Derived.Shelf.Lay
import Derived.Ground.NamesProg
import Derived.Lib.ItoaLen
import Derived.Shelf.Strings.OnBuilder
import Derived.Deep.Strs
import Derived.Deep.Slices
import Derived.SizedLaws
import Derived.Lib.SmallJoins
import Derived.ChangeShapes
import Derived.WideShapes
import Derived.Test.YtkndmncgohmjmaaGreatDoorM2
section
namespace Go.Proofs.YtkndmncgohmjmaaGreatDoor
open Go.BL Go.RowKit
set_option linter.unusedVariables false
set_option linter.unusedSimpArgs false
set_option maxRecDepth 100000
theorem d67_0_LBooksT : DrawL Tryz.prog 0 47 (.on [(0, false, true), (1, false, true), (2, false, true), (3, false, true), (4, false, true), (5, false, true), (6, false, true), (7, false, true), (8, false, true), (9, false, true), (10, false, true), (11, false, true), (12, false, true), (13, false, true), (14, false, true), (15, false, true), (16, false, true), (17, false, true), (18, false, true), (19, false, true), (20, true, true), (21, true, true), (22, true, true), (23, true, true), (24, true, true), (25, true, true), (26, false, false), (27, false, false), (28, false, true), (29, false, true), (30, false, true)] .nil) := draw_L
theorem d58_0_LBooksT : DrawL Tryz.prog 0 18 (.on [(0, false, true), (1, false, true), (2, false, true), (3, false, true), (4, false, true), (5, false, true), (6, false, true), (7, false, true), (8, false, true), (9, false, true), (10, false, true), (11, false, true), (12, false, true), (13, false, true), (14, false, true), (15, false, true), (16, false, true), (17, false, true), (18, false, true), (19, false, true), (20, false, true), (21, false, true), (22, false, true), (23, false, true), (24, false, true), (25, false, true), (26, false, true), (27, false, true), (28, false, true), (29, true, true), (30, true, true), (31, false, false), (32, false, false), (33, false, true), (34, false, true), (35, false, true), (36, false, true), (37, false, true), (38, false, true), (39, false, true), (40, false, true), (41, false, true), (42, false, true), (43, false, true), (44, false, true), (45, false, true), (46, false, true), (47, false, true), (48, false, true), (49, false, true), (50, false, true), (51, false, true), (52, false, true), (53, false, true), (54, false, true), (55, false, true), (56, false, true), (57, true, true), (58, true, true), (59, true, true), (60, true, true), (61, true, true), (62, true, true), (63, false, false), (64, false, false), (65, false, false), (66, false, false), (67, false, false)] .nil) := draw_L
attribute [local go_sem] accountC balC lotC tradeC
def trP (x : Trade) : Bool := noOk x.no && noOk x.buyer && noOk x.seller && noOk x.paper && noOk x.cash && !(x.buyer == x.seller) && decide (1 ≤ x.qty ∧ x.qty ≤ 1000000000000000) && decide (0 ≤ x.price ∧ x.price ≤ 1000000000000000) && decide (1 ≤ x.state ∧ x.state ≤ 3)
def trLt (y x : Trade) : Bool := decide (y.no < x.no)
def tradesOk (xs : List Trade) : Bool := okL trP trLt 30 xs
theorem trLt_f {y x : Trade} (h : trLt y x = true) : decide (x.no ≤ y.no) = false := by have := of_decide_eq_true h; exact decide_eq_false (by omega)
set_option maxHeartbeats 2000000 in
theorem c_impl_TradesOk (xs : List Trade) (hn : xs.length ≤ 1000000000) (K : AV → AH → Prop) (hk : K (.one (.c (.bool (tradesOk xs)))) []) : ACalls Tryz.prog 67 [(.one (.im (xs.map tradeC)))] [] K := by
  refine acall_c Tryz.f67.results.toList mixed Tryz.func67 rfl rfl (by kernel_rfl) ?_
  intro Q hQ hQO
  simp only [go_sem]
  refine for_at (xs.length) [0, 5, 6] (fun i f h => f 7 = (.one (.c (.int .i64 (i)))) ∧ h = [] ∧ allTo (rowG trP trLt xs) i = true) (GC.now ?_) ?_
  · simp only [go_sem, nc_0, true_and]
    rfl
  · rintro i f h J hi hA ⟨e7, rfl, hP⟩ hJ
    simp only [go_sem] at hA
    simp only [go_sem, hA, e7]
    refine c_split (fun hb => ?_) (fun hb => ?_)
    rotate_left
    · simp only [go_sem, hb, hA, e7]
      obtain rfl := ge_len hb hi
      (try simp only [go_sem, hA, e7]); repeat' (first | (with_reducible first | refine c_split ?_ ?_ | refine w_split ?_ ?_ | refine tw_split ?_ ?_) <;> intro hb <;> try simp only [go_sem, hb, hA, e7] | with_reducible refine d67_0_LBooksT (by with_unfolding_all rfl) (by kernel_rfl) ?_ <;> try simp only [go_sem, hA, e7] | with_reducible refine hQ _ _ ?_ <;> simp only [Tryz.f67, go_sem, hA, e7])
      exact kB hk (by rw [tradesOk, okL, hP, Bool.true_and])
    have hi := lt_len hb
    have hw := wrap_nat i (by omega)
    have hil : (i : Int) < ((xs.length : Nat) : Int) := Int.ofNat_lt.2 hi
    have hg0 : (xs)[i]? = some ((xs)[i]) := List.getElem?_eq_getElem (by omega)
    simp only [go_sem, hb, hA, e7, hg0]
    try simp only [go_sem, hA, e7, hil, hg0]
    cases hr : rowG trP trLt xs i with
    | true =>
      have hall := allTo_s hP hr
      rcases i with _ | j
      · have g0 : decide ((0 : Int) < ((0 : Nat) : Int)) = false := by decide
        rw [rowG_0 hi] at hr
        simp only [trP, Bool.and_eq_true] at hr
        obtain ⟨⟨⟨⟨⟨⟨⟨⟨f0, f1⟩, f2⟩, f3⟩, f4⟩, f5⟩, f6⟩, f7⟩, f8⟩ := hr
        have f5 := not_tt f5
        (try simp only [go_sem, hA, e7, hil, hg0, g0, f0, f1, f2, f3, f4, f5, f6, f7, f8]); repeat' (first | (with_reducible first | refine c_split ?_ ?_ | refine w_split ?_ ?_ | refine tw_split ?_ ?_) <;> intro hb <;> try simp only [go_sem, hb, hA, e7, hil, hg0, g0, f0, f1, f2, f3, f4, f5, f6, f7, f8] | (first | with_reducible refine d67_0_LBooksT (by with_unfolding_all rfl) (by kernel_rfl) ?_ | refine call_c (c_isNo _ _ ?_) | refine call_c (c_in _ _ _ _ ?_) | fail) <;> try simp only [go_sem, hA, e7, hil, hg0, g0, f0, f1, f2, f3, f4, f5, f6, f7, f8] | fail)
        refine gc_trim 0 (by decide) (by simp only [go_sem]) (by simp only [go_sem]) (hJ _ _ hi (by simp only [go_sem, hA, e7]) ⟨?_, ?_, ?_⟩) <;> try simp only [go_sem, hA, e7, hw]
        exact hall
      · have hj : j < xs.length := by omega
        have hgj : xs[j]? = some xs[j] := List.getElem?_eq_getElem hj
        have g1 : decide ((0 : Int) < ((j + 1 : Nat) : Int)) = true := decide_eq_true (by omega)
        have g2 : wrap64 (((j + 1 : Nat) : Int) - 1) = (j : Int) := by unfold wrap64; omega
        rw [rowG_s hi, Bool.and_eq_true] at hr
        obtain ⟨hr, hlt⟩ := hr
        simp only [trP, Bool.and_eq_true] at hr
        obtain ⟨⟨⟨⟨⟨⟨⟨⟨f0, f1⟩, f2⟩, f3⟩, f4⟩, f5⟩, f6⟩, f7⟩, f8⟩ := hr
        have f5 := not_tt f5
        have hlt2 := trLt_f hlt
        (try simp only [go_sem, hA, e7, hil, hg0, g1, g2, hgj, hlt2, f0, f1, f2, f3, f4, f5, f6, f7, f8]); repeat' (first | (with_reducible first | refine c_split ?_ ?_ | refine w_split ?_ ?_ | refine tw_split ?_ ?_) <;> intro hb <;> try simp only [go_sem, hb, hA, e7, hil, hg0, g1, g2, hgj, hlt2, f0, f1, f2, f3, f4, f5, f6, f7, f8] | (first | with_reducible refine d67_0_LBooksT (by with_unfolding_all rfl) (by kernel_rfl) ?_ | refine call_c (c_isNo _ _ ?_) | refine call_c (c_in _ _ _ _ ?_) | fail) <;> try simp only [go_sem, hA, e7, hil, hg0, g1, g2, hgj, hlt2, f0, f1, f2, f3, f4, f5, f6, f7, f8] | fail)
        refine gc_trim 0 (by decide) (by simp only [go_sem]) (by simp only [go_sem]) (hJ _ _ hi (by simp only [go_sem, hA, e7]) ⟨?_, ?_, ?_⟩) <;> try simp only [go_sem, hA, e7, hw]
        exact hall
    | false =>
      rw [tradesOk, okL_no hr hi] at hk
      rcases i with _ | j
      · have g0 : decide ((0 : Int) < ((0 : Nat) : Int)) = false := by decide
        rw [rowG_0 hi] at hr
        (try simp only [go_sem, hA, e7, hil, hg0, g0]); repeat' (first | (with_reducible first | refine c_split ?_ ?_ | refine w_split ?_ ?_ | refine tw_split ?_ ?_) <;> intro hb <;> try simp only [go_sem, hb, hA, e7, hil, hg0, g0] | (first | with_reducible refine d67_0_LBooksT (by with_unfolding_all rfl) (by kernel_rfl) ?_ | refine call_c (c_isNo _ _ ?_) | refine call_c (c_in _ _ _ _ ?_) | fail) <;> try simp only [go_sem, hA, e7, hil, hg0, g0] | with_reducible refine hQ _ _ ?_ <;> simp only [Tryz.f67, go_sem, hA, e7, hil, hg0, g0])
        all_goals first | exact hk | exact (Bool.eq_false_iff.1 hr (by clear hr hJ hA hQ hQO; simp only [trP]; simp_all <;> omega)).elim
      · have hj : j < xs.length := by omega
        have hgj : xs[j]? = some xs[j] := List.getElem?_eq_getElem hj
        have g1 : decide ((0 : Int) < ((j + 1 : Nat) : Int)) = true := decide_eq_true (by omega)
        have g2 : wrap64 (((j + 1 : Nat) : Int) - 1) = (j : Int) := by unfold wrap64; omega
        rw [rowG_s hi] at hr
        (try simp only [go_sem, hA, e7, hil, hg0, g1, g2, hgj]); repeat' (first | (with_reducible first | refine c_split ?_ ?_ | refine w_split ?_ ?_ | refine tw_split ?_ ?_) <;> intro hb <;> try simp only [go_sem, hb, hA, e7, hil, hg0, g1, g2, hgj] | (first | with_reducible refine d67_0_LBooksT (by with_unfolding_all rfl) (by kernel_rfl) ?_ | refine call_c (c_isNo _ _ ?_) | refine call_c (c_in _ _ _ _ ?_) | fail) <;> try simp only [go_sem, hA, e7, hil, hg0, g1, g2, hgj] | with_reducible refine hQ _ _ ?_ <;> simp only [Tryz.f67, go_sem, hA, e7, hil, hg0, g1, g2, hgj])
        all_goals first | exact hk | exact (Bool.eq_false_iff.1 hr (by clear hr hJ hA hQ hQO; simp only [trP, trLt]; simp_all <;> omega)).elim
set_option maxHeartbeats 2000000 in
theorem c_spec_TradesOk (xs : List Trade) (hn : xs.length ≤ 1000000000) (K : AV → AH → Prop) (hk : K (.one (.c (.bool (tradesOk xs)))) []) : ACalls Tryz.prog 58 [(.one (.im (xs.map tradeC)))] [] K := by
  refine acall_c Tryz.f58.results.toList mixed Tryz.func58 rfl rfl (by kernel_rfl) ?_
  intro Q hQ hQO
  simp only [go_sem]
  (try simp only [go_sem]); repeat' (first | (with_reducible first | refine c_split ?_ ?_ | refine w_split ?_ ?_ | refine tw_split ?_ ?_) <;> intro hb <;> try simp only [go_sem, hb] | with_reducible refine d58_0_LBooksT (by with_unfolding_all rfl) (by kernel_rfl) ?_ <;> try simp only [go_sem] | fail)
  · rw [tradesOk, okL_long (of_decide_eq_true hb)] at hk
    (try simp only [go_sem]); repeat' (first | (with_reducible first | refine c_split ?_ ?_ | refine w_split ?_ ?_ | refine tw_split ?_ ?_) <;> intro hb <;> try simp only [go_sem, hb] | with_reducible refine d58_0_LBooksT (by with_unfolding_all rfl) (by kernel_rfl) ?_ <;> try simp only [go_sem] | with_reducible refine hQ _ _ ?_ <;> simp only [Tryz.f58, go_sem])
    exact hk
  · have hlen := of_decide_eq_false hb
    refine for_at (xs.length) [0] (fun i f h => f 3 = (.one (.c (.int .i64 (i)))) ∧ h = [] ∧ allTo (rowG trP trLt xs) i = true) (GC.now ?_) ?_
    · simp only [go_sem, nc_0, true_and]
      rfl
    · rintro i f h J hi hA ⟨e3, rfl, hP⟩ hJ
      simp only [go_sem] at hA
      simp only [go_sem, hA, e3]
      refine c_split (fun hb => ?_) (fun hb => ?_)
      rotate_left
      · simp only [go_sem, hb, hA, e3]
        obtain rfl := ge_len hb hi
        (try simp only [go_sem, hA, e3]); repeat' (first | (with_reducible first | refine c_split ?_ ?_ | refine w_split ?_ ?_ | refine tw_split ?_ ?_) <;> intro hb <;> try simp only [go_sem, hb, hA, e3] | with_reducible refine d58_0_LBooksT (by with_unfolding_all rfl) (by kernel_rfl) ?_ <;> try simp only [go_sem, hA, e3] | with_reducible refine hQ _ _ ?_ <;> simp only [Tryz.f58, go_sem, hA, e3])
        exact kB hk (by rw [tradesOk, okL, hP, Bool.true_and, decide_eq_true (by omega)])
      have hi := lt_len hb
      have hw := wrap_nat i (by omega)
      have hil : (i : Int) < ((xs.length : Nat) : Int) := Int.ofNat_lt.2 hi
      have hg0 : (xs)[i]? = some ((xs)[i]) := List.getElem?_eq_getElem (by omega)
      simp only [go_sem, hb, hA, e3, hg0]
      try simp only [go_sem, hA, e3, hil, hg0]
      cases hr : rowG trP trLt xs i with
      | true =>
        have hall := allTo_s hP hr
        rcases i with _ | j
        · have g0 : decide ((0 : Int) < ((0 : Nat) : Int)) = false := by decide
          rw [rowG_0 hi] at hr
          simp only [trP, Bool.and_eq_true] at hr
          obtain ⟨⟨⟨⟨⟨⟨⟨⟨f0, f1⟩, f2⟩, f3⟩, f4⟩, f5⟩, f6⟩, f7⟩, f8⟩ := hr
          have f5 := not_tt f5
          (try simp only [go_sem, hA, e3, hil, hg0, g0, f0, f1, f2, f3, f4, f5, f6, f7, f8]); repeat' (first | (with_reducible first | refine c_split ?_ ?_ | refine w_split ?_ ?_ | refine tw_split ?_ ?_) <;> intro hb <;> try simp only [go_sem, hb, hA, e3, hil, hg0, g0, f0, f1, f2, f3, f4, f5, f6, f7, f8] | (first | with_reducible refine d58_0_LBooksT (by with_unfolding_all rfl) (by kernel_rfl) ?_ | refine call_c (c_l3No _ _ ?_) | refine call_c (c_l1In _ _ _ _ ?_) | refine call_c (c_l1Some _ _ _ ?_) | fail) <;> try simp only [go_sem, hA, e3, hil, hg0, g0, f0, f1, f2, f3, f4, f5, f6, f7, f8] | fail)
          refine gc_trim 0 (by decide) (by simp only [go_sem]) (by simp only [go_sem]) (hJ _ _ hi (by simp only [go_sem, hA, e3]) ⟨?_, ?_, ?_⟩) <;> try simp only [go_sem, hA, e3, hw]
          exact hall
        · have hj : j < xs.length := by omega
          have hgj : xs[j]? = some xs[j] := List.getElem?_eq_getElem hj
          have g1 : decide ((0 : Int) < ((j + 1 : Nat) : Int)) = true := decide_eq_true (by omega)
          have g2 : wrap64 (((j + 1 : Nat) : Int) - 1) = (j : Int) := by unfold wrap64; omega
          rw [rowG_s hi, Bool.and_eq_true] at hr
          obtain ⟨hr, hlt⟩ := hr
          simp only [trP, Bool.and_eq_true] at hr
          obtain ⟨⟨⟨⟨⟨⟨⟨⟨f0, f1⟩, f2⟩, f3⟩, f4⟩, f5⟩, f6⟩, f7⟩, f8⟩ := hr
          have f5 := not_tt f5
          have hlt2 := trLt_f hlt
          (try simp only [go_sem, hA, e3, hil, hg0, g1, g2, hgj, hlt2, f0, f1, f2, f3, f4, f5, f6, f7, f8]); repeat' (first | (with_reducible first | refine c_split ?_ ?_ | refine w_split ?_ ?_ | refine tw_split ?_ ?_) <;> intro hb <;> try simp only [go_sem, hb, hA, e3, hil, hg0, g1, g2, hgj, hlt2, f0, f1, f2, f3, f4, f5, f6, f7, f8] | (first | with_reducible refine d58_0_LBooksT (by with_unfolding_all rfl) (by kernel_rfl) ?_ | refine call_c (c_l3No _ _ ?_) | refine call_c (c_l1In _ _ _ _ ?_) | refine call_c (c_l1Some _ _ _ ?_) | fail) <;> try simp only [go_sem, hA, e3, hil, hg0, g1, g2, hgj, hlt2, f0, f1, f2, f3, f4, f5, f6, f7, f8] | fail)
          refine gc_trim 0 (by decide) (by simp only [go_sem]) (by simp only [go_sem]) (hJ _ _ hi (by simp only [go_sem, hA, e3]) ⟨?_, ?_, ?_⟩) <;> try simp only [go_sem, hA, e3, hw]
          exact hall
      | false =>
        rw [tradesOk, okL_no hr hi] at hk
        rcases i with _ | j
        · have g0 : decide ((0 : Int) < ((0 : Nat) : Int)) = false := by decide
          rw [rowG_0 hi] at hr
          (try simp only [go_sem, hA, e3, hil, hg0, g0]); repeat' (first | (with_reducible first | refine c_split ?_ ?_ | refine w_split ?_ ?_ | refine tw_split ?_ ?_) <;> intro hb <;> try simp only [go_sem, hb, hA, e3, hil, hg0, g0] | (first | with_reducible refine d58_0_LBooksT (by with_unfolding_all rfl) (by kernel_rfl) ?_ | refine call_c (c_l3No _ _ ?_) | refine call_c (c_l1In _ _ _ _ ?_) | refine call_c (c_l1Some _ _ _ ?_) | fail) <;> try simp only [go_sem, hA, e3, hil, hg0, g0] | with_reducible refine hQ _ _ ?_ <;> simp only [Tryz.f58, go_sem, hA, e3, hil, hg0, g0])
          all_goals first | exact hk | exact (Bool.eq_false_iff.1 hr (by clear hr hJ hA hQ hQO; simp only [trP]; simp_all <;> omega)).elim
        · have hj : j < xs.length := by omega
          have hgj : xs[j]? = some xs[j] := List.getElem?_eq_getElem hj
          have g1 : decide ((0 : Int) < ((j + 1 : Nat) : Int)) = true := decide_eq_true (by omega)
          have g2 : wrap64 (((j + 1 : Nat) : Int) - 1) = (j : Int) := by unfold wrap64; omega
          rw [rowG_s hi] at hr
          (try simp only [go_sem, hA, e3, hil, hg0, g1, g2, hgj]); repeat' (first | (with_reducible first | refine c_split ?_ ?_ | refine w_split ?_ ?_ | refine tw_split ?_ ?_) <;> intro hb <;> try simp only [go_sem, hb, hA, e3, hil, hg0, g1, g2, hgj] | (first | with_reducible refine d58_0_LBooksT (by with_unfolding_all rfl) (by kernel_rfl) ?_ | refine call_c (c_l3No _ _ ?_) | refine call_c (c_l1In _ _ _ _ ?_) | refine call_c (c_l1Some _ _ _ ?_) | fail) <;> try simp only [go_sem, hA, e3, hil, hg0, g1, g2, hgj] | with_reducible refine hQ _ _ ?_ <;> simp only [Tryz.f58, go_sem, hA, e3, hil, hg0, g1, g2, hgj])
          all_goals first | exact hk | exact (Bool.eq_false_iff.1 hr (by clear hr hJ hA hQ hQO; simp only [trP, trLt]; simp_all <;> omega)).elim
end Go.Proofs.YtkndmncgohmjmaaGreatDoor
end
section
namespace Go.Proofs.YtkndmncgohmjmaaGreatDoor
open Go.BL Go.RowKit
set_option linter.unusedVariables false
set_option linter.unusedSimpArgs false
set_option maxRecDepth 100000
attribute [local go_sem] accountC balC lotC tradeC
theorem find_at {α : Type} {p : α → Bool} : ∀ {xs : List α} {i : Nat}, noneTo p xs i → ∀ (hi : i < xs.length), p xs[i] = true → xs.find? p = some xs[i]
  | [], i, _, hi, _ => absurd hi (Nat.not_lt_zero i)
  | x :: r, 0, _, _, hp => by rw [List.find?_cons]; simp at hp; rw [hp]; rfl
  | x :: r, i + 1, h, hi, hp => by
    have h0 : p x = false := h 0 (by simp) (by omega)
    rw [List.find?_cons, h0]
    exact find_at (xs := r) (i := i) (fun j hj hji => h (j + 1) (by simpa using hj) (by omega)) (by simpa using hi) (by simpa using hp)
theorem find_no {α : Type} {p : α → Bool} {xs : List α} (h : noneTo p xs xs.length) : xs.find? p = none := by
  rw [List.find?_eq_none]
  intro x hx
  obtain ⟨i, hi, rfl⟩ := List.mem_iff_getElem.1 hx
  rw [h i hi hi]; decide
def kindOf (xs : List Account) (no : Int) : Int := match xs.find? (fun a => a.no == no) with | some a => a.kind | none => 0
theorem c_accountKind (xs : List Account) (no : Int) (hn : xs.length ≤ 1000000000) (K : AV → AH → Prop) (hk : K (.one (.c (.int .i64 (kindOf xs no)))) []) : ACalls Tryz.prog 41 [(.one (.im (xs.map accountC))), (.one (.c (.int .i64 (no))))] [] K := by
  refine acall_c Tryz.f41.results.toList mixed Tryz.func41 rfl rfl (by kernel_rfl) ?_
  intro Q hQ hQO
  simp only [go_sem]
  refine for_at (xs.length) [1, 7, 8] (fun i f h => f 9 = (.one (.c (.int .i64 (i)))) ∧ h = [] ∧ noneTo (fun a => a.no == no) xs i) (GC.now ?_) ?_
  · simp only [go_sem, nc_0, true_and]
    exact noneTo_0 _ _
  · rintro i f h J hi hA ⟨e9, rfl, hP⟩ hJ
    simp only [go_sem] at hA
    simp only [go_sem, hA, e9]
    refine c_split (fun hb => ?_) (fun hb => ?_)
    rotate_left
    · simp only [go_sem, hb, hA, e9]
      obtain rfl := ge_len hb hi
      (try simp only [go_sem, hA, e9]); repeat' (first | (with_reducible first | refine c_split ?_ ?_ | refine w_split ?_ ?_) <;> intro hb <;> try simp only [go_sem, hb, hA, e9] | with_reducible refine hQ _ _ ?_ <;> simp only [Tryz.f41, go_sem, hA, e9])
      rw [kindOf, find_no hP] at hk
      exact hk
    have hi := lt_len hb
    have hw := wrap_nat i (by omega)
    have hil : (i : Int) < ((xs.length : Nat) : Int) := Int.ofNat_lt.2 hi
    have hg0 : (xs)[i]? = some ((xs)[i]) := List.getElem?_eq_getElem (by omega)
    simp only [go_sem, hb, hA, e9, hg0]
    try simp only [go_sem, hA, e9, hil, hg0]
    (try simp only [go_sem, hA, e9, hil, hg0]); repeat' (first | (with_reducible first | refine c_split ?_ ?_ | refine w_split ?_ ?_) <;> intro hb <;> try simp only [go_sem, hb, hA, e9, hil, hg0] | with_reducible refine hQ _ _ ?_ <;> simp only [Tryz.f41, go_sem, hA, e9, hil, hg0])
    · rw [kindOf, find_at hP hi hb] at hk
      exact hk
    · refine gc_trim 0 (by decide) (by simp only [go_sem]) (by simp only [go_sem]) (hJ _ _ hi (by simp only [go_sem, hA, e9]) ⟨?_, ?_, ?_⟩) <;> try simp only [go_sem, hA, e9, hw]
      exact noneTo_s hP hi hb
theorem c_instrKind (xs : List Account) (no : Int) (hn : xs.length ≤ 1000000000) (K : AV → AH → Prop) (hk : K (.one (.c (.int .i64 (kindOf xs no)))) []) : ACalls Tryz.prog 42 [(.one (.im (xs.map accountC))), (.one (.c (.int .i64 (no))))] [] K := by
  refine acall_c Tryz.f42.results.toList mixed Tryz.func42 rfl rfl (by kernel_rfl) ?_
  intro Q hQ hQO
  simp only [go_sem]
  refine for_at (xs.length) [1, 7, 8] (fun i f h => f 9 = (.one (.c (.int .i64 (i)))) ∧ h = [] ∧ noneTo (fun a => a.no == no) xs i) (GC.now ?_) ?_
  · simp only [go_sem, nc_0, true_and]
    exact noneTo_0 _ _
  · rintro i f h J hi hA ⟨e9, rfl, hP⟩ hJ
    simp only [go_sem] at hA
    simp only [go_sem, hA, e9]
    refine c_split (fun hb => ?_) (fun hb => ?_)
    rotate_left
    · simp only [go_sem, hb, hA, e9]
      obtain rfl := ge_len hb hi
      (try simp only [go_sem, hA, e9]); repeat' (first | (with_reducible first | refine c_split ?_ ?_ | refine w_split ?_ ?_) <;> intro hb <;> try simp only [go_sem, hb, hA, e9] | with_reducible refine hQ _ _ ?_ <;> simp only [Tryz.f42, go_sem, hA, e9])
      rw [kindOf, find_no hP] at hk
      exact hk
    have hi := lt_len hb
    have hw := wrap_nat i (by omega)
    have hil : (i : Int) < ((xs.length : Nat) : Int) := Int.ofNat_lt.2 hi
    have hg0 : (xs)[i]? = some ((xs)[i]) := List.getElem?_eq_getElem (by omega)
    simp only [go_sem, hb, hA, e9, hg0]
    try simp only [go_sem, hA, e9, hil, hg0]
    (try simp only [go_sem, hA, e9, hil, hg0]); repeat' (first | (with_reducible first | refine c_split ?_ ?_ | refine w_split ?_ ?_) <;> intro hb <;> try simp only [go_sem, hb, hA, e9, hil, hg0] | with_reducible refine hQ _ _ ?_ <;> simp only [Tryz.f42, go_sem, hA, e9, hil, hg0])
    · rw [kindOf, find_at hP hi hb] at hk
      exact hk
    · refine gc_trim 0 (by decide) (by simp only [go_sem]) (by simp only [go_sem]) (hJ _ _ hi (by simp only [go_sem, hA, e9]) ⟨?_, ?_, ?_⟩) <;> try simp only [go_sem, hA, e9, hw]
      exact noneTo_s hP hi hb
theorem c_AccountKind (xs : List Account) (no : Int) (hn : xs.length ≤ 1000000000) (hok : accountsOk xs = true) (K : AV → AH → Prop) (hk : K (.one (.c (.int .i64 (kindOf xs no)))) []) : ACalls Tryz.prog 30 [(.one (.im (xs.map accountC))), (.one (.c (.int .i64 (no))))] [] K := by
  refine acall_c Tryz.f30.results.toList mixed Tryz.func30 rfl rfl (by kernel_rfl) ?_
  intro Q hQ hQO
  simp only [go_sem]
  refine while_at (α := Nat) (fun j => xs.length - j) [0, 1] (fun j f h => f 5 = (.one (.c (.int .i64 ((j : Int))))) ∧ h = [] ∧ j ≤ xs.length ∧ noneTo (fun a => a.no == no) xs j) 0 (GC.now ?_) ?_
  · simp only [go_sem, nc_0, true_and]
    exact ⟨Nat.zero_le _, noneTo_0 _ _⟩
  · rintro j f h J hA ⟨e5, rfl, hP⟩ hJ
    simp only [go_sem] at hA
    try dsimp only at hJ
    simp only [go_sem, hA, e5]
    by_cases hi : j < xs.length
    · have hd : decide ((j : Int) < (xs.length : Int)) = true := decide_eq_true (Int.ofNat_lt.2 hi)
      have hil : (j : Int) < (xs.length : Int) := Int.ofNat_lt.2 hi
      have hg : xs[j]? = some xs[j] := List.getElem?_eq_getElem hi
      have hw := wrap_nat j (by omega)
      have hdec : xs.length - (j + 1) < xs.length - j := by omega
      (try simp only [go_sem, hA, e5, hd, hok, hg, hil]); repeat' (first | (with_reducible first | refine c_split ?_ ?_ | refine w_split ?_ ?_) <;> intro hb <;> try simp only [go_sem, hb, hA, e5, hd, hok, hg, hil] | refine call_c (c_spec_AccountsOk xs hn _ ?_) <;> try simp only [go_sem, hA, e5, hd, hok, hg, hil] | with_reducible refine hQ _ _ ?_ <;> simp only [Tryz.f30, go_sem, hA, e5, hd, hok, hg, hil])
      · rw [kindOf, find_at hP.2 hi hb] at hk
        exact hk
      · refine gc_trim 0 (by decide) (by simp only [go_sem]) (by simp only [go_sem, hw]) (hJ (j + 1) _ _ (by exact hdec) (by simp only [go_sem, hA, e5]) ⟨?_, ?_, ?_⟩) <;> try simp only [go_sem, hA, e5, hw]
        exact ⟨hi, noneTo_s hP.2 hi hb⟩
    · have hd : decide ((j : Int) < (xs.length : Int)) = false := decide_eq_false (fun q => hi (Int.ofNat_lt.1 q))
      have hj : j = xs.length := by omega
      subst hj
      (try simp only [go_sem, hA, e5, hd]); repeat' (first | (with_reducible first | refine c_split ?_ ?_ | refine w_split ?_ ?_) <;> intro hb <;> try simp only [go_sem, hb, hA, e5, hd] | with_reducible refine hQ _ _ ?_ <;> simp only [Tryz.f30, go_sem, hA, e5, hd])
      rw [kindOf, find_no hP.2] at hk
      exact hk
theorem c_InstrKind (xs : List Account) (no : Int) (hn : xs.length ≤ 1000000000) (hok : instrsOk xs = true) (K : AV → AH → Prop) (hk : K (.one (.c (.int .i64 (kindOf xs no)))) []) : ACalls Tryz.prog 31 [(.one (.im (xs.map accountC))), (.one (.c (.int .i64 (no))))] [] K := by
  refine acall_c Tryz.f31.results.toList mixed Tryz.func31 rfl rfl (by kernel_rfl) ?_
  intro Q hQ hQO
  simp only [go_sem]
  refine while_at (α := Nat) (fun j => xs.length - j) [0, 1] (fun j f h => f 5 = (.one (.c (.int .i64 ((j : Int))))) ∧ h = [] ∧ j ≤ xs.length ∧ noneTo (fun a => a.no == no) xs j) 0 (GC.now ?_) ?_
  · simp only [go_sem, nc_0, true_and]
    exact ⟨Nat.zero_le _, noneTo_0 _ _⟩
  · rintro j f h J hA ⟨e5, rfl, hP⟩ hJ
    simp only [go_sem] at hA
    try dsimp only at hJ
    simp only [go_sem, hA, e5]
    by_cases hi : j < xs.length
    · have hd : decide ((j : Int) < (xs.length : Int)) = true := decide_eq_true (Int.ofNat_lt.2 hi)
      have hil : (j : Int) < (xs.length : Int) := Int.ofNat_lt.2 hi
      have hg : xs[j]? = some xs[j] := List.getElem?_eq_getElem hi
      have hw := wrap_nat j (by omega)
      have hdec : xs.length - (j + 1) < xs.length - j := by omega
      (try simp only [go_sem, hA, e5, hd, hok, hg, hil]); repeat' (first | (with_reducible first | refine c_split ?_ ?_ | refine w_split ?_ ?_) <;> intro hb <;> try simp only [go_sem, hb, hA, e5, hd, hok, hg, hil] | refine call_c (c_spec_InstrsOk xs hn _ ?_) <;> try simp only [go_sem, hA, e5, hd, hok, hg, hil] | with_reducible refine hQ _ _ ?_ <;> simp only [Tryz.f31, go_sem, hA, e5, hd, hok, hg, hil])
      · rw [kindOf, find_at hP.2 hi hb] at hk
        exact hk
      · refine gc_trim 0 (by decide) (by simp only [go_sem]) (by simp only [go_sem, hw]) (hJ (j + 1) _ _ (by exact hdec) (by simp only [go_sem, hA, e5]) ⟨?_, ?_, ?_⟩) <;> try simp only [go_sem, hA, e5, hw]
        exact ⟨hi, noneTo_s hP.2 hi hb⟩
    · have hd : decide ((j : Int) < (xs.length : Int)) = false := decide_eq_false (fun q => hi (Int.ofNat_lt.1 q))
      have hj : j = xs.length := by omega
      subst hj
      (try simp only [go_sem, hA, e5, hd]); repeat' (first | (with_reducible first | refine c_split ?_ ?_ | refine w_split ?_ ?_) <;> intro hb <;> try simp only [go_sem, hb, hA, e5, hd] | with_reducible refine hQ _ _ ?_ <;> simp only [Tryz.f31, go_sem, hA, e5, hd])
      rw [kindOf, find_no hP.2] at hk
      exact hk
def sumB (xs : List Bal) (n : Int) : Int := (xs.map fun x => if (x.instr == n) = true then x.amount else 0).sum
theorem sumB_s (xs : List Bal) (n : Int) (i : Nat) (hi : i < xs.length) : sumB (xs.take (i + 1)) n = sumB (xs.take i) n + (if (xs[i].instr == n) = true then xs[i].amount else 0) := by
  rw [List.take_succ_eq_append_getElem hi, sumB, sumB, List.map_append, List.sum_append]; simp
theorem sumB_le (n : Int) : ∀ (xs : List Bal), (∀ x ∈ xs, amtOk x.amount = true) → -(1000000000000000 * (xs.length : Int)) ≤ sumB xs n ∧ sumB xs n ≤ 1000000000000000 * (xs.length : Int)
  | [], _ => by simp [sumB]
  | x :: r, h => by
    have ih := sumB_le n r (fun y hy => h y (List.mem_cons_of_mem _ hy))
    have hx : -1000000000000000 ≤ x.amount ∧ x.amount ≤ 1000000000000000 := of_decide_eq_true (h x (List.mem_cons_self ..))
    have e : sumB (x :: r) n = (if (x.instr == n) = true then x.amount else 0) + sumB r n := by simp [sumB]
    rw [e, List.length_cons]
    split <;> omega
theorem balsOk_amt {xs : List Bal} (h : balsOk xs = true) : (∀ x ∈ xs, amtOk x.amount = true) ∧ xs.length ≤ 160 := by
  refine ⟨fun x hx => ?_, by have := okL_len h; omega⟩
  have := okL_p h hx
  simp only [balP, Bool.and_eq_true] at this
  exact this.1.2
theorem sumB_w {xs : List Bal} (h : balsOk xs = true) (n : Int) {i : Nat} (hi : i < xs.length) : wrap64 (sumB (xs.take i) n + xs[i].amount) = sumB (xs.take i) n + xs[i].amount := by
  obtain ⟨h1, h2⟩ := balsOk_amt h
  have h3 := sumB_le n (xs.take i) (fun x hx => h1 x (List.mem_of_mem_take hx))
  have h4 : -1000000000000000 ≤ xs[i].amount ∧ xs[i].amount ≤ 1000000000000000 := of_decide_eq_true (h1 _ (List.getElem_mem hi))
  rw [List.length_take] at h3
  exact wrap_id _ (by omega) (by omega)
theorem c_balsSum (xs : List Bal) (n : Int) (hn : xs.length ≤ 1000000000) (hok : balsOk xs = true) (K : AV → AH → Prop) (hk : K (.one (.c (.int .i64 (sumB xs n)))) []) : ACalls Tryz.prog 93 [(.one (.im (xs.map balC))), (.one (.c (.int .i64 (n))))] [] K := by
  refine acall_c Tryz.f93.results.toList mixed Tryz.func93 rfl rfl (by kernel_rfl) ?_
  intro Q hQ hQO
  simp only [go_sem]
  refine for_at (xs.length) [1, 8, 9] (fun i f h => f 5 = (.one (.c (.int .i64 (sumB (xs.take i) n)))) ∧ f 10 = (.one (.c (.int .i64 (i)))) ∧ h = []) (GC.now ?_) ?_
  · simp only [go_sem, nc_0, true_and]
    rfl
  · rintro i f h J hi hA ⟨e5, e10, rfl⟩ hJ
    simp only [go_sem] at hA
    simp only [go_sem, hA, e5, e10]
    refine c_split (fun hb => ?_) (fun hb => ?_)
    rotate_left
    · simp only [go_sem, hb, hA, e5, e10]
      obtain rfl := ge_len hb hi
      (try simp only [go_sem, hA, e5, e10, List.take_length]); repeat' (first | (with_reducible first | refine c_split ?_ ?_ | refine w_split ?_ ?_) <;> intro hb <;> try simp only [go_sem, hb, hA, e5, e10, List.take_length] | with_reducible refine hQ _ _ ?_ <;> simp only [Tryz.f93, go_sem, hA, e5, e10, List.take_length])
      exact hk
    have hi := lt_len hb
    have hw := wrap_nat i (by omega)
    have hil : (i : Int) < ((xs.length : Nat) : Int) := Int.ofNat_lt.2 hi
    have hg0 : (xs)[i]? = some ((xs)[i]) := List.getElem?_eq_getElem (by omega)
    simp only [go_sem, hb, hA, e5, e10, hg0]
    try simp only [go_sem, hA, e5, e10, hil, hg0]
    have hs := sumB_s xs n i hi
    have hwv := sumB_w hok n hi
    (try simp only [go_sem, hA, e5, e10, hil, hg0]); repeat' (first | (with_reducible first | refine c_split ?_ ?_ | refine w_split ?_ ?_) <;> intro hb <;> try simp only [go_sem, hb, hA, e5, e10, hil, hg0] | fail)
    · rw [if_pos hb] at hs
      (try simp only [go_sem, hA, e5, e10, hil, hg0, hwv]); repeat' (first | (with_reducible first | refine c_split ?_ ?_ | refine w_split ?_ ?_) <;> intro hb <;> try simp only [go_sem, hb, hA, e5, e10, hil, hg0, hwv] | fail)
      refine gc_trim 0 (by decide) (by simp only [go_sem]) (by simp only [go_sem]) (hJ _ _ hi (by simp only [go_sem, hA, e5, e10]) ⟨?_, ?_, ?_⟩) <;> try simp only [go_sem, hA, e5, e10, hw, hs]
    · rw [if_neg (by rw [hb]; decide), Int.add_zero] at hs
      refine gc_trim 0 (by decide) (by simp only [go_sem]) (by simp only [go_sem]) (hJ _ _ hi (by simp only [go_sem, hA, e5, e10]) ⟨?_, ?_, ?_⟩) <;> try simp only [go_sem, hA, e5, e10, hw, hs]
theorem c_l1Told (x : Int) (ok : Bool) (K : AV → AH → Prop) (hk : K (.tup [(.one (.c (.int .i64 (if (ok && amtOk x) = true then x else 0)))), (.one (.c (.bool (ok && amtOk x))))]) []) : ACalls Tryz.prog 100 [(.one (.c (.int .i64 (x)))), (.one (.c (.bool (ok))))] [] K := by
  refine acall_c Tryz.f100.results.toList mixed Tryz.func100 rfl rfl (by kernel_rfl) ?_
  intro Q hQ hQO
  simp only [go_sem]
  (try simp only [go_sem]); repeat' (first | (with_reducible first | refine c_split ?_ ?_ | refine w_split ?_ ?_) <;> intro hb <;> try simp only [go_sem, hb] | refine call_c (c_spec_AmountOk _ _ ?_) <;> try simp only [go_sem] | with_reducible refine hQ _ _ ?_ <;> simp only [Tryz.f100, go_sem])
  · simp at hb; rw [hb] at hk; simpa using hk
  · simp at hb; simp [hb] at hk; exact hk
  · simp at hb; simp [hb] at hk; simp_all
theorem c_BalsSum (xs : List Bal) (n : Int) (hn : xs.length ≤ 1000000000) (hok : balsOk xs = true) (K : AV → AH → Prop) (hk : K (.tup [(.one (.c (.int .i64 (if amtOk (sumB xs n) = true then sumB xs n else 0)))), (.one (.c (.bool (amtOk (sumB xs n)))))]) []) : ACalls Tryz.prog 83 [(.one (.im (xs.map balC))), (.one (.c (.int .i64 (n))))] [] K := by
  refine acall_c Tryz.f83.results.toList mixed Tryz.func83 rfl rfl (by kernel_rfl) ?_
  intro Q hQ hQO
  simp only [go_sem]
  refine while_at (α := Nat) (fun j => xs.length - j) [0, 1] (fun j f h => f 6 = (.one (.c (.int .i64 (sumB (xs.take j) n)))) ∧ f 7 = (.one (.c (.int .i64 ((j : Int))))) ∧ h = [] ∧ j ≤ xs.length) 0 (GC.now ?_) ?_
  · simp only [go_sem, nc_0, true_and]
    exact ⟨rfl, Nat.zero_le _⟩
  · rintro j f h J hA ⟨e6, e7, rfl, hP⟩ hJ
    simp only [go_sem] at hA
    try dsimp only at hJ
    simp only [go_sem, hA, e6, e7]
    by_cases hi : j < xs.length
    · have hd : decide ((j : Int) < (xs.length : Int)) = true := decide_eq_true (Int.ofNat_lt.2 hi)
      have hil : (j : Int) < (xs.length : Int) := Int.ofNat_lt.2 hi
      have hg : xs[j]? = some xs[j] := List.getElem?_eq_getElem hi
      have hw := wrap_nat j (by omega)
      have hdec : xs.length - (j + 1) < xs.length - j := by omega
      have hs := sumB_s xs n j hi
      have hwv := sumB_w hok n hi
      (try simp only [go_sem, hA, e6, e7, hd, hok, hg, hil]); repeat' (first | (with_reducible first | refine c_split ?_ ?_ | refine w_split ?_ ?_) <;> intro hb <;> try simp only [go_sem, hb, hA, e6, e7, hd, hok, hg, hil] | refine call_c (c_spec_BalsOk xs hn _ ?_) <;> try simp only [go_sem, hA, e6, e7, hd, hok, hg, hil] | fail)
      · rw [if_pos hb] at hs
        (try simp only [go_sem, hA, e6, e7, hg, hil, hwv]); repeat' (first | (with_reducible first | refine c_split ?_ ?_ | refine w_split ?_ ?_) <;> intro hb <;> try simp only [go_sem, hb, hA, e6, e7, hg, hil, hwv] | fail)
        refine gc_trim 0 (by decide) (by simp only [go_sem]) (by simp only [go_sem, hw, hs]) (hJ (j + 1) _ _ (by exact hdec) (by simp only [go_sem, hA, e6, e7]) ⟨?_, ?_, ?_, ?_⟩) <;> try simp only [go_sem, hA, e6, e7, hw, hs]
        exact hi
      · rw [if_neg (by rw [hb]; decide), Int.add_zero] at hs
        refine gc_trim 0 (by decide) (by simp only [go_sem]) (by simp only [go_sem, hw, hs]) (hJ (j + 1) _ _ (by exact hdec) (by simp only [go_sem, hA, e6, e7]) ⟨?_, ?_, ?_, ?_⟩) <;> try simp only [go_sem, hA, e6, e7, hw, hs]
        exact hi
    · have hd : decide ((j : Int) < (xs.length : Int)) = false := decide_eq_false (fun q => hi (Int.ofNat_lt.1 q))
      have hj : j = xs.length := by omega
      subst hj
      rw [show amtOk (sumB xs n) = (true && amtOk (sumB xs n)) from (Bool.true_and _).symm] at hk
      (try simp only [go_sem, hA, e6, e7, hd, hok, List.take_length]); repeat' (first | (with_reducible first | refine c_split ?_ ?_ | refine w_split ?_ ?_) <;> intro hb <;> try simp only [go_sem, hb, hA, e6, e7, hd, hok, List.take_length] | (first | refine call_c (c_spec_BalsOk xs hn _ ?_) | refine call_c (c_l1Told (sumB xs n) true _ ?_) | fail) <;> try simp only [go_sem, hA, e6, e7, hd, hok, List.take_length] | with_reducible refine hQ _ _ ?_ <;> simp only [Tryz.f83, go_sem, hA, e6, e7, hd, hok, List.take_length])
      exact hk
end Go.Proofs.YtkndmncgohmjmaaGreatDoor
end
section
namespace Go.Proofs.YtkndmncgohmjmaaGreatDoor
open Go.BL Go.RowKit
set_option linter.unusedVariables false
set_option linter.unusedSimpArgs false
set_option maxRecDepth 100000
theorem findG_cases {α : Type} (p : α → Bool) (xs : List α) : (findG p xs = -1 ∧ xs.filter (fun x => !p x) = xs) ∨ ∃ (i : Nat) (hi : i < xs.length), findG p xs = i ∧ p xs[i] = true ∧ (xs.take (i + 1)).filter (fun x => !p x) = xs.take i := by
  unfold findG
  cases hf : xs.findIdx? p with
  | none =>
    rw [List.findIdx?_eq_none_iff] at hf
    exact .inl ⟨rfl, List.filter_eq_self.2 fun x hx => by simp [hf x hx]⟩
  | some i =>
    rw [List.findIdx?_eq_some_iff_getElem] at hf
    obtain ⟨hi, h1, h2⟩ := hf
    refine .inr ⟨i, hi, rfl, h1, ?_⟩
    rw [List.take_succ_eq_append_getElem hi, List.filter_append, List.filter_eq_self.2]
    · simp [h1]
    · intro x hx
      obtain ⟨j, hj, rfl⟩ := List.mem_iff_getElem.1 hx
      simp only [List.length_take] at hj
      have := h2 j (by omega)
      simpa using this
theorem del_arith {a m j n : Nat} (h : a + 1 + m = j) (hj : j < n) (hn : n ≤ 1000000000) : a < 9223372036854775807 ∧ j < 9223372036854775807 ∧ (a : Int) < (n : Int) ∧ n - (j + 1) < n - j ∧ j + 1 ≤ n ∧ a + 1 + 1 + m = j + 1 ∧ a + 1 + (m + 1) = j + 1 := by omega
theorem set_mid {α : Type} (A : List α) (m : α) (B : List α) (x : α) : (A ++ m :: B).set A.length x = A ++ x :: B := by
  rw [List.set_append_right _ _ (Nat.le_refl _), Nat.sub_self]; rfl
end Go.Proofs.YtkndmncgohmjmaaGreatDoor
end
section
namespace Go.Proofs.YtkndmncgohmjmaaGreatDoor
open Go.BL Go.RowKit
set_option linter.unusedVariables false
set_option linter.unusedSimpArgs false
set_option maxRecDepth 100000
attribute [local go_sem] accountC balC lotC tradeC
theorem okL_mono {α : Type} {p : α → Bool} {lt : α → α → Bool} {m : Int} {xs : List α} (tr : ∀ x y z, lt x y = true → lt y z = true → lt x z = true) (h : okL p lt m xs = true) : ∀ (d i : Nat) (hj : i + d + 1 < xs.length), lt (xs[i]'(by omega)) xs[i + d + 1] = true
  | 0, i, hj => okL_lt h hj
  | d + 1, i, hj => tr _ _ _ (okL_mono tr h d i (by omega)) (okL_lt h (j := i + d + 1) (by omega))
theorem pairLt_iff {a b c d : Int} : pairLt a b c d = true ↔ a < c ∨ a = c ∧ b < d := by simp [pairLt]
theorem balLt_tr (x y z : Bal) (h1 : balLt x y = true) (h2 : balLt y z = true) : balLt x z = true := by
  unfold balLt at *
  rw [pairLt_iff] at *
  omega
def balIs (a n : Int) (x : Bal) : Bool := x.account == a && x.instr == n
def balV (xs : List Bal) (a n : Int) : Int := match xs.find? (balIs a n) with | some x => x.amount | none => 0
theorem balIs_iff {a n : Int} {x : Bal} : balIs a n x = true ↔ x.account = a ∧ x.instr = n := by simp [balIs]
theorem bal_uniq {xs : List Bal} (h : balsOk xs = true) {i j : Nat} (hi : i < xs.length) (hj : j < xs.length) {a n : Int} (h1 : balIs a n xs[i] = true) (h2 : balIs a n xs[j] = true) : i = j := by
  have key : ∀ {i j : Nat} (hi : i < xs.length) (hj : j < xs.length), balIs a n xs[i] = true → balIs a n xs[j] = true → ¬ i < j := by
    intro i j hi hj h1 h2 hij
    obtain ⟨d, rfl⟩ : ∃ d, j = i + d + 1 := ⟨j - i - 1, by omega⟩
    have := okL_mono balLt_tr h d i hj
    rw [balIs_iff] at h1 h2
    unfold balLt at this
    rw [pairLt_iff] at this
    omega
  have k1 := key hi hj h1 h2
  have k2 := key hj hi h2 h1
  omega
theorem balV_at {xs : List Bal} (h : balsOk xs = true) {i : Nat} (hi : i < xs.length) {a n : Int} (h1 : balIs a n xs[i] = true) : balV xs a n = xs[i].amount := by
  unfold balV
  cases hf : xs.find? (balIs a n) with
  | none => exact absurd h1 ((List.find?_eq_none.1 hf) _ (List.getElem_mem hi))
  | some y =>
    obtain ⟨j, hj, rfl⟩ := List.mem_iff_getElem.1 (List.mem_of_find?_eq_some hf)
    have := bal_uniq h hi hj h1 (List.find?_some hf)
    subst this; rfl
theorem balV_no {xs : List Bal} {a n : Int} (h : ∀ x ∈ xs, balIs a n x = false) : balV xs a n = 0 := by
  have : xs.find? (balIs a n) = none := by rw [List.find?_eq_none]; intro x hx; rw [h x hx]; decide
  rw [balV, this]
theorem c_balAt (xs : List Bal) (a n : Int) (hn : xs.length ≤ 1000000000) (hok : balsOk xs = true) (K : AV → AH → Prop) (hk1 : ∀ (k : Nat) (hi : k < xs.length), balIs a n xs[k] = true → K (.tup [(.one (.c (.int .i64 ((k : Int))))), (.one (.c (.bool (true))))]) []) (hk2 : ∀ (k : Nat), (∀ x ∈ xs, balIs a n x = false) → K (.tup [(.one (.c (.int .i64 ((k : Int))))), (.one (.c (.bool (false))))]) []) : ACalls Tryz.prog 106 [(.one (.im (xs.map balC))), (.one (.c (.int .i64 (a)))), (.one (.c (.int .i64 (n))))] [] K := by
  refine acall_c Tryz.f106.results.toList mixed Tryz.func106 rfl rfl (by kernel_rfl) ?_
  intro Q hQ hQO
  simp only [go_sem]
  refine for_at (xs.length) [0, 1, 2, 11, 12] (fun i f h => f 13 = (.one (.c (.int .i64 (i)))) ∧ h = [] ∧ ∀ j (hj : j < xs.length), j < i → byBoth xs[j].account xs[j].instr a n < 0) (GC.now ?_) ?_
  · simp only [go_sem, nc_0, true_and]
    intro j hj q; omega
  · rintro i f h J hi hA ⟨e13, rfl, hP⟩ hJ
    simp only [go_sem] at hA
    simp only [go_sem, hA, e13]
    refine c_split (fun hb => ?_) (fun hb => ?_)
    rotate_left
    · simp only [go_sem, hb, hA, e13]
      obtain rfl := ge_len hb hi
      (try simp only [go_sem, hA, e13]); repeat' (first | (with_reducible first | refine c_split ?_ ?_ | refine w_split ?_ ?_) <;> intro hb <;> try simp only [go_sem, hb, hA, e13] | with_reducible refine hQ _ _ ?_ <;> simp only [Tryz.f106, go_sem, hA, e13])
      refine hk2 _ fun x hx => ?_
      obtain ⟨j, hj, rfl⟩ := List.mem_iff_getElem.1 hx
      have := hP j hj hj
      cases hc : balIs a n xs[j] with
      | false => rfl
      | true =>
        have h2 := byBoth_lt.2.2 (balIs_iff.1 hc)
        omega
    have hi := lt_len hb
    have hw := wrap_nat i (by omega)
    have hil : (i : Int) < ((xs.length : Nat) : Int) := Int.ofNat_lt.2 hi
    have hg0 : (xs)[i]? = some ((xs)[i]) := List.getElem?_eq_getElem (by omega)
    simp only [go_sem, hb, hA, e13, hg0]
    try simp only [go_sem, hA, e13, hil, hg0]
    (try simp only [go_sem, hA, e13, hil, hg0]); repeat' (first | (with_reducible first | refine c_split ?_ ?_ | refine w_split ?_ ?_) <;> intro hb <;> try simp only [go_sem, hb, hA, e13, hil, hg0] | refine call_c (c_byBoth _ _ _ _ _ ?_) <;> try simp only [go_sem, hA, e13, hil, hg0] | with_reducible refine hQ _ _ ?_ <;> simp only [Tryz.f106, go_sem, hA, e13, hil, hg0])
    · have hge := of_decide_eq_true hb
      by_cases h0 : byBoth xs[i].account xs[i].instr a n = 0
      · rw [h0]
        exact hk1 i hi (balIs_iff.2 (byBoth_lt.2.1 h0))
      · have hne : (byBoth xs[i].account xs[i].instr a n == 0) = false := beq_false_of_ne h0
        rw [hne]
        refine hk2 i fun x hx => ?_
        obtain ⟨j, hj, rfl⟩ := List.mem_iff_getElem.1 hx
        cases hc : balIs a n xs[j] with
        | false => rfl
        | true =>
          have h2 := byBoth_lt.2.2 (balIs_iff.1 hc)
          rcases Nat.lt_trichotomy j i with q | q | q
          · have := hP j hj q; omega
          · subst q; omega
          · obtain ⟨d, rfl⟩ : ∃ d, j = i + d + 1 := ⟨j - i - 1, by omega⟩
            have h3 := okL_mono balLt_tr hok d i hj
            have h4 := balIs_iff.1 hc
            unfold balLt at h3
            rw [h4.1, h4.2] at h3
            have := byBoth_lt.1.2 h3
            omega
    · have hlt := of_decide_eq_false hb
      refine gc_trim 0 (by decide) (by simp only [go_sem]) (by simp only [go_sem]) (hJ _ _ hi (by simp only [go_sem, hA, e13]) ⟨?_, ?_, ?_⟩) <;> try simp only [go_sem, hA, e13, hw]
      intro j hj q
      by_cases e : j = i
      · subst e; omega
      · exact hP j hj (by omega)
theorem c_balOf (xs : List Bal) (a n : Int) (hn : xs.length ≤ 1000000000) (hok : balsOk xs = true) (K : AV → AH → Prop) (hk : K (.one (.c (.int .i64 (balV xs a n)))) []) : ACalls Tryz.prog 94 [(.one (.im (xs.map balC))), (.one (.c (.int .i64 (a)))), (.one (.c (.int .i64 (n))))] [] K := by
  refine acall_c Tryz.f94.results.toList mixed Tryz.func94 rfl rfl (by kernel_rfl) ?_
  intro Q hQ hQO
  simp only [go_sem]
  (try simp only [go_sem]); repeat' (first | (with_reducible first | refine c_split ?_ ?_ | refine w_split ?_ ?_) <;> intro hb <;> try simp only [go_sem, hb] | fail)
  refine call_c (c_balAt xs a n hn hok _ (fun k hi h => ?_) (fun k h => ?_))
  · have hg : xs[k]? = some xs[k] := List.getElem?_eq_getElem hi
    have hil : (k : Int) < (xs.length : Int) := Int.ofNat_lt.2 hi
    rw [balV_at hok hi h] at hk
    (try simp only [go_sem, hg, hil]); repeat' (first | (with_reducible first | refine c_split ?_ ?_ | refine w_split ?_ ?_) <;> intro hb <;> try simp only [go_sem, hb, hg, hil] | with_reducible refine hQ _ _ ?_ <;> simp only [Tryz.f94, go_sem, hg, hil])
    exact hk
  · rw [balV_no h] at hk
    (try simp only [go_sem]); repeat' (first | (with_reducible first | refine c_split ?_ ?_ | refine w_split ?_ ?_) <;> intro hb <;> try simp only [go_sem, hb] | with_reducible refine hQ _ _ ?_ <;> simp only [Tryz.f94, go_sem])
    exact hk
theorem c_l4Of (xs : List Bal) (a n : Int) (hn : xs.length ≤ 1000000000) (K : AV → AH → Prop) (hk : K (.one (.c (.int .i64 (balV xs a n)))) []) : ACalls Tryz.prog 85 [(.one (.im (xs.map balC))), (.one (.c (.int .i64 (a)))), (.one (.c (.int .i64 (n))))] [] K := by
  refine acall_c Tryz.f85.results.toList mixed Tryz.func85 rfl rfl (by kernel_rfl) ?_
  intro Q hQ hQO
  simp only [go_sem]
  refine for_at (xs.length) [0, 1, 2] (fun i f h => f 7 = (.one (.c (.int .i64 (i)))) ∧ h = [] ∧ noneTo (balIs a n) xs i) (GC.now ?_) ?_
  · simp only [go_sem, nc_0, true_and]
    exact noneTo_0 _ _
  · rintro i f h J hi hA ⟨e7, rfl, hP⟩ hJ
    simp only [go_sem] at hA
    simp only [go_sem, hA, e7]
    refine c_split (fun hb => ?_) (fun hb => ?_)
    rotate_left
    · simp only [go_sem, hb, hA, e7]
      obtain rfl := ge_len hb hi
      (try simp only [go_sem, hA, e7]); repeat' (first | (with_reducible first | refine c_split ?_ ?_ | refine w_split ?_ ?_) <;> intro hb <;> try simp only [go_sem, hb, hA, e7] | with_reducible refine hQ _ _ ?_ <;> simp only [Tryz.f85, go_sem, hA, e7])
      rw [balV, find_no hP] at hk
      exact hk
    have hi := lt_len hb
    have hw := wrap_nat i (by omega)
    have hil : (i : Int) < ((xs.length : Nat) : Int) := Int.ofNat_lt.2 hi
    have hg0 : (xs)[i]? = some ((xs)[i]) := List.getElem?_eq_getElem (by omega)
    simp only [go_sem, hb, hA, e7, hg0]
    try simp only [go_sem, hA, e7, hil, hg0]
    (try simp only [go_sem, hA, e7, hil, hg0]); repeat' (first | (with_reducible first | refine c_split ?_ ?_ | refine w_split ?_ ?_) <;> intro hb <;> try simp only [go_sem, hb, hA, e7, hil, hg0] | with_reducible refine hQ _ _ ?_ <;> simp only [Tryz.f85, go_sem, hA, e7, hil, hg0])
    · rename_i hb1
      rw [balV, find_at hP hi (show (xs[i].account == a && xs[i].instr == n) = true by rw [hb1, hb]; rfl)] at hk
      exact hk
    · rename_i hb1
      refine gc_trim 0 (by decide) (by simp only [go_sem]) (by simp only [go_sem]) (hJ _ _ hi (by simp only [go_sem, hA, e7]) ⟨?_, ?_, ?_⟩) <;> try simp only [go_sem, hA, e7, hw]
      exact noneTo_s hP hi (show (xs[i].account == a && xs[i].instr == n) = false by rw [hb1, hb]; rfl)
    · refine gc_trim 0 (by decide) (by simp only [go_sem]) (by simp only [go_sem]) (hJ _ _ hi (by simp only [go_sem, hA, e7]) ⟨?_, ?_, ?_⟩) <;> try simp only [go_sem, hA, e7, hw]
      exact noneTo_s hP hi (show (xs[i].account == a && xs[i].instr == n) = false by rw [hb]; rfl)
end Go.Proofs.YtkndmncgohmjmaaGreatDoor
end
section
namespace Go.Proofs.YtkndmncgohmjmaaGreatDoor
open Go.BL Go.RowKit
set_option linter.unusedVariables false
set_option linter.unusedSimpArgs false
set_option maxRecDepth 100000
attribute [local go_sem] accountC balC lotC tradeC
theorem c_CloneLot (fs : List Lot) (hn : fs.length ≤ 1000000000) (K : AV → AH → Prop) (hk : ∀ cap, K (.one (.sl 0 0 0 fs.length)) [.own 0 85 5 cap (fs.map lotC)]) : ACalls Tryz.prog 103 [(.one (.im (fs.map lotC)))] [] K := by
  refine acall_c Tryz.f103.results.toList mixed Tryz.func103 rfl rfl (by kernel_rfl) ?_
  intro Q hQ hQO
  simp only [go_sem]
  by_cases hf : fs = []
  · subst hf
    simp only [go_sem, nq_im0, nqG]
    intro b
    (try simp only [go_sem]); repeat' (first | (with_reducible first | refine c_split ?_ ?_ | refine w_split ?_ ?_) <;> intro hb <;> try simp only [go_sem, hb] | fail)
    · refine hQO [0] _ _ (GC.step (Ghost.nlr 2 (by simp only [go_sem]) 85 5) (GC.now ?_)) <;> simp only [Tryz.f103, go_sem, List.nodup_cons, List.nodup_nil, List.mem_cons, List.not_mem_nil, or_false, not_false_eq_true, List.idxOf?_cons, List.idxOf?_nil, Option.map_none]
      exact hk _
    · refine ap_end rfl rfl (by decide) ?_
      (try simp only [go_sem]); repeat' (first | (with_reducible first | refine c_split ?_ ?_ | refine w_split ?_ ?_) <;> intro hb <;> try simp only [go_sem, hb] | fail)
      refine hQO [0] _ _ (GC.now ?_) <;> simp only [Tryz.f103, go_sem, List.nodup_cons, List.nodup_nil, List.mem_cons, List.not_mem_nil, or_false, not_false_eq_true, List.idxOf?_cons, List.idxOf?_nil, Option.map_none]
      exact hk _
  · have hne : fs.map lotC ≠ [] := by simpa using hf
    (try simp only [go_sem, nq_im _ hne, nqG]); repeat' (first | (with_reducible first | refine c_split ?_ ?_ | refine w_split ?_ ?_) <;> intro hb <;> try simp only [go_sem, hb, nq_im _ hne, nqG] | fail)
    refine ap_end rfl rfl (by simp; omega) ?_
    (try simp only [go_sem, Nat.zero_add]); repeat' (first | (with_reducible first | refine c_split ?_ ?_ | refine w_split ?_ ?_) <;> intro hb <;> try simp only [go_sem, hb, Nat.zero_add] | fail)
    refine hQO [0] _ _ (GC.now ?_) <;> simp only [Tryz.f103, go_sem, List.nodup_cons, List.nodup_nil, List.mem_cons, List.not_mem_nil, or_false, not_false_eq_true, List.idxOf?_cons, List.idxOf?_nil, Option.map_none]
    exact hk _
theorem c_IndexFuncLot (fs : List Lot) (g : Nat) (caps : List Nat) (p : Lot → Bool) (h0 : AH) (K : AV → AH → Prop) (hn : fs.length ≤ 1000000000)
    (hp : ∀ i (hi : i < fs.length) (K' : AV → AH → Prop), K' (.one (.c (.bool (p fs[i])))) h0 → callA Tryz.prog g ([.agg (lotC fs[i])] ++ caps.map fun l => .one (.pt l 0 0 0)) h0 K')
    (hk : K (.one (.c (.int .i64 (findG p fs)))) h0) : ACalls Tryz.prog 101 [(.one (.im (fs.map lotC))), .one (.clo g caps)] h0 K := by
  refine acall_m Tryz.f101.results.toList mixed Tryz.func101 rfl rfl (by kernel_rfl) ?_
  intro hwf Q hQ
  simp only [go_sem, ca_clos]
  refine for_at (fs.length) [0, 1, 7] (fun i f h => f 8 = (.one (.c (.int .i64 (i)))) ∧ f 7 = (.one (.c (.int .i64 (fs.length)))) ∧ h = h0 ∧ noneTo p fs i) (GC.now ?_) ?_
  · simp only [go_sem, nc_0, true_and, ca_clos]
    exact noneTo_0 p fs
  · rintro i f h J hi hA ⟨e8, e7, rfl, hP⟩ hJ
    simp only [go_sem, ca_clos] at hA
    simp only [go_sem, hA, e8, e7, ca_clos]
    refine c_split (fun hb => ?_) (fun hb => ?_)
    rotate_left
    · simp only [go_sem, hb, hA, e8, e7, ca_clos]
      obtain rfl := ge_len hb hi
      refine hQ (h) _ _ ?_; refine GC.now (ret_m (by simp only [go_sem, Tryz.f101, hA, e8, e7, ca_clos]; exact _root_.id rfl) (by simp only [go_sem]) (by simp) (by first | exact hwf | exact wf_set hwf (by simp only [go_sem, hA, e8, e7, ca_clos]) | exact wf_set2 hwf (by simp only [go_sem, hA, e8, e7, ca_clos]) (by simp only [go_sem, hA, e8, e7, ca_clos]) | (simp only [go_sem]; done)) (by first | exact ⟨_, _root_.id rfl⟩ | exact ⟨[], (List.append_nil _).symm⟩) ?_) <;> simp only [go_sem, hA, e8, e7, ca_clos]
      rw [findG_no hP] at hk
      exact hk
    have hi := lt_len hb
    have hw := wrap_nat i (by omega)
    have hil : (i : Int) < ((fs.length : Nat) : Int) := Int.ofNat_lt.2 hi
    have hg0 : (fs)[i]? = some ((fs)[i]) := List.getElem?_eq_getElem (by omega)
    simp only [go_sem, hb, hA, e8, e7, ca_clos, hg0]
    try simp only [go_sem, hA, e8, e7, ca_clos, hil, hg0]
    refine hp i hi _ ?_
    simp only [go_sem, hA, e8, e7, ca_clos, hil, hg0]
    (try simp only [go_sem, hA, e8, e7, ca_clos, hil, hg0]); repeat' (first | (with_reducible first | refine c_split ?_ ?_ | refine w_split ?_ ?_) <;> intro hb <;> try simp only [go_sem, hb, hA, e8, e7, ca_clos, hil, hg0] | fail)
    · refine hQ (h) _ _ ?_; refine GC.now (ret_m (by simp only [go_sem, Tryz.f101, hA, e8, e7, ca_clos, hil, hg0]; exact _root_.id rfl) (by simp only [go_sem]) (by simp) (by first | exact hwf | exact wf_set hwf (by simp only [go_sem, hA, e8, e7, ca_clos, hil, hg0]) | exact wf_set2 hwf (by simp only [go_sem, hA, e8, e7, ca_clos, hil, hg0]) (by simp only [go_sem, hA, e8, e7, ca_clos, hil, hg0]) | (simp only [go_sem]; done)) (by first | exact ⟨_, _root_.id rfl⟩ | exact ⟨[], (List.append_nil _).symm⟩) ?_) <;> simp only [go_sem, hA, e8, e7, ca_clos, hil, hg0]
      rw [findG_of hP hi hb] at hk
      exact hk
    · refine GC.now (hJ _ _ hi (by simp only [go_sem, hA, e8, e7, ca_clos]) ⟨?_, ?_, ?_, ?_⟩) <;> try simp only [go_sem, hA, e8, e7, ca_clos, hw]
      exact noneTo_s hP hi hb
def CloBLot (g : Nat) (caps : List Nat) (h0 : AH) (p : Lot → Bool) : Prop := ∀ (h1 : AH) (x : Lot) (K' : AV → AH → Prop), (∀ c ∈ caps, h1[c]? = h0[c]?) → K' (.one (.c (.bool (p x)))) h1 → callA Tryz.prog g ([.agg (lotC x)] ++ caps.map fun l => .one (.pt l 0 0 0)) h1 K'
theorem c_IndexFuncLot_sl (xs : List Lot) (l g : Nat) (cap : Option Nat) (gf : Nat) (caps : List Nat) (p : Lot → Bool) (h0 : AH) (hl : h0[l]? = some (.own g 85 5 cap (xs.map lotC))) (hn : xs.length ≤ 1000000000) (hp : CloBLot gf caps h0 p)
    (K : AV → AH → Prop) (hk : K (.one (.c (.int .i64 (findG p xs)))) h0) : ACalls Tryz.prog 101 [.one (.sl l g 0 xs.length), .one (.clo gf caps)] h0 K := by
  refine acall_m Tryz.f101.results.toList mixed Tryz.func101 rfl rfl (by kernel_rfl) ?_
  intro hwf Q hQ
  simp only [go_sem, hl, ca_clos]
  refine for_at (xs.length) [0, 1, 7] (fun i f h => f 8 = (.one (.c (.int .i64 (i)))) ∧ f 7 = (.one (.c (.int .i64 (xs.length)))) ∧ h = h0 ∧ noneTo p xs i) (GC.now ?_) ?_
  · simp only [go_sem, nc_0, true_and, hl, ca_clos]
    exact noneTo_0 p xs
  · rintro i f h J hi hA ⟨e8, e7, rfl, hP⟩ hJ
    simp only [go_sem, hl, ca_clos] at hA
    simp only [go_sem, hA, e8, e7, hl, ca_clos]
    refine c_split (fun hb => ?_) (fun hb => ?_)
    rotate_left
    · simp only [go_sem, hb, hA, e8, e7, hl, ca_clos]
      obtain rfl := ge_len hb hi
      refine hQ (h) _ _ ?_; refine GC.now (ret_m (by simp only [go_sem, Tryz.f101, hA, e8, e7, hl, ca_clos]; exact _root_.id rfl) (by simp only [go_sem]) (by simp) (by first | exact hwf | exact wf_set hwf (by simp only [go_sem, hA, e8, e7, hl, ca_clos]) | exact wf_set2 hwf (by simp only [go_sem, hA, e8, e7, hl, ca_clos]) (by simp only [go_sem, hA, e8, e7, hl, ca_clos]) | (simp only [go_sem]; done)) (by first | exact ⟨_, _root_.id rfl⟩ | exact ⟨[], (List.append_nil _).symm⟩) ?_) <;> simp only [go_sem, hA, e8, e7, hl, ca_clos]
      rw [findG_no hP] at hk
      exact hk
    have hi := lt_len hb
    have hw := wrap_nat i (by omega)
    have hil : (i : Int) < ((xs.length : Nat) : Int) := Int.ofNat_lt.2 hi
    have hg0 : (xs)[i]? = some ((xs)[i]) := List.getElem?_eq_getElem (by omega)
    simp only [go_sem, hb, hA, e8, e7, hl, ca_clos, hg0]
    try simp only [go_sem, hA, e8, e7, hl, ca_clos, hil, hg0]
    refine hp _ _ _ (fun _ _ => rfl) ?_
    simp only [go_sem, hA, e8, e7, hl, ca_clos, hil, hg0]
    (try simp only [go_sem, hA, e8, e7, hl, ca_clos, hil, hg0]); repeat' (first | (with_reducible first | refine c_split ?_ ?_ | refine w_split ?_ ?_) <;> intro hb <;> try simp only [go_sem, hb, hA, e8, e7, hl, ca_clos, hil, hg0] | fail)
    · refine hQ (h) _ _ ?_; refine GC.now (ret_m (by simp only [go_sem, Tryz.f101, hA, e8, e7, hl, ca_clos, hil, hg0]; exact _root_.id rfl) (by simp only [go_sem]) (by simp) (by first | exact hwf | exact wf_set hwf (by simp only [go_sem, hA, e8, e7, hl, ca_clos, hil, hg0]) | exact wf_set2 hwf (by simp only [go_sem, hA, e8, e7, hl, ca_clos, hil, hg0]) (by simp only [go_sem, hA, e8, e7, hl, ca_clos, hil, hg0]) | (simp only [go_sem]; done)) (by first | exact ⟨_, _root_.id rfl⟩ | exact ⟨[], (List.append_nil _).symm⟩) ?_) <;> simp only [go_sem, hA, e8, e7, hl, ca_clos, hil, hg0]
      rw [findG_of hP hi hb] at hk
      exact hk
    · refine GC.now (hJ _ _ hi (by simp only [go_sem, hA, e8, e7, hl, ca_clos]) ⟨?_, ?_, ?_, ?_⟩) <;> try simp only [go_sem, hA, e8, e7, hl, ca_clos, hw]
      exact noneTo_s hP hi hb
theorem c_DeleteFuncLot (xs : List Lot) (l g : Nat) (cap : Option Nat) (gf : Nat) (caps : List Nat) (p : Lot → Bool) (h0 : AH) (hl : h0[l]? = some (.own g 85 5 cap (xs.map lotC))) (hn : xs.length ≤ 1000000000) (hp : CloBLot gf caps h0 p) (hcl : l ∉ caps) (hct : caps.all (fun c => decide (c < h0.length)) = true)
    (K : AV → AH → Prop) (hk : ∀ rest : List Lot, K (.one (.sl l g 0 (xs.filter fun x => !p x).length)) (h0.set l (.own g 85 5 cap ((xs.filter (fun x => !p x) ++ rest).map lotC)))) : ACalls Tryz.prog 102 [.one (.sl l g 0 xs.length), .one (.clo gf caps)] h0 K := by
  have hlt := (List.getElem?_eq_some_iff.1 hl).1
  have hall : ∀ o, (h0.set l o)[l]? = some o := set_at hl
  refine acall_m Tryz.f102.results.toList mixed Tryz.func102 rfl rfl (by kernel_rfl) ?_
  intro hwf Q hQ
  simp only [go_sem, hl]
  refine call_h (c_IndexFuncLot_sl xs l g cap gf caps p h0 hl hn hp _ ?_)
  simp only [go_sem]
  rcases findG_cases p xs with ⟨hf, hx⟩ | ⟨i0, hi0, hf, hx, hx2⟩
  · (try simp only [go_sem, hf, BEq.rfl]); repeat' (first | (with_reducible first | refine c_split ?_ ?_ | refine w_split ?_ ?_) <;> intro hb <;> try simp only [go_sem, hb, hf, BEq.rfl] | fail)
    refine hQ (h0) _ _ ?_; refine GC.now (ret_m (by simp only [go_sem, Tryz.f102, hlt]; exact _root_.id rfl) (by simp only [go_sem]) (by simp) (by first | exact hwf | exact wf_set hwf (by simp only [go_sem, hlt]) | exact wf_set2 hwf (by simp only [go_sem, hlt]) (by simp only [go_sem, hlt]) | (simp only [go_sem]; done)) (by first | exact ⟨_, _root_.id rfl⟩ | exact ⟨[], (List.append_nil _).symm⟩) ?_) <;> simp only [go_sem, hlt]
    have := hk []
    rw [hx, List.append_nil, set_same hl] at this
    exact this
  have h1 : ((i0 : Int) == -1) = false := by simp
  have hw := wrap_nat i0 (by omega)
  have hmin : (xs.take i0).length = i0 := by simp; omega
  have hsp : xs.take i0 ++ xs[i0] :: xs.drop (i0 + 1) = xs := by rw [← List.drop_eq_getElem_cons hi0, List.take_append_drop]
  (try simp only [go_sem, hf, h1, hw]); repeat' (first | (with_reducible first | refine c_split ?_ ?_ | refine w_split ?_ ?_) <;> intro hb <;> try simp only [go_sem, hb, hf, h1, hw] | fail)
  refine while_at (α := Nat × Lot × List Lot) (fun ⟨j, m, mid⟩ => xs.length - j) [0, 1] (fun ⟨j, m, mid⟩ f h => f 5 = (.one (.c (.int .i64 ((((xs.take j).filter fun x => !p x).length : Nat))))) ∧ f 6 = (.one (.c (.int .i64 (j)))) ∧ h = h0.set l (.own g 85 5 cap (((xs.take j).filter (fun x => !p x) ++ m :: (mid ++ xs.drop j)).map lotC)) ∧ j ≤ xs.length ∧ ((xs.take j).filter fun x => !p x).length + 1 + mid.length = j) (i0 + 1, xs[i0], []) (GC.now ?_) ?_
  · simp only [go_sem, nc_0, true_and, hall, hlt, hct, tr_clo, ca_clos]
    rw [hx2]; simp only [hmin, hsp, List.nil_append, set_same hl, true_and]; exact ⟨by omega, by simp⟩
  · rintro ⟨j, m, mid⟩ f h J hA ⟨e5, e6, rfl, hP⟩ hJ
    simp only [go_sem, hall, hlt, hct, tr_clo, ca_clos] at hA
    try dsimp only at hJ
    simp only [go_sem, hA, e5, e6, hall, hlt, hct, tr_clo, ca_clos]
    obtain ⟨hj, hjm⟩ := hP
    generalize hAf : (xs.take j).filter (fun x => !p x) = A at *
    refine c_split (fun hb => ?_) (fun hb => ?_)
    · have hi := lt_len hb
      obtain ⟨ar1, ar2, hAi, ar4, ar5, ar6, ar7⟩ := del_arith hjm hi hn
      have hw := wrap_nat j ar2
      have hil : (j : Int) < (xs.length : Int) := Int.ofNat_lt.2 hi
      have hgj : (A ++ m :: (mid ++ xs.drop j))[j]? = some xs[j] := by
        rw [show A ++ m :: (mid ++ xs.drop j) = (A ++ m :: mid) ++ xs.drop j by simp, List.getElem?_append_right (by simp; omega), List.drop_eq_getElem_cons hi]
        rw [show j - (A ++ m :: mid).length = 0 by simp; omega]; rfl
      have hcap : ∀ o a, ∀ c ∈ caps, (h0.set l o ++ a)[c]? = h0[c]? := fun o a c hc => by
        have h1 : c < h0.length := by simpa using List.all_eq_true.1 hct c hc
        rw [List.getElem?_append_left (by simpa using h1), List.getElem?_set_ne (by rintro rfl; exact hcl hc)]
      have htk : (xs.take (j + 1)).filter (fun x => !p x) = A ++ (if p xs[j] = true then [] else [xs[j]]) := by
        rw [List.take_succ_eq_append_getElem hi, List.filter_append, hAf]
        cases hpj : p xs[j] <;> simp [hpj]
      have hmid : mid ++ xs.drop j = (mid ++ [xs[j]]) ++ xs.drop (j + 1) := by rw [List.drop_eq_getElem_cons hi]; simp
      have hnew : ∀ (o : AO) (a : AO), (h0.set l o ++ [a])[h0.length]? = some a := fun o a => by rw [List.getElem?_append_right (by simp)]; simp
      have hset : ∀ (o : AO) (a b : AO), (h0.set l o ++ [a]).set h0.length b = h0.set l o ++ [b] := fun o a b => by rw [List.set_append_right _ _ (by simp)]; simp
      have hold : ∀ (o : AO) (a : List AO), (h0.set l o ++ a)[l]? = some o := fun o a => h_old a (hall o)
      have hset2 : ∀ (o b : AO) (a : List AO), (h0.set l o ++ a).set l b = h0.set l b ++ a := fun o b a => by rw [List.set_append_left _ _ (by simpa using hlt)]; simp
      have hgA : (A ++ m :: (mid ++ xs.drop j))[A.length]? = some m := by rw [List.getElem?_append_right (Nat.le_refl _), Nat.sub_self]; rfl
      simp only [go_sem, hb, hA, e5, e6, hall, hlt, hct, tr_clo, ca_clos, hgj]
      simp only [go_sem, hA, e5, e6, hall, hlt, hct, tr_clo, ca_clos, hil, hgj, hnew, hset]
      refine hp _ _ _ (hcap _ _) ?_
      (try simp only [go_sem, hA, e5, e6, hall, hlt, hct, tr_clo, ca_clos, hgj, hAi, hgA, set_mid, hnew, hset, hold, hset2]); repeat' (first | (with_reducible first | refine c_split ?_ ?_ | refine w_split ?_ ?_) <;> intro hb <;> try simp only [go_sem, hb, hA, e5, e6, hall, hlt, hct, tr_clo, ca_clos, hgj, hAi, hgA, set_mid, hnew, hset, hold, hset2] | fail)
      · have hpj : p xs[j] = false := by simpa using hb
        have htk2 : (xs.take (j + 1)).filter (fun x => !p x) = A ++ [xs[j]] := by rw [htk, hpj]; rfl
        obtain ⟨m', mid', e⟩ : ∃ m' mid', mid ++ [xs[j]] = m' :: mid' := by cases mid with
          | nil => exact ⟨_, _, rfl⟩
          | cons a r => exact ⟨_, _, rfl⟩
        have e2 : A ++ xs[j] :: (mid ++ xs.drop j) = (A ++ [xs[j]]) ++ m' :: (mid' ++ xs.drop (j + 1)) := by rw [hmid, e]; simp
        have hl2 : mid'.length = mid.length := by have := congrArg List.length e; simp only [List.length_append, List.length_cons, List.length_nil, Nat.zero_add] at this; exact (Nat.succ.inj this).symm
        have hwA := wrap_nat A.length ar1
        have hA1 : (A ++ [xs[j]]).length = A.length + 1 := by simp
        refine gc_trim h0.length (Nat.le_refl _) (by simp) (by rw [take_app _ _ (by simp)]; first | exact hwf | exact wf_set hwf (by simp only [go_sem, htk2, hwA, hA1, e2])) (hJ (j + 1, m', mid') _ _ (by exact ar4) (by simp only [go_sem, hA, e5, e6, hall, hlt, hct, tr_clo, ca_clos, htk2, hwA, hA1, e2]) ⟨?_, ?_, ?_, ?_⟩) <;> try simp only [go_sem, take_app, hA, e5, e6, hall, hlt, hct, tr_clo, ca_clos, hw, htk2, hwA, hA1, e2]
        exact ⟨ar5, by rw [hl2]; exact ar6⟩
      · have hpj : p xs[j] = true := by simpa using hb
        have htk2 : (xs.take (j + 1)).filter (fun x => !p x) = A := by rw [htk, hpj]; simp
        have e2 : A ++ m :: (mid ++ xs.drop j) = A ++ m :: (mid ++ [xs[j]] ++ xs.drop (j + 1)) := by rw [hmid]
        refine gc_trim h0.length (Nat.le_refl _) (by simp) (by rw [take_app _ _ (by simp)]; first | exact hwf | exact wf_set hwf (by simp only [go_sem, htk2, e2])) (hJ (j + 1, m, mid ++ [xs[j]]) _ _ (by exact ar4) (by simp only [go_sem, hA, e5, e6, hall, hlt, hct, tr_clo, ca_clos, htk2, e2]) ⟨?_, ?_, ?_, ?_⟩) <;> try simp only [go_sem, take_app, hA, e5, e6, hall, hlt, hct, tr_clo, ca_clos, hw, htk2, e2]
        exact ⟨ar5, ar7⟩
    · simp only [go_sem, hb, hA, e5, e6, hall, hlt, hct, tr_clo, ca_clos]
      obtain rfl := ge_len hb hj
      rw [List.take_length] at hAf
      subst hAf
      have hz : ((xs.filter fun x => !p x) ++ m :: (mid ++ xs.drop xs.length)).length = xs.length := by rw [List.drop_length]; simp; omega
      have hA0 : (xs.filter fun x => !p x).length < xs.length := by omega
      have hA1 : (xs.filter fun x => !p x).length ≤ xs.length := Nat.le_of_lt hA0
      have hd0 : xs.drop xs.length = [] := List.drop_length
      rw [hd0] at hz ⊢
      rw [List.append_nil] at hz ⊢
      have hle : (List.filter (fun x => !p x) xs ++ m :: mid).length = xs.length := hz
      simp only [go_sem, hall, hA0, hA1, hd0, hz]
      refine cr_sl (by decide) (hall _) (by simp only [List.length_map, hle]; omega) ?_
      rw [cset_end _ _ _ (by simp only [List.length_map, hle, List.length_replicate]; omega)]
      have htk3 : (List.map lotC (xs.filter (fun x => !p x) ++ m :: mid)).take (xs.filter fun x => !p x).length = (xs.filter fun x => !p x).map lotC := by rw [← List.map_take, List.take_left]
      have hrep := lotC_rep (xs.length - (xs.filter fun x => !p x).length) 0 0 0 0 0
      rw [htk3, hrep, ← List.map_append]
      have hl3 : (xs.filter (fun x => !p x) ++ List.replicate (xs.length - (xs.filter fun x => !p x).length) (⟨0, 0, 0, 0, 0⟩ : Lot)).length = xs.length := by simp; omega
      (try simp only [go_sem, hA, e5, e6, hall, hlt, hct, tr_clo, ca_clos, hA1, hl3, Nat.zero_add]); repeat' (first | (with_reducible first | refine c_split ?_ ?_ | refine w_split ?_ ?_) <;> intro hb <;> try simp only [go_sem, hb, hA, e5, e6, hall, hlt, hct, tr_clo, ca_clos, hA1, hl3, Nat.zero_add] | fail)
      refine hQ (h0.set l (.own g 85 5 cap ((xs.filter (fun x => !p x) ++ List.replicate (xs.length - (xs.filter fun x => !p x).length) (⟨0, 0, 0, 0, 0⟩ : Lot)).map lotC))) _ _ ?_; refine GC.now (ret_m (by simp only [go_sem, Tryz.f102, hlt]; exact _root_.id rfl) (by simp only [go_sem]) (by simp) (by first | exact hwf | exact wf_set hwf (by simp only [go_sem, hlt]) | exact wf_set2 hwf (by simp only [go_sem, hlt]) (by simp only [go_sem, hlt]) | (simp only [go_sem]; done)) (by first | exact ⟨_, _root_.id rfl⟩ | exact ⟨[], (List.append_nil _).symm⟩) ?_) <;> simp only [go_sem, hlt]
      exact hk _
def lotIs (a n : Int) (x : Lot) : Bool := x.account == a && x.instr == n
def ownL (xs : List Lot) (a n : Int) : List Lot := xs.filter (lotIs a n)
def sumQ (xs : List Lot) : Int := (xs.map (·.qty)).sum
def sumC (xs : List Lot) : Int := (xs.map (·.cost)).sum
def Fine (xs : List Lot) : Prop := (∀ x ∈ xs, (0 ≤ x.qty ∧ x.qty ≤ 1000000000000000) ∧ 0 ≤ x.cost ∧ x.cost ≤ 1000000000000000) ∧ xs.length ≤ 1000
theorem Fine.own {xs : List Lot} (h : Fine xs) (a n : Int) : Fine (ownL xs a n) := ⟨fun x hx => h.1 x (List.mem_filter.1 hx).1, Nat.le_trans (List.length_filter_le _ _) h.2⟩
theorem sums_le : ∀ (xs : List Lot), (∀ x ∈ xs, (0 ≤ x.qty ∧ x.qty ≤ 1000000000000000) ∧ 0 ≤ x.cost ∧ x.cost ≤ 1000000000000000) → (0 ≤ sumQ xs ∧ sumQ xs ≤ 1000000000000000 * (xs.length : Int)) ∧ 0 ≤ sumC xs ∧ sumC xs ≤ 1000000000000000 * (xs.length : Int)
  | [], _ => by simp [sumQ, sumC]
  | x :: r, h => by
    have ih := sums_le r (fun y hy => h y (List.mem_cons_of_mem _ hy))
    have hx := h x (List.mem_cons_self ..)
    have e1 : sumQ (x :: r) = x.qty + sumQ r := by simp [sumQ]
    have e2 : sumC (x :: r) = x.cost + sumC r := by simp [sumC]
    rw [e1, e2, List.length_cons]
    omega
theorem sumQ_s (xs : List Lot) (i : Nat) (hi : i < xs.length) : sumQ (xs.take (i + 1)) = sumQ (xs.take i) + xs[i].qty ∧ sumC (xs.take (i + 1)) = sumC (xs.take i) + xs[i].cost := by
  constructor
  · rw [List.take_succ_eq_append_getElem hi, sumQ, sumQ, List.map_append, List.sum_append]; simp
  · rw [List.take_succ_eq_append_getElem hi, sumC, sumC, List.map_append, List.sum_append]; simp
theorem sums_w {xs : List Lot} (h : Fine xs) {i : Nat} (hi : i < xs.length) : wrap64 (sumQ (xs.take i) + xs[i].qty) = sumQ (xs.take i) + xs[i].qty ∧ wrap64 (sumC (xs.take i) + xs[i].cost) = sumC (xs.take i) + xs[i].cost := by
  have h1 := sums_le (xs.take i) (fun x hx => h.1 x (List.mem_of_mem_take hx))
  have h2 := h.1 _ (List.getElem_mem hi)
  have h3 := h.2
  rw [List.length_take] at h1
  exact ⟨wrap_id _ (by omega) (by omega), wrap_id _ (by omega) (by omega)⟩
theorem c_isLot (x : Lot) (a n : Int) (K : AV → AH → Prop) (hk : K (.one (.c (.bool (lotIs a n x)))) []) : ACalls Tryz.prog 105 [.agg (lotC x), (.one (.c (.int .i64 (a)))), (.one (.c (.int .i64 (n))))] [] K := by
  refine acall_c Tryz.f105.results.toList mixed Tryz.func105 rfl rfl (by kernel_rfl) ?_
  intro Q hQ hQO
  simp only [go_sem]
  (try simp only [go_sem]); repeat' (first | (with_reducible first | refine c_split ?_ ?_ | refine w_split ?_ ?_) <;> intro hb <;> try simp only [go_sem, hb] | with_reducible refine hQ _ _ ?_ <;> simp only [Tryz.f105, go_sem])
  · exact kB hk (by rw [lotIs, hb, Bool.true_and])
  · exact kB hk (by rw [lotIs, hb, Bool.false_and])
theorem c_lotsOf1 (x : Lot) (a n : Int) (h0 : AH) (c1 c2 : Nat) (hc1 : h0[c1]? = some (.own 0 3 1 (some 1) [[.c (.int .i64 (a))]])) (hc2 : h0[c2]? = some (.own 0 3 1 (some 1) [[.c (.int .i64 (n))]])) (K : AV → AH → Prop) (hk : K (.one (.c (.bool (!lotIs a n x)))) h0) : ACalls Tryz.prog 104 [.agg (lotC x), .one (.pt c1 0 0 0), .one (.pt c2 0 0 0)] h0 K := by
  refine acall_m Tryz.f104.results.toList mixed Tryz.func104 rfl rfl (by kernel_rfl) ?_
  intro hwf Q hQ
  simp only [go_sem, fun a => h_old a hc1, fun a => h_old a hc2]
  (try simp only [go_sem, fun a => h_old a hc1, fun a => h_old a hc2]); repeat' (first | (with_reducible first | refine c_split ?_ ?_ | refine w_split ?_ ?_) <;> intro hb <;> try simp only [go_sem, hb, fun a => h_old a hc1, fun a => h_old a hc2] | refine call_c (c_isLot x a n _ ?_) <;> try simp only [go_sem, fun a => h_old a hc1, fun a => h_old a hc2] | fail)
  refine hQ (h0) _ _ ?_; refine GC.now (ret_m (by simp only [go_sem, Tryz.f104]; exact _root_.id rfl) (by simp only [go_sem]) (by simp) (by first | exact hwf | exact wf_set hwf (by simp only [go_sem]) | exact wf_set2 hwf (by simp only [go_sem]) (by simp only [go_sem]) | (simp only [go_sem]; done)) (by first | exact ⟨_, _root_.id rfl⟩ | exact ⟨[], (List.append_nil _).symm⟩) ?_) <;> simp only [go_sem]
  exact hk
theorem c_lotsOf (xs : List Lot) (a n : Int) (hn : xs.length ≤ 1000000000) (K : AV → AH → Prop) (hk : K (.one (.im ((ownL xs a n).map lotC))) []) : ACalls Tryz.prog 92 [(.one (.im (xs.map lotC))), (.one (.c (.int .i64 (a)))), (.one (.c (.int .i64 (n))))] [] K := by
  refine acall_im ?_
  refine acall_c Tryz.f92.results.toList mixed Tryz.func92 rfl rfl (by kernel_rfl) ?_
  intro Q hQ hQO
  simp only [go_sem]
  (try simp only [go_sem]); repeat' (first | (with_reducible first | refine c_split ?_ ?_ | refine w_split ?_ ?_) <;> intro hb <;> try simp only [go_sem, hb] | refine call_c (c_CloneLot xs hn _ (fun cap => ?_)) <;> try simp only [go_sem] | fail)
  refine call_h (c_DeleteFuncLot xs 2 0 cap _ _ (fun x => !lotIs a n x) _ rfl hn ?_ (by decide) rfl _ (fun rest => ?_))
  · intro h1 x K' hcap hk'
    refine .inr (.inl ⟨rfl, c_lotsOf1 x a n h1 0 1 ?_ ?_ _ hk'⟩)
    · exact (hcap 0 (by simp)).trans rfl
    · exact (hcap 1 (by simp)).trans rfl
  · have hff : (xs.filter fun x => !!lotIs a n x) = ownL xs a n := by unfold ownL; congr 1; funext x; simp
    simp only [hff]
    simp only [go_sem]
    (try simp only [go_sem]); repeat' (first | (with_reducible first | refine c_split ?_ ?_ | refine w_split ?_ ?_) <;> intro hb <;> try simp only [go_sem, hb] | fail)
    have htk : (List.map lotC (ownL xs a n ++ rest)).take (ownL xs a n).length = (ownL xs a n).map lotC := by rw [← List.map_take, List.take_left]
    refine hQO [2] _ _ (GC.step (Ghost.cut (l := 2) rfl (ownL xs a n).length) (GC.now ?_)) <;> simp only [Tryz.f92, go_sem, List.nodup_cons, List.nodup_nil, List.mem_cons, List.not_mem_nil, or_false, not_false_eq_true, List.idxOf?_cons, List.idxOf?_nil, Option.map_none, htk]
    exact hk
theorem c_sumLots (xs : List Lot) (h : Fine xs) (K : AV → AH → Prop) (hk : K (.tup [(.one (.c (.int .i64 (sumQ xs)))), (.one (.c (.int .i64 (sumC xs))))]) []) : ACalls Tryz.prog 72 [(.one (.im (xs.map lotC)))] [] K := by
  have hn : xs.length ≤ 1000000000 := by have := h.2; omega
  refine acall_c Tryz.f72.results.toList mixed Tryz.func72 rfl rfl (by kernel_rfl) ?_
  intro Q hQ hQO
  simp only [go_sem]
  refine for_at (xs.length) [8, 9] (fun i f h => f 4 = (.one (.c (.int .i64 (sumQ (xs.take i))))) ∧ f 5 = (.one (.c (.int .i64 (sumC (xs.take i))))) ∧ f 10 = (.one (.c (.int .i64 (i)))) ∧ h = []) (GC.now ?_) ?_
  · simp only [go_sem, nc_0, true_and]
    exact ⟨rfl, rfl⟩
  · rintro i f h J hi hA ⟨e4, e5, e10, rfl⟩ hJ
    simp only [go_sem] at hA
    simp only [go_sem, hA, e4, e5, e10]
    refine c_split (fun hb => ?_) (fun hb => ?_)
    rotate_left
    · simp only [go_sem, hb, hA, e4, e5, e10]
      obtain rfl := ge_len hb hi
      (try simp only [go_sem, hA, e4, e5, e10, List.take_length]); repeat' (first | (with_reducible first | refine c_split ?_ ?_ | refine w_split ?_ ?_) <;> intro hb <;> try simp only [go_sem, hb, hA, e4, e5, e10, List.take_length] | with_reducible refine hQ _ _ ?_ <;> simp only [Tryz.f72, go_sem, hA, e4, e5, e10, List.take_length])
      exact hk
    have hi := lt_len hb
    have hw := wrap_nat i (by omega)
    have hil : (i : Int) < ((xs.length : Nat) : Int) := Int.ofNat_lt.2 hi
    have hg0 : (xs)[i]? = some ((xs)[i]) := List.getElem?_eq_getElem (by omega)
    simp only [go_sem, hb, hA, e4, e5, e10, hg0]
    try simp only [go_sem, hA, e4, e5, e10, hil, hg0]
    obtain ⟨s1, s2⟩ := sumQ_s xs i hi
    obtain ⟨w1, w2⟩ := sums_w h hi
    (try simp only [go_sem, hA, e4, e5, e10, hil, hg0, w1, w2]); repeat' (first | (with_reducible first | refine c_split ?_ ?_ | refine w_split ?_ ?_) <;> intro hb <;> try simp only [go_sem, hb, hA, e4, e5, e10, hil, hg0, w1, w2] | fail)
    refine gc_trim 0 (by decide) (by simp only [go_sem]) (by simp only [go_sem]) (hJ _ _ hi (by simp only [go_sem, hA, e4, e5, e10]) ⟨?_, ?_, ?_, ?_⟩) <;> try simp only [go_sem, hA, e4, e5, e10, hw, s1, s2]
def badLot (xs : List Lot) (x : Lot) : Bool := !amtOk (sumQ (ownL xs x.account x.instr)) || !amtOk (sumC (ownL xs x.account x.instr))
theorem c_LotsOk1 (x : Lot) (xs : List Lot) (hf : Fine xs) (h0 : AH) (c : Nat) (hc : h0[c]? = some (.own 0 34 1 (some 1) [[.im (xs.map lotC)]])) (K : AV → AH → Prop) (hk : K (.one (.c (.bool (badLot xs x)))) h0) : ACalls Tryz.prog 91 [.agg (lotC x), .one (.pt c 0 0 0)] h0 K := by
  have hn : xs.length ≤ 1000000000 := by have := hf.2; omega
  refine acall_m Tryz.f91.results.toList mixed Tryz.func91 rfl rfl (by kernel_rfl) ?_
  intro hwf Q hQ
  simp only [go_sem, fun a => h_old a hc]
  (try simp only [go_sem, fun a => h_old a hc]); repeat' (first | (with_reducible first | refine c_split ?_ ?_ | refine w_split ?_ ?_) <;> intro hb <;> try simp only [go_sem, hb, fun a => h_old a hc] | (first | refine call_c (c_lotsOf xs x.account x.instr hn _ ?_) | refine call_c (c_sumLots (ownL xs x.account x.instr) (hf.own _ _) _ ?_) | refine call_c (c_impl_AmountOk _ _ ?_) | fail) <;> try simp only [go_sem, fun a => h_old a hc] | fail)
  · refine hQ (h0) _ _ ?_; refine GC.now (ret_m (by simp only [go_sem, Tryz.f91]; exact _root_.id rfl) (by simp only [go_sem]) (by simp) (by first | exact hwf | exact wf_set hwf (by simp only [go_sem]) | exact wf_set2 hwf (by simp only [go_sem]) (by simp only [go_sem]) | (simp only [go_sem]; done)) (by first | exact ⟨_, _root_.id rfl⟩ | exact ⟨[], (List.append_nil _).symm⟩) ?_) <;> simp only [go_sem]
    exact kB hk (by rw [badLot, hb]; rfl)
  · refine hQ (h0) _ _ ?_; refine GC.now (ret_m (by simp only [go_sem, Tryz.f91]; exact _root_.id rfl) (by simp only [go_sem]) (by simp) (by first | exact hwf | exact wf_set hwf (by simp only [go_sem]) | exact wf_set2 hwf (by simp only [go_sem]) (by simp only [go_sem]) | (simp only [go_sem]; done)) (by first | exact ⟨_, _root_.id rfl⟩ | exact ⟨[], (List.append_nil _).symm⟩) ?_) <;> simp only [go_sem]
    exact kB hk (by rw [badLot, hb]; rfl)
theorem c_ContainsLot (xs : List Lot) (g : Nat) (c : Nat) (p : Lot → Bool) (h0 : AH) (K : AV → AH → Prop) (hn : xs.length ≤ 1000000000)
    (hp : ∀ i (hi : i < xs.length) (K' : AV → AH → Prop), K' (.one (.c (.bool (p xs[i])))) h0 → callA Tryz.prog g ([.agg (lotC xs[i])] ++ [c].map fun l => .one (.pt l 0 0 0)) h0 K')
    (hk : K (.one (.c (.bool (decide (0 ≤ findG p xs))))) h0) : ACalls Tryz.prog 90 [(.one (.im (xs.map lotC))), .one (.clo g [c])] h0 K := by
  refine acall_m Tryz.f90.results.toList mixed Tryz.func90 rfl rfl (by kernel_rfl) ?_
  intro hwf Q hQ
  simp only [go_sem, ca_clos]
  refine .inr (.inl ⟨rfl, c_IndexFuncLot xs g [c] p _ _ hn hp ?_⟩)
  simp only [go_sem]
  (try simp only [go_sem]); repeat' (first | (with_reducible first | refine c_split ?_ ?_ | refine w_split ?_ ?_) <;> intro hb <;> try simp only [go_sem, hb] | fail)
  refine hQ (h0) _ _ ?_; refine GC.now (ret_m (by simp only [go_sem, Tryz.f90]; exact _root_.id rfl) (by simp only [go_sem]) (by simp) (by first | exact hwf | exact wf_set hwf (by simp only [go_sem]) | exact wf_set2 hwf (by simp only [go_sem]) (by simp only [go_sem]) | (simp only [go_sem]; done)) (by first | exact ⟨_, _root_.id rfl⟩ | exact ⟨[], (List.append_nil _).symm⟩) ?_) <;> simp only [go_sem]
  exact hk
def lotP (x : Lot) : Bool := noOk x.account && noOk x.instr && decide (1 ≤ x.no ∧ x.no ≤ 1000000000) && decide (1 ≤ x.qty ∧ x.qty ≤ 1000000000000000) && decide (0 ≤ x.cost ∧ x.cost ≤ 1000000000000000)
def lotLt (y x : Lot) : Bool := pairLt y.account y.instr x.account x.instr || (decide (y.account = x.account) && decide (y.instr = x.instr) && decide (y.no < x.no))
def lotCmp (y x : Lot) : Int := if byBoth y.account y.instr x.account x.instr = 0 then (if y.no < x.no then -1 else if x.no < y.no then 1 else 0) else byBoth y.account y.instr x.account x.instr
theorem lotLt_iff {y x : Lot} : lotLt y x = true ↔ (y.account < x.account ∨ y.account = x.account ∧ y.instr < x.instr) ∨ (y.account = x.account ∧ y.instr = x.instr) ∧ y.no < x.no := by
  simp [lotLt, pairLt]
theorem lotCmp_lt {y x : Lot} : lotLt y x = decide (lotCmp y x < 0) := by
  have h1 := byBoth_lt (a := y.account) (b := y.instr) (c := x.account) (d := x.instr)
  by_cases hl : lotLt y x = true
  · rw [hl]
    refine (decide_eq_true ?_).symm
    have := lotLt_iff.1 hl
    unfold lotCmp
    split
    · rename_i h0
      have := h1.2.1 h0
      split
      · decide
      · omega
    · rename_i h0
      exact h1.1.2 (pairLt_iff.2 (by have := fun q => h0 (h1.2.2 q); omega))
  · rw [show lotLt y x = false by simpa using hl]
    refine (decide_eq_false fun q => hl (lotLt_iff.2 ?_)).symm
    unfold lotCmp at q
    split at q
    · rename_i h0
      have := h1.2.1 h0
      split at q
      · omega
      · split at q <;> omega
    · have := pairLt_iff.1 (h1.1.1 q); omega
theorem c_lotForm (x : Lot) (K : AV → AH → Prop) (hk : K (.one (.c (.bool (lotP x)))) []) : ACalls Tryz.prog 88 [.agg (lotC x)] [] K := by
  refine acall_c Tryz.f88.results.toList mixed Tryz.func88 rfl rfl (by kernel_rfl) ?_
  intro Q hQ hQO
  simp only [go_sem]
  (try simp only [go_sem]); repeat' (first | (with_reducible first | refine c_split ?_ ?_ | refine w_split ?_ ?_) <;> intro hb <;> try simp only [go_sem, hb] | (first | refine call_c (c_isNo _ _ ?_) | refine call_c (c_in _ _ _ _ ?_) | fail) <;> try simp only [go_sem] | with_reducible refine hQ _ _ ?_ <;> simp only [Tryz.f88, go_sem])
  all_goals (refine kB hk ?_; simp only [lotP]; simp_all <;> (intros; omega))
theorem c_l5Right (x : Lot) (K : AV → AH → Prop) (hk : K (.one (.c (.bool (lotP x)))) []) : ACalls Tryz.prog 80 [.agg (lotC x)] [] K := by
  refine acall_c Tryz.f80.results.toList mixed Tryz.func80 rfl rfl (by kernel_rfl) ?_
  intro Q hQ hQO
  simp only [go_sem]
  (try simp only [go_sem]); repeat' (first | (with_reducible first | refine c_split ?_ ?_ | refine w_split ?_ ?_) <;> intro hb <;> try simp only [go_sem, hb] | (first | refine call_c (c_l3No _ _ ?_) | refine call_c (c_l1In _ _ _ _ ?_) | refine call_c (c_l1Some _ _ _ ?_) | fail) <;> try simp only [go_sem] | with_reducible refine hQ _ _ ?_ <;> simp only [Tryz.f80, go_sem])
  all_goals (refine kB hk ?_; simp only [lotP]; simp_all <;> (intros; omega))
theorem c_lotBefore (y x : Lot) (K : AV → AH → Prop) (hk : K (.one (.c (.int .i64 (lotCmp y x)))) []) : ACalls Tryz.prog 89 [.agg (lotC y), .agg (lotC x)] [] K := by
  refine acall_c Tryz.f89.results.toList mixed Tryz.func89 rfl rfl (by kernel_rfl) ?_
  intro Q hQ hQO
  simp only [go_sem]
  (try simp only [go_sem]); repeat' (first | (with_reducible first | refine c_split ?_ ?_ | refine w_split ?_ ?_) <;> intro hb <;> try simp only [go_sem, hb] | refine call_c (c_byBoth _ _ _ _ _ ?_) <;> try simp only [go_sem] | with_reducible refine hQ _ _ ?_ <;> simp only [Tryz.f89, go_sem])
  all_goals refine (congrArg (fun q => K (.one (.c (.int .i64 q))) []) ?_).mp hk
  all_goals (unfold lotCmp; simp_all; try omega)
theorem c_l5Before (y x : Lot) (K : AV → AH → Prop) (hk : K (.one (.c (.bool (lotLt y x)))) []) : ACalls Tryz.prog 81 [.agg (lotC y), .agg (lotC x)] [] K := by
  refine acall_c Tryz.f81.results.toList mixed Tryz.func81 rfl rfl (by kernel_rfl) ?_
  intro Q hQ hQO
  simp only [go_sem]
  (try simp only [go_sem]); repeat' (first | (with_reducible first | refine c_split ?_ ?_ | refine w_split ?_ ?_) <;> intro hb <;> try simp only [go_sem, hb] | refine call_c (c_l4Before _ _ _ _ _ ?_) <;> try simp only [go_sem] | with_reducible refine hQ _ _ ?_ <;> simp only [Tryz.f81, go_sem])
  all_goals (refine kB hk ?_; simp only [lotLt]; simp_all)
end Go.Proofs.YtkndmncgohmjmaaGreatDoor
end
section
namespace Go.Proofs.YtkndmncgohmjmaaGreatDoor
open Go.BL Go.RowKit
set_option linter.unusedVariables false
set_option linter.unusedSimpArgs false
set_option maxRecDepth 100000
theorem d66_0_LBooks5 : DrawL Tryz.prog 0 12 (.on [(0, false, true), (1, false, true), (2, false, true), (3, false, true), (4, false, true), (5, false, true), (6, false, true), (7, true, true), (8, true, false), (9, true, false), (10, true, true), (11, true, false), (12, false, false), (13, false, false), (14, false, false), (15, false, false), (16, false, false)] .nil) := draw_L
theorem d57_0_LBooks5 : DrawL Tryz.prog 0 20 (.on [(0, false, true), (1, false, true), (2, false, true), (3, false, true), (4, false, true), (5, false, true), (6, false, true), (7, true, true), (8, true, true), (9, true, true), (10, true, true), (11, true, true), (12, false, false), (13, false, true), (14, false, true), (15, false, true), (16, false, true)] .nil) := draw_L
theorem d57_1_LBooks5 : DrawL Tryz.prog 0 37 (.on [(0, false, true), (1, false, true), (2, false, true), (3, true, true), (4, true, true), (5, true, false), (6, false, false), (7, false, false), (8, false, false), (9, false, false), (10, false, false), (11, false, true), (12, false, true), (13, false, true), (14, true, true), (15, true, true), (16, true, false), (17, false, false), (18, false, false), (19, false, false), (20, false, false), (21, false, false), (22, false, false), (23, false, false)] .nil) := draw_L
attribute [local go_sem] accountC balC lotC tradeC
theorem findG_hit {α : Type} {p : α → Bool} {xs : List α} {x : α} (hx : x ∈ xs) (hp : p x = true) : 0 ≤ findG p xs := by
  unfold findG
  cases h : xs.findIdx? p with
  | none =>
    have := (List.findIdx?_eq_none_iff.1 h) x hx
    rw [hp] at this; cases this
  | some i => simp
def lotsOk (xs : List Lot) : Bool := okL lotP lotLt 120 xs && !decide (0 ≤ findG (badLot xs) xs)
theorem lotP_fine {x : Lot} (h : lotP x = true) : (0 ≤ x.qty ∧ x.qty ≤ 1000000000000000) ∧ 0 ≤ x.cost ∧ x.cost ≤ 1000000000000000 := by
  simp only [lotP, Bool.and_eq_true] at h
  have h1 := of_decide_eq_true h.1.2
  have h2 := of_decide_eq_true h.2
  exact ⟨⟨by omega, h1.2⟩, h2⟩
theorem rows_fine {xs : List Lot} {i : Nat} (h : allTo (rowG lotP lotLt xs) i = true) (hi : i ≤ xs.length) : ∀ x ∈ xs.take i, lotP x = true := by
  intro x hx
  obtain ⟨j, hj, rfl⟩ := List.mem_iff_getElem.1 hx
  rw [List.length_take] at hj
  have := allTo_at h j (by omega)
  rw [List.getElem_take]
  rcases j with _ | j
  · rwa [rowG_0 (by omega)] at this
  · rw [rowG_s (by omega), Bool.and_eq_true] at this; exact this.1
theorem okL_fine {xs : List Lot} (h : okL lotP lotLt 120 xs = true) : Fine xs := ⟨fun x hx => lotP_fine (okL_p h hx), by have := okL_len h; omega⟩
theorem lotLt_c {y x : Lot} (h : lotLt y x = true) : decide (0 ≤ lotCmp y x) = false := by
  rw [lotCmp_lt] at h
  have := of_decide_eq_true h
  exact decide_eq_false (by omega)
theorem c_impl_LotsOk (xs : List Lot) (hn : xs.length ≤ 1000000000) (K : AV → AH → Prop) (hk : K (.one (.c (.bool (lotsOk xs)))) []) : ACalls Tryz.prog 66 [(.one (.im (xs.map lotC)))] [] K := by
  refine acall_c Tryz.f66.results.toList mixed Tryz.func66 rfl rfl (by kernel_rfl) ?_
  intro Q hQ hQO
  simp only [go_sem]
  refine for_at (xs.length) [1, 5, 6] (fun i f h => f 7 = (.one (.c (.int .i64 (i)))) ∧ h = [.own 0 34 1 (some 1) [[.im (xs.map lotC)]]] ∧ allTo (rowG lotP lotLt xs) i = true) (GC.now ?_) ?_
  · simp only [go_sem, nc_0, true_and]
    rfl
  · rintro i f h J hi hA ⟨e7, rfl, hP⟩ hJ
    simp only [go_sem] at hA
    simp only [go_sem, hA, e7]
    refine c_split (fun hb => ?_) (fun hb => ?_)
    rotate_left
    · simp only [go_sem, hb, hA, e7]
      obtain rfl := ge_len hb hi
      (try simp only [go_sem, hA, e7]); repeat' (first | (with_reducible first | refine c_split ?_ ?_ | refine w_split ?_ ?_ | refine tw_split ?_ ?_) <;> intro hb <;> try simp only [go_sem, hb, hA, e7] | with_reducible refine d66_0_LBooks5 (by with_unfolding_all rfl) (by kernel_rfl) ?_ <;> try simp only [go_sem, hA, e7] | fail)
      · rw [lotsOk, okL_long (of_decide_eq_true hb), Bool.false_and] at hk
        (try simp only [go_sem]); repeat' (first | (with_reducible first | refine c_split ?_ ?_ | refine w_split ?_ ?_ | refine tw_split ?_ ?_) <;> intro hb <;> try simp only [go_sem, hb] | with_reducible refine d66_0_LBooks5 (by with_unfolding_all rfl) (by kernel_rfl) ?_ <;> try simp only [go_sem] | with_reducible refine hQ _ _ ?_ <;> simp only [Tryz.f66, go_sem])
        exact hk
      · have hlen := of_decide_eq_false hb
        have hokL : okL lotP lotLt 120 xs = true := by rw [okL, hP, decide_eq_true (by omega)]; rfl
        rw [lotsOk, hokL, Bool.true_and] at hk
        refine call_h (c_ContainsLot xs _ 0 (badLot xs) _ _ hn (fun i hi K' hk' => .inr (.inl ⟨rfl, c_LotsOk1 xs[i] xs (okL_fine hokL) _ 0 rfl _ hk'⟩)) ?_)
        simp only [go_sem]
        (try simp only [go_sem]); repeat' (first | (with_reducible first | refine c_split ?_ ?_ | refine w_split ?_ ?_ | refine tw_split ?_ ?_) <;> intro hb <;> try simp only [go_sem, hb] | with_reducible refine d66_0_LBooks5 (by with_unfolding_all rfl) (by kernel_rfl) ?_ <;> try simp only [go_sem] | with_reducible refine hQ _ _ ?_ <;> simp only [Tryz.f66, go_sem])
        exact hk
    have hi := lt_len hb
    have hw := wrap_nat i (by omega)
    have hil : (i : Int) < ((xs.length : Nat) : Int) := Int.ofNat_lt.2 hi
    have hg0 : (xs)[i]? = some ((xs)[i]) := List.getElem?_eq_getElem (by omega)
    simp only [go_sem, hb, hA, e7, hg0]
    try simp only [go_sem, hA, e7, hil, hg0]
    cases hr : rowG lotP lotLt xs i with
    | true =>
      have hall := allTo_s hP hr
      rcases i with _ | j
      · have g0 : decide ((0 : Int) < ((0 : Nat) : Int)) = false := by decide
        rw [rowG_0 hi] at hr
        (try simp only [go_sem, hA, e7, hil, hg0, g0, hr]); repeat' (first | (with_reducible first | refine c_split ?_ ?_ | refine w_split ?_ ?_ | refine tw_split ?_ ?_) <;> intro hb <;> try simp only [go_sem, hb, hA, e7, hil, hg0, g0, hr] | (first | with_reducible refine d66_0_LBooks5 (by with_unfolding_all rfl) (by kernel_rfl) ?_ | refine call_c (c_lotForm _ _ ?_) | refine call_c (c_lotBefore _ _ _ ?_) | fail) <;> try simp only [go_sem, hA, e7, hil, hg0, g0, hr] | fail)
        refine gc_trim 1 (by decide) (by simp only [go_sem]) (by simp only [go_sem]) (hJ _ _ hi (by simp only [go_sem, hA, e7]) ⟨?_, ?_, ?_⟩) <;> try simp only [go_sem, hA, e7, hw]
        exact hall
      · have hj : j < xs.length := by omega
        have hgj : xs[j]? = some xs[j] := List.getElem?_eq_getElem hj
        have g1 : decide ((0 : Int) < ((j + 1 : Nat) : Int)) = true := decide_eq_true (by omega)
        have g2 : wrap64 (((j + 1 : Nat) : Int) - 1) = (j : Int) := by unfold wrap64; omega
        rw [rowG_s hi, Bool.and_eq_true] at hr
        obtain ⟨hr, hlt⟩ := hr
        have hlt2 := lotLt_c hlt
        (try simp only [go_sem, hA, e7, hil, hg0, g1, g2, hgj, hlt2, hr]); repeat' (first | (with_reducible first | refine c_split ?_ ?_ | refine w_split ?_ ?_ | refine tw_split ?_ ?_) <;> intro hb <;> try simp only [go_sem, hb, hA, e7, hil, hg0, g1, g2, hgj, hlt2, hr] | (first | with_reducible refine d66_0_LBooks5 (by with_unfolding_all rfl) (by kernel_rfl) ?_ | refine call_c (c_lotForm _ _ ?_) | refine call_c (c_lotBefore _ _ _ ?_) | fail) <;> try simp only [go_sem, hA, e7, hil, hg0, g1, g2, hgj, hlt2, hr] | fail)
        refine gc_trim 1 (by decide) (by simp only [go_sem]) (by simp only [go_sem]) (hJ _ _ hi (by simp only [go_sem, hA, e7]) ⟨?_, ?_, ?_⟩) <;> try simp only [go_sem, hA, e7, hw]
        exact hall
    | false =>
      rw [lotsOk, okL_no hr hi, Bool.false_and] at hk
      rcases i with _ | j
      · have g0 : decide ((0 : Int) < ((0 : Nat) : Int)) = false := by decide
        rw [rowG_0 hi] at hr
        (try simp only [go_sem, hA, e7, hil, hg0, g0, hr]); repeat' (first | (with_reducible first | refine c_split ?_ ?_ | refine w_split ?_ ?_ | refine tw_split ?_ ?_) <;> intro hb <;> try simp only [go_sem, hb, hA, e7, hil, hg0, g0, hr] | (first | with_reducible refine d66_0_LBooks5 (by with_unfolding_all rfl) (by kernel_rfl) ?_ | refine call_c (c_lotForm _ _ ?_) | refine call_c (c_lotBefore _ _ _ ?_) | fail) <;> try simp only [go_sem, hA, e7, hil, hg0, g0, hr] | with_reducible refine hQ _ _ ?_ <;> simp only [Tryz.f66, go_sem, hA, e7, hil, hg0, g0, hr])
        exact hk
      · have hj : j < xs.length := by omega
        have hgj : xs[j]? = some xs[j] := List.getElem?_eq_getElem hj
        have g1 : decide ((0 : Int) < ((j + 1 : Nat) : Int)) = true := decide_eq_true (by omega)
        have g2 : wrap64 (((j + 1 : Nat) : Int) - 1) = (j : Int) := by unfold wrap64; omega
        rw [rowG_s hi] at hr
        cases hp : lotP xs[j + 1] with
        | false =>
          (try simp only [go_sem, hA, e7, hil, hg0, g1, g2, hgj, hp]); repeat' (first | (with_reducible first | refine c_split ?_ ?_ | refine w_split ?_ ?_ | refine tw_split ?_ ?_) <;> intro hb <;> try simp only [go_sem, hb, hA, e7, hil, hg0, g1, g2, hgj, hp] | (first | with_reducible refine d66_0_LBooks5 (by with_unfolding_all rfl) (by kernel_rfl) ?_ | refine call_c (c_lotForm _ _ ?_) | refine call_c (c_lotBefore _ _ _ ?_) | fail) <;> try simp only [go_sem, hA, e7, hil, hg0, g1, g2, hgj, hp] | with_reducible refine hQ _ _ ?_ <;> simp only [Tryz.f66, go_sem, hA, e7, hil, hg0, g1, g2, hgj, hp])
          exact hk
        | true =>
          rw [hp, Bool.true_and, lotCmp_lt] at hr
          have hge : decide (0 ≤ lotCmp xs[j] xs[j + 1]) = true := decide_eq_true (by have := of_decide_eq_false hr; omega)
          (try simp only [go_sem, hA, e7, hil, hg0, g1, g2, hgj, hp, hge]); repeat' (first | (with_reducible first | refine c_split ?_ ?_ | refine w_split ?_ ?_ | refine tw_split ?_ ?_) <;> intro hb <;> try simp only [go_sem, hb, hA, e7, hil, hg0, g1, g2, hgj, hp, hge] | (first | with_reducible refine d66_0_LBooks5 (by with_unfolding_all rfl) (by kernel_rfl) ?_ | refine call_c (c_lotForm _ _ ?_) | refine call_c (c_lotBefore _ _ _ ?_) | fail) <;> try simp only [go_sem, hA, e7, hil, hg0, g1, g2, hgj, hp, hge] | with_reducible refine hQ _ _ ?_ <;> simp only [Tryz.f66, go_sem, hA, e7, hil, hg0, g1, g2, hgj, hp, hge])
          exact hk
def runL (xs : List Lot) : Nat → List Lot
  | 0 => []
  | j + 1 => match xs[j]? with | some y => ownL (xs.take (j + 1)) y.account y.instr | none => []
theorem run_at (xs : List Lot) (i : Nat) (hi : i < xs.length) : runL xs (i + 1) = ownL (xs.take (i + 1)) xs[i].account xs[i].instr := by simp [runL, hi]
theorem own_s (xs : List Lot) (i : Nat) (hi : i < xs.length) (a n : Int) : ownL (xs.take (i + 1)) a n = ownL (xs.take i) a n ++ (if lotIs a n xs[i] = true then [xs[i]] else []) := by
  rw [ownL, ownL, List.take_succ_eq_append_getElem hi, List.filter_append]
  cases h : lotIs a n xs[i] <;> simp [h]
theorem lotIs_self (x : Lot) : lotIs x.account x.instr x = true := by simp [lotIs]
theorem lotIs_iff {a n : Int} {x : Lot} : lotIs a n x = true ↔ x.account = a ∧ x.instr = n := by simp [lotIs]
theorem run_0 (xs : List Lot) (hi : 0 < xs.length) : runL xs 1 = [xs[0]] := by
  rw [run_at xs 0 hi, own_s xs 0 hi, if_pos (lotIs_self _)]; rfl
theorem run_same {xs : List Lot} {j : Nat} (hi : j + 1 < xs.length) (h1 : xs[j + 1].account = xs[j].account) (h2 : xs[j + 1].instr = xs[j].instr) : runL xs (j + 2) = runL xs (j + 1) ++ [xs[j + 1]] := by
  rw [run_at xs (j + 1) hi, run_at xs j (by omega), own_s xs (j + 1) hi, if_pos (lotIs_self _), h1, h2]
theorem lotLt_tr (x y z : Lot) (h1 : lotLt x y = true) (h2 : lotLt y z = true) : lotLt x z = true := by
  rw [lotLt_iff] at *; omega
theorem rows_lt {xs : List Lot} {n : Nat} (h : allTo (rowG lotP lotLt xs) n = true) : ∀ (d i : Nat) (_ : i + d + 1 < n) (hj : i + d + 1 < xs.length), lotLt (xs[i]'(by omega)) xs[i + d + 1] = true := by
  have adj : ∀ j, j + 1 < n → ∀ (hj : j + 1 < xs.length), lotLt xs[j] xs[j + 1] = true := fun j hn hj => by
    have := allTo_at h (j + 1) hn
    rw [rowG_s hj, Bool.and_eq_true] at this; exact this.2
  intro d
  induction d with
  | zero => exact fun i hn hj => adj i hn hj
  | succ d ih => exact fun i hn hj => lotLt_tr _ _ _ (ih i (by omega) (by omega)) (adj (i + d + 1) hn hj)
theorem run_diff {xs : List Lot} {j : Nat} (hi : j + 1 < xs.length) (h : allTo (rowG lotP lotLt xs) (j + 2) = true) (hne : ¬ (xs[j + 1].account = xs[j].account ∧ xs[j + 1].instr = xs[j].instr)) : runL xs (j + 2) = [xs[j + 1]] := by
  rw [run_at xs (j + 1) hi, own_s xs (j + 1) hi, if_pos (lotIs_self _)]
  have : ownL (xs.take (j + 1)) xs[j + 1].account xs[j + 1].instr = [] := by
    rw [ownL, List.filter_eq_nil_iff]
    intro x hx
    obtain ⟨k, hk, rfl⟩ := List.mem_iff_getElem.1 hx
    rw [List.length_take] at hk
    rw [List.getElem_take, lotIs_iff]
    have hlast : lotLt xs[j] xs[j + 1] = true := rows_lt h 0 j (by omega) hi
    rw [lotLt_iff] at hlast
    by_cases e : k = j
    · subst e; intro q; exact hne ⟨q.1.symm, q.2.symm⟩
    · obtain ⟨d, hd⟩ : ∃ d, j = k + d + 1 := ⟨j - k - 1, by omega⟩
      have h2 := rows_lt h d k (by omega) (by omega)
      rw [lotLt_iff] at h2
      simp only [← hd] at h2
      omega
  rw [this]; rfl
theorem sumQ_app (xs : List Lot) (x : Lot) : sumQ (xs ++ [x]) = sumQ xs + x.qty ∧ sumC (xs ++ [x]) = sumC xs + x.cost := by
  constructor
  · rw [sumQ, sumQ, List.map_append, List.sum_append]; simp
  · rw [sumC, sumC, List.map_append, List.sum_append]; simp
theorem run_mem {xs : List Lot} {i : Nat} {x : Lot} (hx : x ∈ runL xs i) : x ∈ xs.take i := by
  cases i with
  | zero => simp [runL] at hx
  | succ j =>
    simp only [runL] at hx
    split at hx
    · exact (List.mem_filter.1 hx).1
    · simp at hx
theorem run_len (xs : List Lot) (i : Nat) : (runL xs i).length ≤ i := by
  cases i with
  | zero => exact Nat.le_refl _
  | succ j =>
    simp only [runL]
    split
    · exact Nat.le_trans (List.length_filter_le _ _) (by rw [List.length_take]; omega)
    · exact Nat.zero_le _
theorem run_w {xs : List Lot} {i : Nat} (h : allTo (rowG lotP lotLt xs) i = true) (hi : i < xs.length) (hl : xs.length ≤ 120) (hx : lotP xs[i] = true) : wrap64 (sumQ (runL xs i) + xs[i].qty) = sumQ (runL xs i) + xs[i].qty ∧ wrap64 (sumC (runL xs i) + xs[i].cost) = sumC (runL xs i) + xs[i].cost ∧ wrap64 (0 + xs[i].qty) = xs[i].qty ∧ wrap64 (0 + xs[i].cost) = xs[i].cost := by
  have h1 := sums_le (runL xs i) (fun x hx => lotP_fine (rows_fine h (by omega) x (run_mem hx)))
  have h2 := lotP_fine hx
  have h3 := run_len xs i
  refine ⟨wrap_id _ (by omega) (by omega), wrap_id _ (by omega) (by omega), ?_, ?_⟩
  · rw [Int.zero_add]; exact wrap_id _ (by omega) (by omega)
  · rw [Int.zero_add]; exact wrap_id _ (by omega) (by omega)
def grpOk (xs : List Lot) (i : Nat) : Prop := ∀ j (hj : j < xs.length), j < i → amtOk (sumQ (ownL (xs.take i) xs[j].account xs[j].instr)) = true ∧ amtOk (sumC (ownL (xs.take i) xs[j].account xs[j].instr)) = true
theorem grp_s {xs : List Lot} {i : Nat} (hi : i < xs.length) (h : grpOk xs i) (h1 : amtOk (sumQ (runL xs (i + 1))) = true) (h2 : amtOk (sumC (runL xs (i + 1))) = true) : grpOk xs (i + 1) := by
  intro j hj hji
  by_cases e : lotIs xs[j].account xs[j].instr xs[i] = true
  · have := lotIs_iff.1 e
    rw [run_at xs i hi, this.1, this.2] at h1 h2
    exact ⟨h1, h2⟩
  · have hne : j ≠ i := fun q => by subst q; exact e (lotIs_self _)
    rw [own_s xs i hi, if_neg e, List.append_nil]
    exact h j hj (by omega)
theorem sums_sub {xs ys : List Lot} (hs : List.Sublist xs ys) (hf : ∀ x ∈ ys, (0 ≤ x.qty ∧ x.qty ≤ 1000000000000000) ∧ 0 ≤ x.cost ∧ x.cost ≤ 1000000000000000) : sumQ xs ≤ sumQ ys ∧ sumC xs ≤ sumC ys := by
  induction hs with
  | slnil => exact ⟨Int.le_refl _, Int.le_refl _⟩
  | cons a _ ih =>
    have h1 := ih (fun x hx => hf x (List.mem_cons_of_mem _ hx))
    have h2 := hf a (List.mem_cons_self ..)
    simp only [sumQ, sumC, List.map_cons, List.sum_cons] at *
    omega
  | cons_cons a _ ih =>
    have h1 := ih (fun x hx => hf x (List.mem_cons_of_mem _ hx))
    simp only [sumQ, sumC, List.map_cons, List.sum_cons] at *
    omega
theorem lots_bad {xs : List Lot} {i : Nat} (hi : i < xs.length) (h : ¬ (amtOk (sumQ (runL xs (i + 1))) = true ∧ amtOk (sumC (runL xs (i + 1))) = true)) : lotsOk xs = false := by
  cases hok : okL lotP lotLt 120 xs with
  | false => rw [lotsOk, hok, Bool.false_and]
  | true =>
    have hf := okL_fine hok
    have hb : badLot xs xs[i] = true := by
      rw [run_at xs i hi] at h
      have hsub : List.Sublist (ownL (xs.take (i + 1)) xs[i].account xs[i].instr) (ownL xs xs[i].account xs[i].instr) := (List.take_sublist _ _).filter _
      have h1 := sums_sub hsub (fun x hx => hf.1 x (List.mem_filter.1 hx).1)
      have h2 := sums_le (ownL (xs.take (i + 1)) xs[i].account xs[i].instr) (fun x hx => hf.1 x (List.mem_of_mem_take (List.mem_filter.1 hx).1))
      cases hbb : badLot xs xs[i] with
      | true => rfl
      | false =>
        exfalso
        apply h
        simp only [badLot, Bool.or_eq_false_iff, Bool.not_eq_false'] at hbb
        have a1 : _ ∧ _ := of_decide_eq_true hbb.1
        have a2 : _ ∧ _ := of_decide_eq_true hbb.2
        exact ⟨decide_eq_true (by omega), decide_eq_true (by omega)⟩
    rw [lotsOk, decide_eq_true (findG_hit (List.getElem_mem hi) hb)]; simp
theorem lots_good {xs : List Lot} (h1 : okL lotP lotLt 120 xs = true) (h : grpOk xs xs.length) : lotsOk xs = true := by
  have : findG (badLot xs) xs = -1 := findG_none fun j hj => by
    have := h j hj hj
    rw [List.take_length] at this
    rw [badLot, this.1, this.2]; rfl
  rw [lotsOk, h1, this]; rfl
theorem c_spec_LotsOk (xs : List Lot) (hn : xs.length ≤ 1000000000) (K : AV → AH → Prop) (hk : K (.one (.c (.bool (lotsOk xs)))) []) : ACalls Tryz.prog 57 [(.one (.im (xs.map lotC)))] [] K := by
  refine acall_c Tryz.f57.results.toList mixed Tryz.func57 rfl rfl (by kernel_rfl) ?_
  intro Q hQ hQO
  simp only [go_sem]
  (try simp only [go_sem]); repeat' (first | (with_reducible first | refine c_split ?_ ?_ | refine w_split ?_ ?_ | refine tw_split ?_ ?_) <;> intro hb <;> try simp only [go_sem, hb] | (first | with_reducible refine d57_0_LBooks5 (by with_unfolding_all rfl) (by kernel_rfl) ?_ | with_reducible refine d57_1_LBooks5 (by with_unfolding_all rfl) (by kernel_rfl) ?_ | fail) <;> try simp only [go_sem] | fail)
  · rw [lotsOk, okL_long (of_decide_eq_true hb), Bool.false_and] at hk
    (try simp only [go_sem]); repeat' (first | (with_reducible first | refine c_split ?_ ?_ | refine w_split ?_ ?_ | refine tw_split ?_ ?_) <;> intro hb <;> try simp only [go_sem, hb] | (first | with_reducible refine d57_0_LBooks5 (by with_unfolding_all rfl) (by kernel_rfl) ?_ | with_reducible refine d57_1_LBooks5 (by with_unfolding_all rfl) (by kernel_rfl) ?_ | fail) <;> try simp only [go_sem] | with_reducible refine hQ _ _ ?_ <;> simp only [Tryz.f57, go_sem])
    exact hk
  · have hlen : xs.length ≤ 120 := by have := of_decide_eq_false hb; omega
    refine for_at (xs.length) [0] (fun i f h => f 3 = (.one (.c (.int .i64 (sumQ (runL xs i))))) ∧ f 4 = (.one (.c (.int .i64 (sumC (runL xs i))))) ∧ f 5 = (.one (.c (.int .i64 (i)))) ∧ h = [] ∧ allTo (rowG lotP lotLt xs) i = true ∧ grpOk xs i) (GC.now ?_) ?_
    · simp only [go_sem, nc_0, true_and]
      exact ⟨rfl, rfl, rfl, fun j hj q => absurd q (Nat.not_lt_zero j)⟩
    · rintro i f h J hi hA ⟨e3, e4, e5, rfl, hP⟩ hJ
      simp only [go_sem] at hA
      simp only [go_sem, hA, e3, e4, e5]
      refine c_split (fun hb => ?_) (fun hb => ?_)
      rotate_left
      · simp only [go_sem, hb, hA, e3, e4, e5]
        obtain rfl := ge_len hb hi
        rw [lots_good (by rw [okL, hP.1, decide_eq_true (by omega)]; rfl) hP.2] at hk
        (try simp only [go_sem, hA, e3, e4, e5]); repeat' (first | (with_reducible first | refine c_split ?_ ?_ | refine w_split ?_ ?_ | refine tw_split ?_ ?_) <;> intro hb <;> try simp only [go_sem, hb, hA, e3, e4, e5] | (first | with_reducible refine d57_0_LBooks5 (by with_unfolding_all rfl) (by kernel_rfl) ?_ | with_reducible refine d57_1_LBooks5 (by with_unfolding_all rfl) (by kernel_rfl) ?_ | fail) <;> try simp only [go_sem, hA, e3, e4, e5] | with_reducible refine hQ _ _ ?_ <;> simp only [Tryz.f57, go_sem, hA, e3, e4, e5])
        exact hk
      have hi := lt_len hb
      have hw := wrap_nat i (by omega)
      have hil : (i : Int) < ((xs.length : Nat) : Int) := Int.ofNat_lt.2 hi
      have hg0 : (xs)[i]? = some ((xs)[i]) := List.getElem?_eq_getElem (by omega)
      simp only [go_sem, hb, hA, e3, e4, e5, hg0]
      try simp only [go_sem, hA, e3, e4, e5, hil, hg0]
      cases hr : rowG lotP lotLt xs i with
      | true =>
        have hall := allTo_s hP.1 hr
        have bad : ¬ (amtOk (sumQ (runL xs (i + 1))) = true ∧ amtOk (sumC (runL xs (i + 1))) = true) → K (.one (.c (.bool (false)))) [] := fun h => by rw [lots_bad hi h] at hk; exact hk
        rcases i with _ | j
        · have g0 : decide ((0 : Int) < 0) = false := by decide
          have z0 : ((0 : Nat) : Int) = 0 := rfl
          rw [rowG_0 hi] at hr
          obtain ⟨-, -, w3, w4⟩ := run_w (i := 0) rfl hi hlen hr
          have e1 : sumQ (runL xs 1) = xs[0].qty := by rw [run_0 xs hi]; simp [sumQ]
          have e2 : sumC (runL xs 1) = xs[0].cost := by rw [run_0 xs hi]; simp [sumC]
          (try simp only [go_sem, hA, e3, e4, e5, hil, hg0, g0, z0, hr, w3, w4, BEq.rfl]); repeat' (first | (with_reducible first | refine c_split ?_ ?_ | refine w_split ?_ ?_ | refine tw_split ?_ ?_) <;> intro hb <;> try simp only [go_sem, hb, hA, e3, e4, e5, hil, hg0, g0, z0, hr, w3, w4, BEq.rfl] | (first | with_reducible refine d57_0_LBooks5 (by with_unfolding_all rfl) (by kernel_rfl) ?_ | with_reducible refine d57_1_LBooks5 (by with_unfolding_all rfl) (by kernel_rfl) ?_ | refine call_c (c_l5Right _ _ ?_) | refine call_c (c_l5Before _ _ _ ?_) | refine call_c (c_spec_AmountOk _ _ ?_) | fail) <;> try simp only [go_sem, hA, e3, e4, e5, hil, hg0, g0, z0, hr, w3, w4, BEq.rfl] | with_reducible refine hQ _ _ ?_ <;> simp only [Tryz.f57, go_sem, hA, e3, e4, e5, hil, hg0, g0, z0, hr, w3, w4, BEq.rfl])
          · exact bad fun q => by rw [e1] at q; rw [q.1] at hb; cases hb
          · rename_i hb1
            exact bad fun q => by rw [e2] at q; rw [q.2] at hb; cases hb
          · rename_i hb1
            have q1 : amtOk (sumQ (runL xs (1))) = true := by rw [e1]; simpa using hb1
            have q2 : amtOk (sumC (runL xs (1))) = true := by rw [e2]; simpa using hb
            refine gc_trim 0 (by decide) (by simp only [go_sem]) (by simp only [go_sem]) (hJ _ _ hi (by simp only [go_sem, hA, e3, e4, e5]) ⟨?_, ?_, ?_, ?_, ?_⟩) <;> try simp only [go_sem, hA, e3, e4, e5, hw, e1, e2]
            all_goals first | exact ⟨hall, grp_s hi hP.2 q1 q2⟩ | rfl | rw [show wrap64 (0 + 1) = ((1 : Nat) : Int) by unfold wrap64; omega]
        · have hj : j < xs.length := by omega
          have hgj : xs[j]? = some xs[j] := List.getElem?_eq_getElem hj
          have g1 : decide ((0 : Int) < ((j + 1 : Nat) : Int)) = true := decide_eq_true (by omega)
          have g2 : wrap64 (((j + 1 : Nat) : Int) - 1) = (j : Int) := by unfold wrap64; omega
          have g3 : (((j + 1 : Nat) : Int) == 0) = false := beq_false_of_ne (by omega)
          have hr2 := hr
          rw [rowG_s hi, Bool.and_eq_true] at hr2
          obtain ⟨hp, hlt⟩ := hr2
          obtain ⟨w1, w2, w3, w4⟩ := run_w hP.1 hi hlen hp
          by_cases ha : xs[j + 1].account = xs[j].account
          · by_cases hb0 : xs[j + 1].instr = xs[j].instr
            · have k1 : (xs[j + 1].account == xs[j].account) = true := beq_iff_eq.2 ha
              have k2 : (xs[j + 1].instr == xs[j].instr) = true := beq_iff_eq.2 hb0
              have e1 : sumQ (runL xs (j + 1 + 1)) = sumQ (runL xs (j + 1)) + xs[j + 1].qty := by rw [run_same hi ha hb0, (sumQ_app _ _).1]
              have e2 : sumC (runL xs (j + 1 + 1)) = sumC (runL xs (j + 1)) + xs[j + 1].cost := by rw [run_same hi ha hb0, (sumQ_app _ _).2]
              (try simp only [go_sem, hA, e3, e4, e5, hil, hg0, g1, g2, g3, hgj, hp, hlt, k1, k2, w1, w2]); repeat' (first | (with_reducible first | refine c_split ?_ ?_ | refine w_split ?_ ?_ | refine tw_split ?_ ?_) <;> intro hb <;> try simp only [go_sem, hb, hA, e3, e4, e5, hil, hg0, g1, g2, g3, hgj, hp, hlt, k1, k2, w1, w2] | (first | with_reducible refine d57_0_LBooks5 (by with_unfolding_all rfl) (by kernel_rfl) ?_ | with_reducible refine d57_1_LBooks5 (by with_unfolding_all rfl) (by kernel_rfl) ?_ | refine call_c (c_l5Right _ _ ?_) | refine call_c (c_l5Before _ _ _ ?_) | refine call_c (c_spec_AmountOk _ _ ?_) | fail) <;> try simp only [go_sem, hA, e3, e4, e5, hil, hg0, g1, g2, g3, hgj, hp, hlt, k1, k2, w1, w2] | with_reducible refine hQ _ _ ?_ <;> simp only [Tryz.f57, go_sem, hA, e3, e4, e5, hil, hg0, g1, g2, g3, hgj, hp, hlt, k1, k2, w1, w2])
              · exact bad fun q => by rw [e1] at q; rw [q.1] at hb; cases hb
              · rename_i hb1
                exact bad fun q => by rw [e2] at q; rw [q.2] at hb; cases hb
              · rename_i hb1
                have q1 : amtOk (sumQ (runL xs (j + 1 + 1))) = true := by rw [e1]; simpa using hb1
                have q2 : amtOk (sumC (runL xs (j + 1 + 1))) = true := by rw [e2]; simpa using hb
                refine gc_trim 0 (by decide) (by simp only [go_sem]) (by simp only [go_sem]) (hJ _ _ hi (by simp only [go_sem, hA, e3, e4, e5]) ⟨?_, ?_, ?_, ?_, ?_⟩) <;> try simp only [go_sem, hA, e3, e4, e5, hw, e1, e2]
                exact ⟨hall, grp_s hi hP.2 q1 q2⟩
            · have k1 : (xs[j + 1].account == xs[j].account) = true := beq_iff_eq.2 ha
              have k2 : (xs[j + 1].instr == xs[j].instr) = false := beq_false_of_ne hb0
              have e1 : sumQ (runL xs (j + 1 + 1)) = xs[j + 1].qty := by rw [run_diff hi hall (fun q => hb0 q.2)]; simp [sumQ]
              have e2 : sumC (runL xs (j + 1 + 1)) = xs[j + 1].cost := by rw [run_diff hi hall (fun q => hb0 q.2)]; simp [sumC]
              (try simp only [go_sem, hA, e3, e4, e5, hil, hg0, g1, g2, g3, hgj, hp, hlt, k1, k2, w3, w4]); repeat' (first | (with_reducible first | refine c_split ?_ ?_ | refine w_split ?_ ?_ | refine tw_split ?_ ?_) <;> intro hb <;> try simp only [go_sem, hb, hA, e3, e4, e5, hil, hg0, g1, g2, g3, hgj, hp, hlt, k1, k2, w3, w4] | (first | with_reducible refine d57_0_LBooks5 (by with_unfolding_all rfl) (by kernel_rfl) ?_ | with_reducible refine d57_1_LBooks5 (by with_unfolding_all rfl) (by kernel_rfl) ?_ | refine call_c (c_l5Right _ _ ?_) | refine call_c (c_l5Before _ _ _ ?_) | refine call_c (c_spec_AmountOk _ _ ?_) | fail) <;> try simp only [go_sem, hA, e3, e4, e5, hil, hg0, g1, g2, g3, hgj, hp, hlt, k1, k2, w3, w4] | with_reducible refine hQ _ _ ?_ <;> simp only [Tryz.f57, go_sem, hA, e3, e4, e5, hil, hg0, g1, g2, g3, hgj, hp, hlt, k1, k2, w3, w4])
              · exact bad fun q => by rw [e1] at q; rw [q.1] at hb; cases hb
              · rename_i hb1
                exact bad fun q => by rw [e2] at q; rw [q.2] at hb; cases hb
              · rename_i hb1
                have q1 : amtOk (sumQ (runL xs (j + 1 + 1))) = true := by rw [e1]; simpa using hb1
                have q2 : amtOk (sumC (runL xs (j + 1 + 1))) = true := by rw [e2]; simpa using hb
                refine gc_trim 0 (by decide) (by simp only [go_sem]) (by simp only [go_sem]) (hJ _ _ hi (by simp only [go_sem, hA, e3, e4, e5]) ⟨?_, ?_, ?_, ?_, ?_⟩) <;> try simp only [go_sem, hA, e3, e4, e5, hw, e1, e2]
                exact ⟨hall, grp_s hi hP.2 q1 q2⟩
          · have k1 : (xs[j + 1].account == xs[j].account) = false := beq_false_of_ne ha
            have e1 : sumQ (runL xs (j + 1 + 1)) = xs[j + 1].qty := by rw [run_diff hi hall (fun q => ha q.1)]; simp [sumQ]
            have e2 : sumC (runL xs (j + 1 + 1)) = xs[j + 1].cost := by rw [run_diff hi hall (fun q => ha q.1)]; simp [sumC]
            (try simp only [go_sem, hA, e3, e4, e5, hil, hg0, g1, g2, g3, hgj, hp, hlt, k1, w3, w4]); repeat' (first | (with_reducible first | refine c_split ?_ ?_ | refine w_split ?_ ?_ | refine tw_split ?_ ?_) <;> intro hb <;> try simp only [go_sem, hb, hA, e3, e4, e5, hil, hg0, g1, g2, g3, hgj, hp, hlt, k1, w3, w4] | (first | with_reducible refine d57_0_LBooks5 (by with_unfolding_all rfl) (by kernel_rfl) ?_ | with_reducible refine d57_1_LBooks5 (by with_unfolding_all rfl) (by kernel_rfl) ?_ | refine call_c (c_l5Right _ _ ?_) | refine call_c (c_l5Before _ _ _ ?_) | refine call_c (c_spec_AmountOk _ _ ?_) | fail) <;> try simp only [go_sem, hA, e3, e4, e5, hil, hg0, g1, g2, g3, hgj, hp, hlt, k1, w3, w4] | with_reducible refine hQ _ _ ?_ <;> simp only [Tryz.f57, go_sem, hA, e3, e4, e5, hil, hg0, g1, g2, g3, hgj, hp, hlt, k1, w3, w4])
            · exact bad fun q => by rw [e1] at q; rw [q.1] at hb; cases hb
            · rename_i hb1
              exact bad fun q => by rw [e2] at q; rw [q.2] at hb; cases hb
            · rename_i hb1
              have q1 : amtOk (sumQ (runL xs (j + 1 + 1))) = true := by rw [e1]; simpa using hb1
              have q2 : amtOk (sumC (runL xs (j + 1 + 1))) = true := by rw [e2]; simpa using hb
              refine gc_trim 0 (by decide) (by simp only [go_sem]) (by simp only [go_sem]) (hJ _ _ hi (by simp only [go_sem, hA, e3, e4, e5]) ⟨?_, ?_, ?_, ?_, ?_⟩) <;> try simp only [go_sem, hA, e3, e4, e5, hw, e1, e2]
              exact ⟨hall, grp_s hi hP.2 q1 q2⟩
      | false =>
        rw [lotsOk, okL_no hr hi, Bool.false_and] at hk
        rcases i with _ | j
        · have g0 : decide ((0 : Int) < ((0 : Nat) : Int)) = false := by decide
          rw [rowG_0 hi] at hr
          (try simp only [go_sem, hA, e3, e4, e5, hil, hg0, g0, hr]); repeat' (first | (with_reducible first | refine c_split ?_ ?_ | refine w_split ?_ ?_ | refine tw_split ?_ ?_) <;> intro hb <;> try simp only [go_sem, hb, hA, e3, e4, e5, hil, hg0, g0, hr] | (first | with_reducible refine d57_0_LBooks5 (by with_unfolding_all rfl) (by kernel_rfl) ?_ | with_reducible refine d57_1_LBooks5 (by with_unfolding_all rfl) (by kernel_rfl) ?_ | refine call_c (c_l5Right _ _ ?_) | refine call_c (c_l5Before _ _ _ ?_) | fail) <;> try simp only [go_sem, hA, e3, e4, e5, hil, hg0, g0, hr] | with_reducible refine hQ _ _ ?_ <;> simp only [Tryz.f57, go_sem, hA, e3, e4, e5, hil, hg0, g0, hr])
          exact hk
        · have hj : j < xs.length := by omega
          have hgj : xs[j]? = some xs[j] := List.getElem?_eq_getElem hj
          have g1 : decide ((0 : Int) < ((j + 1 : Nat) : Int)) = true := decide_eq_true (by omega)
          have g2 : wrap64 (((j + 1 : Nat) : Int) - 1) = (j : Int) := by unfold wrap64; omega
          rw [rowG_s hi] at hr
          cases hp : lotP xs[j + 1] with
          | false =>
            (try simp only [go_sem, hA, e3, e4, e5, hil, hg0, g1, g2, hgj, hp]); repeat' (first | (with_reducible first | refine c_split ?_ ?_ | refine w_split ?_ ?_ | refine tw_split ?_ ?_) <;> intro hb <;> try simp only [go_sem, hb, hA, e3, e4, e5, hil, hg0, g1, g2, hgj, hp] | (first | with_reducible refine d57_0_LBooks5 (by with_unfolding_all rfl) (by kernel_rfl) ?_ | with_reducible refine d57_1_LBooks5 (by with_unfolding_all rfl) (by kernel_rfl) ?_ | refine call_c (c_l5Right _ _ ?_) | refine call_c (c_l5Before _ _ _ ?_) | fail) <;> try simp only [go_sem, hA, e3, e4, e5, hil, hg0, g1, g2, hgj, hp] | with_reducible refine hQ _ _ ?_ <;> simp only [Tryz.f57, go_sem, hA, e3, e4, e5, hil, hg0, g1, g2, hgj, hp])
            exact hk
          | true =>
            rw [hp, Bool.true_and] at hr
            (try simp only [go_sem, hA, e3, e4, e5, hil, hg0, g1, g2, hgj, hp, hr]); repeat' (first | (with_reducible first | refine c_split ?_ ?_ | refine w_split ?_ ?_ | refine tw_split ?_ ?_) <;> intro hb <;> try simp only [go_sem, hb, hA, e3, e4, e5, hil, hg0, g1, g2, hgj, hp, hr] | (first | with_reducible refine d57_0_LBooks5 (by with_unfolding_all rfl) (by kernel_rfl) ?_ | with_reducible refine d57_1_LBooks5 (by with_unfolding_all rfl) (by kernel_rfl) ?_ | refine call_c (c_l5Right _ _ ?_) | refine call_c (c_l5Before _ _ _ ?_) | fail) <;> try simp only [go_sem, hA, e3, e4, e5, hil, hg0, g1, g2, hgj, hp, hr] | with_reducible refine hQ _ _ ?_ <;> simp only [Tryz.f57, go_sem, hA, e3, e4, e5, hil, hg0, g1, g2, hgj, hp, hr])
            exact hk
end Go.Proofs.YtkndmncgohmjmaaGreatDoor
end
section
namespace Go.Proofs.YtkndmncgohmjmaaGreatDoor
open Go.BL Go.RowKit
set_option linter.unusedVariables false
set_option linter.unusedSimpArgs false
set_option maxRecDepth 100000
attribute [local go_sem] accountC balC lotC tradeC booksC
def brP (b : Books) (x : Bal) : Bool := !(kindOf b.accounts x.account == 0) && !(kindOf b.instrs x.instr == 0) && !((kindOf b.accounts x.account == 1) && decide (x.amount < 0)) && (sumB b.bals x.instr == 0)
def lrP (b : Books) (x : Lot) : Bool := (kindOf b.accounts x.account == 1) && (kindOf b.instrs x.instr == 2) && !decide (b.lot < x.no)
def pairP (b : Books) (a x : Account) : Bool := !((a.kind == 1) && (x.kind == 2)) || (sumQ (ownL b.lots a.no x.no) == balV b.bals a.no x.no)
def trdP (b : Books) (t : Trade) : Bool := (kindOf b.accounts t.buyer == 1) && (kindOf b.accounts t.seller == 1) && (kindOf b.instrs t.paper == 2) && (kindOf b.instrs t.cash == 1)
def lotsR (b : Books) : Bool := b.lots.all (lrP b) && b.accounts.all fun a => b.instrs.all (pairP b a)
def listsOk (b : Books) : Bool := accountsOk b.accounts && instrsOk b.instrs && balsOk b.bals && lotsOk b.lots && tradesOk b.trades && decide (0 ≤ b.lot ∧ b.lot ≤ 1000000000)
def booksOk (b : Books) : Bool := listsOk b && b.bals.all (brP b) && lotsR b && b.trades.all (trdP b)
structure Small (b : Books) : Prop where
  ha : b.accounts.length ≤ 1000000000
  hi : b.instrs.length ≤ 1000000000
  hb : b.bals.length ≤ 1000000000
  hl : b.lots.length ≤ 1000000000
  ht : b.trades.length ≤ 1000000000
structure Large (b : Books) : Prop where
  ha : b.accounts.length ≤ 1000000000000000
  hi : b.instrs.length ≤ 1000000000000000
  hb : b.bals.length ≤ 1000000000000000
  hl : b.lots.length ≤ 1000000000000000
  ht : b.trades.length ≤ 1000000000000000
theorem all_no {α : Type} {p : α → Bool} {xs : List α} (h : noneTo (fun x => !p x) xs xs.length) : xs.all p = true := by
  rw [List.all_eq_true]
  intro x hx
  obtain ⟨i, hi, rfl⟩ := List.mem_iff_getElem.1 hx
  simpa using h i hi hi
theorem all_bad {α : Type} {p : α → Bool} {xs : List α} {i : Nat} (hi : i < xs.length) (h : p xs[i] = false) : xs.all p = false := by
  cases ha : xs.all p with
  | false => rfl
  | true => rw [(List.all_eq_true.1 ha) _ (List.getElem_mem hi)] at h; cases h
theorem not_ff {b : Bool} (h : b = true) : (!b) = false := by rw [h]; rfl
theorem c_balsRight (b : Books) (hs : Small b) (hok : balsOk b.bals = true) (K : AV → AH → Prop) (hk : K (.one (.c (.bool (b.bals.all (brP b))))) []) : ACalls Tryz.prog 69 [.agg (booksC b)] [] K := by
  have hsb := hs.hb
  refine acall_c Tryz.f69.results.toList mixed Tryz.func69 rfl rfl (by kernel_rfl) ?_
  intro Q hQ hQO
  simp only [go_sem]
  refine for_at (b.bals.length) [1, 7, 8] (fun i f h => f 9 = (.one (.c (.int .i64 (i)))) ∧ h = [.own 0 37 6 (some 1) [booksC b]] ∧ noneTo (fun x => !brP b x) b.bals i) (GC.now ?_) ?_
  · simp only [go_sem, nc_0, true_and]
    exact noneTo_0 _ _
  · rintro i f h J hi hA ⟨e9, rfl, hP⟩ hJ
    simp only [go_sem] at hA
    simp only [go_sem, hA, e9]
    refine c_split (fun hb => ?_) (fun hb => ?_)
    rotate_left
    · simp only [go_sem, hb, hA, e9]
      obtain rfl := ge_len hb hi
      (try simp only [go_sem, hA, e9]); repeat' (first | (with_reducible first | refine c_split ?_ ?_ | refine w_split ?_ ?_) <;> intro hb <;> try simp only [go_sem, hb, hA, e9] | with_reducible refine hQ _ _ ?_ <;> simp only [Tryz.f69, go_sem, hA, e9])
      rw [all_no hP] at hk
      exact hk
    have hi := lt_len hb
    have hw := wrap_nat i (by omega)
    have hil : (i : Int) < ((b.bals.length : Nat) : Int) := Int.ofNat_lt.2 hi
    have hg0 : (b.bals)[i]? = some ((b.bals)[i]) := List.getElem?_eq_getElem (by omega)
    simp only [go_sem, hb, hA, e9, hg0]
    try simp only [go_sem, hA, e9, hil, hg0]
    cases hr : brP b b.bals[i] with
    | true =>
      have hbr := hr
      simp only [brP, Bool.and_eq_true] at hr
      obtain ⟨⟨⟨f1, f2⟩, f3⟩, f4⟩ := hr
      have f1 := not_tt f1
      have f2 := not_tt f2
      have f3 := not_tt f3
      cases h1 : (kindOf b.accounts b.bals[i].account == 1) with
      | true =>
        rw [h1, Bool.true_and] at f3
        (try simp only [go_sem, hA, e9, hil, hg0, f1, f2, f3, f4, h1]); repeat' (first | (with_reducible first | refine c_split ?_ ?_ | refine w_split ?_ ?_) <;> intro hb <;> try simp only [go_sem, hb, hA, e9, hil, hg0, f1, f2, f3, f4, h1] | (first | refine call_c (c_accountKind _ _ hs.ha _ ?_) | refine call_c (c_instrKind _ _ hs.hi _ ?_) | refine call_c (c_balsSum _ _ hs.hb hok _ ?_) | fail) <;> try simp only [go_sem, hA, e9, hil, hg0, f1, f2, f3, f4, h1] | fail)
        refine gc_trim 1 (by decide) (by simp only [go_sem]) (by simp only [go_sem]) (hJ _ _ hi (by simp only [go_sem, hA, e9]) ⟨?_, ?_, ?_⟩) <;> try simp only [go_sem, hA, e9, hw]
        exact noneTo_s hP hi (not_ff hbr)
      | false =>
        (try simp only [go_sem, hA, e9, hil, hg0, f1, f2, f4, h1]); repeat' (first | (with_reducible first | refine c_split ?_ ?_ | refine w_split ?_ ?_) <;> intro hb <;> try simp only [go_sem, hb, hA, e9, hil, hg0, f1, f2, f4, h1] | (first | refine call_c (c_accountKind _ _ hs.ha _ ?_) | refine call_c (c_instrKind _ _ hs.hi _ ?_) | refine call_c (c_balsSum _ _ hs.hb hok _ ?_) | fail) <;> try simp only [go_sem, hA, e9, hil, hg0, f1, f2, f4, h1] | fail)
        refine gc_trim 1 (by decide) (by simp only [go_sem]) (by simp only [go_sem]) (hJ _ _ hi (by simp only [go_sem, hA, e9]) ⟨?_, ?_, ?_⟩) <;> try simp only [go_sem, hA, e9, hw]
        exact noneTo_s hP hi (not_ff hbr)
    | false =>
      rw [all_bad hi hr] at hk
      (try simp only [go_sem, hA, e9, hil, hg0]); repeat' (first | (with_reducible first | refine c_split ?_ ?_ | refine w_split ?_ ?_) <;> intro hb <;> try simp only [go_sem, hb, hA, e9, hil, hg0] | (first | refine call_c (c_accountKind _ _ hs.ha _ ?_) | refine call_c (c_instrKind _ _ hs.hi _ ?_) | refine call_c (c_balsSum _ _ hs.hb hok _ ?_) | fail) <;> try simp only [go_sem, hA, e9, hil, hg0] | with_reducible refine hQ _ _ ?_ <;> simp only [Tryz.f69, go_sem, hA, e9, hil, hg0])
      all_goals first | exact hk | exact (Bool.eq_false_iff.1 hr (by clear hr hJ hA hQ hQO; simp only [brP]; simp_all <;> omega)).elim
theorem c_l6Bals (b : Books) (hs : Small b) (ha : accountsOk b.accounts = true) (hi0 : instrsOk b.instrs = true) (hok : balsOk b.bals = true) (K : AV → AH → Prop) (hk : K (.one (.c (.bool (b.bals.all (brP b))))) []) : ACalls Tryz.prog 60 [.agg (booksC b)] [] K := by
  have hsb := hs.hb
  refine acall_c Tryz.f60.results.toList mixed Tryz.func60 rfl rfl (by kernel_rfl) ?_
  intro Q hQ hQO
  simp only [go_sem]
  refine for_at (b.bals.length) [1] (fun i f h => f 3 = (.one (.c (.int .i64 (i)))) ∧ h = [.own 0 37 6 (some 1) [booksC b]] ∧ noneTo (fun x => !brP b x) b.bals i) (GC.now ?_) ?_
  · simp only [go_sem, nc_0, true_and]
    exact noneTo_0 _ _
  · rintro i f h J hi hA ⟨e3, rfl, hP⟩ hJ
    simp only [go_sem] at hA
    simp only [go_sem, hA, e3]
    refine c_split (fun hb => ?_) (fun hb => ?_)
    rotate_left
    · simp only [go_sem, hb, hA, e3]
      obtain rfl := ge_len hb hi
      (try simp only [go_sem, hA, e3]); repeat' (first | (with_reducible first | refine c_split ?_ ?_ | refine w_split ?_ ?_) <;> intro hb <;> try simp only [go_sem, hb, hA, e3] | with_reducible refine hQ _ _ ?_ <;> simp only [Tryz.f60, go_sem, hA, e3])
      rw [all_no hP] at hk
      exact hk
    have hi := lt_len hb
    have hw := wrap_nat i (by omega)
    have hil : (i : Int) < ((b.bals.length : Nat) : Int) := Int.ofNat_lt.2 hi
    have hg0 : (b.bals)[i]? = some ((b.bals)[i]) := List.getElem?_eq_getElem (by omega)
    simp only [go_sem, hb, hA, e3, hg0]
    try simp only [go_sem, hA, e3, hil, hg0]
    have hsum : ∀ s : Int, amtOk s = false → s ≠ 0 := fun s h q => by subst q; simp [amtOk] at h
    cases hr : brP b b.bals[i] with
    | true =>
      have hbr := hr
      simp only [brP, Bool.and_eq_true] at hr
      obtain ⟨⟨⟨f1, f2⟩, f3⟩, f4⟩ := hr
      have f1 := not_tt f1
      have f2 := not_tt f2
      have f3 := not_tt f3
      have f5 : sumB b.bals b.bals[i].instr = 0 := eq_of_beq f4
      have f6 : amtOk 0 = true := rfl
      cases h1 : (kindOf b.accounts b.bals[i].account == 1) with
      | true =>
        rw [h1, Bool.true_and] at f3
        (try simp only [go_sem, hA, e3, hil, hg0, f1, f2, f3, f5, f6, h1, if_true, BEq.rfl]); repeat' (first | (with_reducible first | refine c_split ?_ ?_ | refine w_split ?_ ?_) <;> intro hb <;> try simp only [go_sem, hb, hA, e3, hil, hg0, f1, f2, f3, f5, f6, h1, if_true, BEq.rfl] | (first | refine call_c (c_AccountKind _ _ hs.ha ha _ ?_) | refine call_c (c_InstrKind _ _ hs.hi hi0 _ ?_) | refine call_c (c_BalsSum _ _ hs.hb hok _ ?_) | fail) <;> try simp only [go_sem, hA, e3, hil, hg0, f1, f2, f3, f5, f6, h1, if_true, BEq.rfl] | fail)
        refine gc_trim 1 (by decide) (by simp only [go_sem]) (by simp only [go_sem]) (hJ _ _ hi (by simp only [go_sem, hA, e3]) ⟨?_, ?_, ?_⟩) <;> try simp only [go_sem, hA, e3, hw]
        exact noneTo_s hP hi (not_ff hbr)
      | false =>
        (try simp only [go_sem, hA, e3, hil, hg0, f1, f2, f5, f6, h1, if_true, BEq.rfl]); repeat' (first | (with_reducible first | refine c_split ?_ ?_ | refine w_split ?_ ?_) <;> intro hb <;> try simp only [go_sem, hb, hA, e3, hil, hg0, f1, f2, f5, f6, h1, if_true, BEq.rfl] | (first | refine call_c (c_AccountKind _ _ hs.ha ha _ ?_) | refine call_c (c_InstrKind _ _ hs.hi hi0 _ ?_) | refine call_c (c_BalsSum _ _ hs.hb hok _ ?_) | fail) <;> try simp only [go_sem, hA, e3, hil, hg0, f1, f2, f5, f6, h1, if_true, BEq.rfl] | fail)
        refine gc_trim 1 (by decide) (by simp only [go_sem]) (by simp only [go_sem]) (hJ _ _ hi (by simp only [go_sem, hA, e3]) ⟨?_, ?_, ?_⟩) <;> try simp only [go_sem, hA, e3, hw]
        exact noneTo_s hP hi (not_ff hbr)
    | false =>
      rw [all_bad hi hr] at hk
      (try simp only [go_sem, hA, e3, hil, hg0]); repeat' (first | (with_reducible first | refine c_split ?_ ?_ | refine w_split ?_ ?_) <;> intro hb <;> try simp only [go_sem, hb, hA, e3, hil, hg0] | (first | refine call_c (c_AccountKind _ _ hs.ha ha _ ?_) | refine call_c (c_InstrKind _ _ hs.hi hi0 _ ?_) | refine call_c (c_BalsSum _ _ hs.hb hok _ ?_) | fail) <;> try simp only [go_sem, hA, e3, hil, hg0] | with_reducible refine hQ _ _ ?_ <;> simp only [Tryz.f60, go_sem, hA, e3, hil, hg0])
      all_goals first | exact hk | exact (Bool.eq_false_iff.1 hr (by clear hr hJ hA hQ hQO; simp only [brP]; simp_all <;> omega)).elim
end Go.Proofs.YtkndmncgohmjmaaGreatDoor
end
section
namespace Go.Proofs.YtkndmncgohmjmaaGreatDoor
open Go.BL Go.RowKit
set_option linter.unusedVariables false
set_option linter.unusedSimpArgs false
set_option maxRecDepth 100000
theorem d61_0_LBooks7 : DrawL Tryz.prog 0 73 (.on [(0, true, true), (1, true, true), (2, true, false), (3, true, false), (4, true, false), (5, true, false), (6, true, false), (7, true, false), (8, true, false), (9, true, false), (10, false, false), (11, false, false), (12, false, false), (13, false, false), (14, false, false), (15, false, false), (16, true, false), (17, true, false), (18, false, true), (19, false, true)] .nil) := draw_L
theorem d61_1_LBooks7 : DrawL Tryz.prog 0 90 (.on [(0, true, true), (2, true, true), (3, true, true), (4, true, false), (5, true, false), (6, true, false), (7, true, false), (8, true, false), (9, true, false), (10, true, false), (11, true, false), (12, true, false), (13, true, false), (14, true, false), (15, true, false), (1, false, false), (16, false, false), (17, false, false)] .nil) := draw_L
attribute [local go_sem] accountC balC lotC tradeC booksC
theorem c_lotsRight (b : Books) (hs : Small b) (hok : balsOk b.bals = true) (hf : Fine b.lots) (K : AV → AH → Prop) (hk : K (.one (.c (.bool (lotsR b)))) []) : ACalls Tryz.prog 70 [.agg (booksC b)] [] K := by
  have hsl := hs.hl
  have hsa := hs.ha
  have hsi := hs.hi
  refine acall_c Tryz.f70.results.toList mixed Tryz.func70 rfl rfl (by kernel_rfl) ?_
  intro Q hQ hQO
  simp only [go_sem]
  refine for_at (b.lots.length) [1, 12, 13] (fun i f h => f 14 = (.one (.c (.int .i64 (i)))) ∧ h = [.own 0 37 6 (some 1) [booksC b]] ∧ noneTo (fun x => !lrP b x) b.lots i) (GC.now ?_) ?_
  · simp only [go_sem, nc_0, true_and]
    exact noneTo_0 _ _
  · rintro i f h J hi hA ⟨e14, rfl, hP⟩ hJ
    simp only [go_sem] at hA
    simp only [go_sem, hA, e14]
    refine c_split (fun hb => ?_) (fun hb => ?_)
    rotate_left
    · simp only [go_sem, hb, hA, e14]
      obtain rfl := ge_len hb hi
      rw [lotsR, all_no hP, Bool.true_and] at hk
      (try simp only [go_sem, hA, e14]); repeat' (first | (with_reducible first | refine c_split ?_ ?_ | refine w_split ?_ ?_) <;> intro hb <;> try simp only [go_sem, hb, hA, e14] | fail)
      have hA0 := hA
      clear hJ
      refine for_at (b.accounts.length) [1, 41, 42] (fun i f h => f 43 = (.one (.c (.int .i64 (i)))) ∧ h = [.own 0 37 6 (some 1) [booksC b]] ∧ noneTo (fun a => !b.instrs.all (pairP b a)) b.accounts i) (GC.now ?_) ?_
      · simp only [go_sem, nc_0, true_and, hA0]
        exact noneTo_0 _ _
      · rintro i f h J hi hA ⟨e43, rfl, hP⟩ hJ
        simp only [go_sem, hA0] at hA
        simp only [go_sem, hA, e43, hA0]
        refine c_split (fun hb => ?_) (fun hb => ?_)
        rotate_left
        · simp only [go_sem, hb, hA, e43, hA0]
          obtain rfl := ge_len hb hi
          (try simp only [go_sem, hA, e43, hA0]); repeat' (first | (with_reducible first | refine c_split ?_ ?_ | refine w_split ?_ ?_) <;> intro hb <;> try simp only [go_sem, hb, hA, e43, hA0] | with_reducible refine hQ _ _ ?_ <;> simp only [Tryz.f70, go_sem, hA, e43, hA0])
          rw [all_no hP] at hk
          exact hk
        have hi := lt_len hb
        have hw := wrap_nat i (by omega)
        have hil : (i : Int) < ((b.accounts.length : Nat) : Int) := Int.ofNat_lt.2 hi
        have hg0 : (b.accounts)[i]? = some ((b.accounts)[i]) := List.getElem?_eq_getElem (by omega)
        simp only [go_sem, hb, hA, e43, hA0, hg0]
        try simp only [go_sem, hA, e43, hA0, hil, hg0]
        (try simp only [go_sem, hA, e43, hA0, hil, hg0]); repeat' (first | (with_reducible first | refine c_split ?_ ?_ | refine w_split ?_ ?_) <;> intro hb <;> try simp only [go_sem, hb, hA, e43, hA0, hil, hg0] | fail)
        have hA1 := hA
        have hP1 := hP
        have hi1 := hi
        have hw1 := hw
        have hJ1 := hJ
        generalize hac : b.accounts[i] = ac at *
        refine for_at (b.instrs.length) [1, 6, 41, 42, 43, 48, 49] (fun i f h => f 50 = (.one (.c (.int .i64 (i)))) ∧ h = [.own 0 37 6 (some 1) [booksC b], .own 0 76 2 (some 1) [accountC ac]] ∧ noneTo (fun x => !pairP b ac x) b.instrs i) (GC.now ?_) ?_
        · simp only [go_sem, nc_0, true_and, hA1, e43]
          exact noneTo_0 _ _
        · rintro i f h J hi hA ⟨e50, rfl, hP⟩ hJ
          simp only [go_sem, hA1, e43] at hA
          simp only [go_sem, hA, e50, hA1, e43]
          refine c_split (fun hb => ?_) (fun hb => ?_)
          rotate_left
          · simp only [go_sem, hb, hA, e50, hA1, e43]
            obtain rfl := ge_len hb hi
            refine gc_trim 1 (by decide) (by simp only [go_sem]) (by simp only [go_sem]) (hJ1 _ _ hi1 (by simp only [go_sem, hA, hA1, hA0, e43]) ⟨?_, ?_, ?_⟩) <;> try simp only [go_sem, hA, hA1, hA0, e43, hw1]
            exact noneTo_s hP1 hi1 (by rw [hac]; exact not_ff (all_no hP))
          have hi := lt_len hb
          have hw := wrap_nat i (by omega)
          have hil : (i : Int) < ((b.instrs.length : Nat) : Int) := Int.ofNat_lt.2 hi
          have hg0 : (b.instrs)[i]? = some ((b.instrs)[i]) := List.getElem?_eq_getElem (by omega)
          simp only [go_sem, hb, hA, e50, hA1, e43, hg0]
          try simp only [go_sem, hA, e50, hA1, e43, hil, hg0]
          cases k1 : (ac.kind == 1) with
          | false =>
            (try simp only [go_sem, hA, e50, hA1, e43, hil, hg0, k1]); repeat' (first | (with_reducible first | refine c_split ?_ ?_ | refine w_split ?_ ?_) <;> intro hb <;> try simp only [go_sem, hb, hA, e50, hA1, e43, hil, hg0, k1] | fail)
            refine gc_trim 2 (by decide) (by simp only [go_sem]) (by simp only [go_sem]) (hJ _ _ hi (by simp only [go_sem, hA, e50, hA1, e43]) ⟨?_, ?_, ?_⟩) <;> try simp only [go_sem, hA, e50, hA1, e43, hw]
            exact noneTo_s hP hi (by rw [pairP, k1]; rfl)
          | true =>
            cases k2 : (b.instrs[i].kind == 2) with
            | false =>
              (try simp only [go_sem, hA, e50, hA1, e43, hil, hg0, k1, k2]); repeat' (first | (with_reducible first | refine c_split ?_ ?_ | refine w_split ?_ ?_) <;> intro hb <;> try simp only [go_sem, hb, hA, e50, hA1, e43, hil, hg0, k1, k2] | fail)
              refine gc_trim 2 (by decide) (by simp only [go_sem]) (by simp only [go_sem]) (hJ _ _ hi (by simp only [go_sem, hA, e50, hA1, e43]) ⟨?_, ?_, ?_⟩) <;> try simp only [go_sem, hA, e50, hA1, e43, hw]
              exact noneTo_s hP hi (by rw [pairP, k1, k2]; rfl)
            | true =>
              cases k3 : (sumQ (ownL b.lots ac.no b.instrs[i].no) == balV b.bals ac.no b.instrs[i].no) with
              | true =>
                (try simp only [go_sem, hA, e50, hA1, e43, hil, hg0, k1, k2, k3]); repeat' (first | (with_reducible first | refine c_split ?_ ?_ | refine w_split ?_ ?_) <;> intro hb <;> try simp only [go_sem, hb, hA, e50, hA1, e43, hil, hg0, k1, k2, k3] | (first | refine call_c (c_lotsOf b.lots _ _ hsl _ ?_) | refine call_c (c_sumLots _ (hf.own _ _) _ ?_) | refine call_c (c_balOf b.bals _ _ hs.hb hok _ ?_) | fail) <;> try simp only [go_sem, hA, e50, hA1, e43, hil, hg0, k1, k2, k3] | fail)
                refine gc_trim 2 (by decide) (by simp only [go_sem]) (by simp only [go_sem]) (hJ _ _ hi (by simp only [go_sem, hA, e50, hA1, e43]) ⟨?_, ?_, ?_⟩) <;> try simp only [go_sem, hA, e50, hA1, e43, hw]
                exact noneTo_s hP hi (by rw [pairP, k1, k2, k3]; rfl)
              | false =>
                rw [all_bad hi1 (by rw [hac]; exact all_bad hi (by rw [pairP, k1, k2, k3]; rfl))] at hk
                (try simp only [go_sem, hA, e50, hA1, e43, hil, hg0, k1, k2, k3]); repeat' (first | (with_reducible first | refine c_split ?_ ?_ | refine w_split ?_ ?_) <;> intro hb <;> try simp only [go_sem, hb, hA, e50, hA1, e43, hil, hg0, k1, k2, k3] | (first | refine call_c (c_lotsOf b.lots _ _ hsl _ ?_) | refine call_c (c_sumLots _ (hf.own _ _) _ ?_) | refine call_c (c_balOf b.bals _ _ hs.hb hok _ ?_) | fail) <;> try simp only [go_sem, hA, e50, hA1, e43, hil, hg0, k1, k2, k3] | with_reducible refine hQ _ _ ?_ <;> simp only [Tryz.f70, go_sem, hA, e50, hA1, e43, hil, hg0, k1, k2, k3])
                exact hk
    have hi := lt_len hb
    have hw := wrap_nat i (by omega)
    have hil : (i : Int) < ((b.lots.length : Nat) : Int) := Int.ofNat_lt.2 hi
    have hg0 : (b.lots)[i]? = some ((b.lots)[i]) := List.getElem?_eq_getElem (by omega)
    simp only [go_sem, hb, hA, e14, hg0]
    try simp only [go_sem, hA, e14, hil, hg0]
    cases hr : lrP b b.lots[i] with
    | true =>
      have hlr := hr
      simp only [lrP, Bool.and_eq_true] at hr
      obtain ⟨⟨f1, f2⟩, f3⟩ := hr
      have f3 := not_tt f3
      (try simp only [go_sem, hA, e14, hil, hg0, f1, f2, f3]); repeat' (first | (with_reducible first | refine c_split ?_ ?_ | refine w_split ?_ ?_) <;> intro hb <;> try simp only [go_sem, hb, hA, e14, hil, hg0, f1, f2, f3] | (first | refine call_c (c_accountKind _ _ hs.ha _ ?_) | refine call_c (c_instrKind _ _ hs.hi _ ?_) | fail) <;> try simp only [go_sem, hA, e14, hil, hg0, f1, f2, f3] | fail)
      refine gc_trim 1 (by decide) (by simp only [go_sem]) (by simp only [go_sem]) (hJ _ _ hi (by simp only [go_sem, hA, e14]) ⟨?_, ?_, ?_⟩) <;> try simp only [go_sem, hA, e14, hw]
      exact noneTo_s hP hi (not_ff hlr)
    | false =>
      rw [lotsR, all_bad hi hr, Bool.false_and] at hk
      (try simp only [go_sem, hA, e14, hil, hg0]); repeat' (first | (with_reducible first | refine c_split ?_ ?_ | refine w_split ?_ ?_) <;> intro hb <;> try simp only [go_sem, hb, hA, e14, hil, hg0] | (first | refine call_c (c_accountKind _ _ hs.ha _ ?_) | refine call_c (c_instrKind _ _ hs.hi _ ?_) | fail) <;> try simp only [go_sem, hA, e14, hil, hg0] | with_reducible refine hQ _ _ ?_ <;> simp only [Tryz.f70, go_sem, hA, e14, hil, hg0])
      all_goals first | exact hk | exact (Bool.eq_false_iff.1 hr (by clear hr hJ hA hQ hQO; simp only [lrP]; simp_all <;> omega)).elim
def restL (xs : List Lot) (a n : Int) : List Lot := xs.filter fun x => !lotIs a n x
theorem rest_s (xs : List Lot) (i : Nat) (hi : i < xs.length) (a n : Int) : restL (xs.take (i + 1)) a n = restL (xs.take i) a n ++ (if lotIs a n xs[i] = true then [] else [xs[i]]) := by
  rw [restL, restL, List.take_succ_eq_append_getElem hi, List.filter_append]
  cases h : lotIs a n xs[i] <;> simp [h]
theorem c_l5Split (xs : List Lot) (a n : Int) (hn : xs.length ≤ 1000000000) (K : AV → AH → Prop) (hk : K (.tup [(.one (.im ((ownL xs a n).map lotC))), (.one (.im ((restL xs a n).map lotC)))]) []) : ACalls Tryz.prog 32 [(.one (.im (xs.map lotC))), (.one (.c (.int .i64 (a)))), (.one (.c (.int .i64 (n))))] [] K := by
  refine acall_c Tryz.f32.results.toList mixed Tryz.func32 rfl rfl (by kernel_rfl) ?_
  intro Q hQ hQO
  simp only [go_sem]
  (try simp only [go_sem]); repeat' (first | (with_reducible first | refine c_split ?_ ?_ | refine w_split ?_ ?_) <;> intro hb <;> try simp only [go_sem, hb] | fail)
  refine while_at (α := Nat × Nat × Option Nat × Nat × Option Nat) (fun ⟨j, g1, c1, g2, c2⟩ => xs.length - j) [0, 1, 2] (fun ⟨j, g1, c1, g2, c2⟩ f h => f 8 = .one (.sl 0 g1 0 (ownL (xs.take j) a n).length) ∧ f 9 = .one (.sl 1 g2 0 (restL (xs.take j) a n).length) ∧ f 10 = (.one (.c (.int .i64 ((j : Int))))) ∧ h = [.own g1 85 5 c1 ((ownL (xs.take j) a n).map lotC), .own g2 85 5 c2 ((restL (xs.take j) a n).map lotC)] ∧ j ≤ xs.length) (0, 0, some 0, 0, some 0) (GC.now ?_) ?_
  · simp only [go_sem, nc_0, true_and]
    exact ⟨rfl, rfl, rfl, Nat.zero_le _⟩
  · rintro ⟨j, g1, c1, g2, c2⟩ f h J hA ⟨e8, e9, e10, rfl, hP⟩ hJ
    simp only [go_sem] at hA
    try dsimp only at hJ
    simp only [go_sem, hA, e8, e9, e10]
    by_cases hi : j < xs.length
    · have hd : decide ((j : Int) < (xs.length : Int)) = true := decide_eq_true (Int.ofNat_lt.2 hi)
      have hil : (j : Int) < (xs.length : Int) := Int.ofNat_lt.2 hi
      have hg : xs[j]? = some xs[j] := List.getElem?_eq_getElem hi
      have hw := wrap_nat j (by omega)
      have hdec : xs.length - (j + 1) < xs.length - j := by omega
      have ho := own_s xs j hi a n
      have hr := rest_s xs j hi a n
      have hol : (ownL (xs.take j) a n).length ≤ j := Nat.le_trans (List.length_filter_le _ _) (by rw [List.length_take]; omega)
      have hrl : (restL (xs.take j) a n).length ≤ j := Nat.le_trans (List.length_filter_le _ _) (by rw [List.length_take]; omega)
      cases k1 : (xs[j].account == a) with
      | true =>
        cases k2 : (xs[j].instr == n) with
        | true =>
          have k : lotIs a n xs[j] = true := by rw [lotIs, k1, k2]; rfl
          rw [if_pos k] at ho
          rw [if_pos k, List.append_nil] at hr
          (try simp only [go_sem, hA, e8, e9, e10, hd, hil, hg, k1, k2]); repeat' (first | (with_reducible first | refine c_split ?_ ?_ | refine w_split ?_ ?_) <;> intro hb <;> try simp only [go_sem, hb, hA, e8, e9, e10, hd, hil, hg, k1, k2] | fail)
          refine ap_end rfl (by simp) (by simp; omega) ?_
          (try simp only [go_sem, hA, e8, e9, e10]); repeat' (first | (with_reducible first | refine c_split ?_ ?_ | refine w_split ?_ ?_) <;> intro hb <;> try simp only [go_sem, hb, hA, e8, e9, e10] | fail)
          refine gc_trim 2 (by decide) (by simp only [go_sem]) (by simp only [go_sem, hw, ho, hr]) (hJ (j + 1, g1 + 1, none, g2, c2) _ _ (by exact hdec) (by simp only [go_sem, hA, e8, e9, e10]) ⟨?_, ?_, ?_, ?_, ?_⟩) <;> try simp only [go_sem, hA, e8, e9, e10, hw, ho, hr]
          exact hi
        | false =>
          have k : ¬ lotIs a n xs[j] = true := by rw [lotIs, k1, k2]; decide
          rw [if_neg k, List.append_nil] at ho
          rw [if_neg k] at hr
          (try simp only [go_sem, hA, e8, e9, e10, hd, hil, hg, k1, k2]); repeat' (first | (with_reducible first | refine c_split ?_ ?_ | refine w_split ?_ ?_) <;> intro hb <;> try simp only [go_sem, hb, hA, e8, e9, e10, hd, hil, hg, k1, k2] | fail)
          refine ap_end rfl (by simp) (by simp; omega) ?_
          (try simp only [go_sem, hA, e8, e9, e10]); repeat' (first | (with_reducible first | refine c_split ?_ ?_ | refine w_split ?_ ?_) <;> intro hb <;> try simp only [go_sem, hb, hA, e8, e9, e10] | fail)
          refine gc_trim 2 (by decide) (by simp only [go_sem]) (by simp only [go_sem, hw, ho, hr]) (hJ (j + 1, g1, c1, g2 + 1, none) _ _ (by exact hdec) (by simp only [go_sem, hA, e8, e9, e10]) ⟨?_, ?_, ?_, ?_, ?_⟩) <;> try simp only [go_sem, hA, e8, e9, e10, hw, ho, hr]
          exact hi
      | false =>
        have k : ¬ lotIs a n xs[j] = true := by rw [lotIs, k1]; simp
        rw [if_neg k, List.append_nil] at ho
        rw [if_neg k] at hr
        (try simp only [go_sem, hA, e8, e9, e10, hd, hil, hg, k1]); repeat' (first | (with_reducible first | refine c_split ?_ ?_ | refine w_split ?_ ?_) <;> intro hb <;> try simp only [go_sem, hb, hA, e8, e9, e10, hd, hil, hg, k1] | fail)
        refine ap_end rfl (by simp) (by simp; omega) ?_
        (try simp only [go_sem, hA, e8, e9, e10]); repeat' (first | (with_reducible first | refine c_split ?_ ?_ | refine w_split ?_ ?_) <;> intro hb <;> try simp only [go_sem, hb, hA, e8, e9, e10] | fail)
        refine gc_trim 2 (by decide) (by simp only [go_sem]) (by simp only [go_sem, hw, ho, hr]) (hJ (j + 1, g1, c1, g2 + 1, none) _ _ (by exact hdec) (by simp only [go_sem, hA, e8, e9, e10]) ⟨?_, ?_, ?_, ?_, ?_⟩) <;> try simp only [go_sem, hA, e8, e9, e10, hw, ho, hr]
        exact hi
    · have hd : decide ((j : Int) < (xs.length : Int)) = false := decide_eq_false (fun q => hi (Int.ofNat_lt.1 q))
      have hj : j = xs.length := by omega
      subst hj
      have h1 : List.take (ownL xs a n).length ((ownL xs a n).map lotC) = (ownL xs a n).map lotC := List.take_of_length_le (by simp)
      have h2 : List.take (restL xs a n).length ((restL xs a n).map lotC) = (restL xs a n).map lotC := List.take_of_length_le (by simp)
      (try simp only [go_sem, hA, e8, e9, e10, hd, List.take_length, h1, h2]); repeat' (first | (with_reducible first | refine c_split ?_ ?_ | refine w_split ?_ ?_) <;> intro hb <;> try simp only [go_sem, hb, hA, e8, e9, e10, hd, List.take_length, h1, h2] | with_reducible refine hQ _ _ ?_ <;> simp only [Tryz.f32, go_sem, hA, e8, e9, e10, hd, List.take_length, h1, h2])
      exact hk
theorem c_l5Qty (xs : List Lot) (h : Fine xs) (K : AV → AH → Prop) (hk : K (.one (.c (.int .i64 (sumQ xs)))) []) : ACalls Tryz.prog 84 [(.one (.im (xs.map lotC)))] [] K := by
  have hn : xs.length ≤ 1000000000 := by have := h.2; omega
  refine acall_c Tryz.f84.results.toList mixed Tryz.func84 rfl rfl (by kernel_rfl) ?_
  intro Q hQ hQO
  simp only [go_sem]
  refine for_at (xs.length) [0] (fun i f h => f 3 = (.one (.c (.int .i64 (sumQ (xs.take i))))) ∧ f 4 = (.one (.c (.int .i64 (i)))) ∧ h = []) (GC.now ?_) ?_
  · simp only [go_sem, nc_0, true_and]
    rfl
  · rintro i f h J hi hA ⟨e3, e4, rfl⟩ hJ
    simp only [go_sem] at hA
    simp only [go_sem, hA, e3, e4]
    refine c_split (fun hb => ?_) (fun hb => ?_)
    rotate_left
    · simp only [go_sem, hb, hA, e3, e4]
      obtain rfl := ge_len hb hi
      (try simp only [go_sem, hA, e3, e4, List.take_length]); repeat' (first | (with_reducible first | refine c_split ?_ ?_ | refine w_split ?_ ?_) <;> intro hb <;> try simp only [go_sem, hb, hA, e3, e4, List.take_length] | with_reducible refine hQ _ _ ?_ <;> simp only [Tryz.f84, go_sem, hA, e3, e4, List.take_length])
      exact hk
    have hi := lt_len hb
    have hw := wrap_nat i (by omega)
    have hil : (i : Int) < ((xs.length : Nat) : Int) := Int.ofNat_lt.2 hi
    have hg0 : (xs)[i]? = some ((xs)[i]) := List.getElem?_eq_getElem (by omega)
    simp only [go_sem, hb, hA, e3, e4, hg0]
    try simp only [go_sem, hA, e3, e4, hil, hg0]
    obtain ⟨s1, s2⟩ := sumQ_s xs i hi
    obtain ⟨w1, w2⟩ := sums_w h hi
    (try simp only [go_sem, hA, e3, e4, hil, hg0, w1, w2]); repeat' (first | (with_reducible first | refine c_split ?_ ?_ | refine w_split ?_ ?_) <;> intro hb <;> try simp only [go_sem, hb, hA, e3, e4, hil, hg0, w1, w2] | fail)
    refine gc_trim 0 (by decide) (by simp only [go_sem]) (by simp only [go_sem]) (hJ _ _ hi (by simp only [go_sem, hA, e3, e4]) ⟨?_, ?_, ?_⟩) <;> try simp only [go_sem, hA, e3, e4, hw, s1]
theorem c_l6Lots (b : Books) (hs : Small b) (ha : accountsOk b.accounts = true) (hi0 : instrsOk b.instrs = true) (hf : Fine b.lots) (K : AV → AH → Prop) (hk : K (.one (.c (.bool (lotsR b)))) []) : ACalls Tryz.prog 61 [.agg (booksC b)] [] K := by
  have hsl := hs.hl
  have hsa := hs.ha
  have hsi := hs.hi
  refine acall_c Tryz.f61.results.toList mixed Tryz.func61 rfl rfl (by kernel_rfl) ?_
  intro Q hQ hQO
  simp only [go_sem]
  refine for_at (b.lots.length) [1] (fun i f h => f 3 = (.one (.c (.int .i64 (i)))) ∧ h = [.own 0 37 6 (some 1) [booksC b]] ∧ noneTo (fun x => !lrP b x) b.lots i) (GC.now ?_) ?_
  · simp only [go_sem, nc_0, true_and]
    exact noneTo_0 _ _
  · rintro i f h J hi hA ⟨e3, rfl, hP⟩ hJ
    simp only [go_sem] at hA
    simp only [go_sem, hA, e3]
    refine c_split (fun hb => ?_) (fun hb => ?_)
    rotate_left
    · simp only [go_sem, hb, hA, e3]
      obtain rfl := ge_len hb hi
      rw [lotsR, all_no hP, Bool.true_and] at hk
      (try simp only [go_sem, hA, e3]); repeat' (first | (with_reducible first | refine c_split ?_ ?_ | refine w_split ?_ ?_ | refine tw_split ?_ ?_) <;> intro hb <;> try simp only [go_sem, hb, hA, e3] | (first | with_reducible refine d61_0_LBooks7 (by with_unfolding_all rfl) (by kernel_rfl) ?_ | with_reducible refine d61_1_LBooks7 (by with_unfolding_all rfl) (by kernel_rfl) ?_ | fail) <;> try simp only [go_sem, hA, e3] | fail)
      have hA0 := hA
      clear hJ
      refine for_at (b.accounts.length) [1] (fun i f h => f 5 = (.one (.c (.int .i64 (i)))) ∧ h = [.own 0 37 6 (some 1) [booksC b]] ∧ noneTo (fun a => !b.instrs.all (pairP b a)) b.accounts i) (GC.now ?_) ?_
      · simp only [go_sem, nc_0, true_and, hA0]
        exact noneTo_0 _ _
      · rintro i f h J hi hA ⟨e5, rfl, hP⟩ hJ
        simp only [go_sem, hA0] at hA
        simp only [go_sem, hA, e5, hA0]
        refine c_split (fun hb => ?_) (fun hb => ?_)
        rotate_left
        · simp only [go_sem, hb, hA, e5, hA0]
          obtain rfl := ge_len hb hi
          (try simp only [go_sem, hA, e5, hA0]); repeat' (first | (with_reducible first | refine c_split ?_ ?_ | refine w_split ?_ ?_ | refine tw_split ?_ ?_) <;> intro hb <;> try simp only [go_sem, hb, hA, e5, hA0] | (first | with_reducible refine d61_0_LBooks7 (by with_unfolding_all rfl) (by kernel_rfl) ?_ | with_reducible refine d61_1_LBooks7 (by with_unfolding_all rfl) (by kernel_rfl) ?_ | fail) <;> try simp only [go_sem, hA, e5, hA0] | with_reducible refine hQ _ _ ?_ <;> simp only [Tryz.f61, go_sem, hA, e5, hA0])
          rw [all_no hP] at hk
          exact hk
        have hi := lt_len hb
        have hw := wrap_nat i (by omega)
        have hil : (i : Int) < ((b.accounts.length : Nat) : Int) := Int.ofNat_lt.2 hi
        have hg0 : (b.accounts)[i]? = some ((b.accounts)[i]) := List.getElem?_eq_getElem (by omega)
        simp only [go_sem, hb, hA, e5, hA0, hg0]
        try simp only [go_sem, hA, e5, hA0, hil, hg0]
        (try simp only [go_sem, hA, e5, hA0, hil, hg0]); repeat' (first | (with_reducible first | refine c_split ?_ ?_ | refine w_split ?_ ?_ | refine tw_split ?_ ?_) <;> intro hb <;> try simp only [go_sem, hb, hA, e5, hA0, hil, hg0] | (first | with_reducible refine d61_0_LBooks7 (by with_unfolding_all rfl) (by kernel_rfl) ?_ | with_reducible refine d61_1_LBooks7 (by with_unfolding_all rfl) (by kernel_rfl) ?_ | fail) <;> try simp only [go_sem, hA, e5, hA0, hil, hg0] | fail)
        have hA1 := hA
        have hP1 := hP
        have hi1 := hi
        have hil1 := hil
        have hg1 := hg0
        have hw1 := hw
        have hJ1 := hJ
        have e5a := e5
        generalize hac : b.accounts[i] = ac at *
        refine for_at (b.instrs.length) [1, 5] (fun i f h => f 6 = (.one (.c (.int .i64 (i)))) ∧ h = [.own 0 37 6 (some 1) [booksC b]] ∧ noneTo (fun x => !pairP b ac x) b.instrs i) (GC.now ?_) ?_
        · simp only [go_sem, nc_0, true_and, hA1, e5a]
          exact noneTo_0 _ _
        · rintro i f h J hi hA ⟨e6, rfl, hP⟩ hJ
          simp only [go_sem, hA1, e5a] at hA
          simp only [go_sem, hA, e6, hA1, e5a]
          refine c_split (fun hb => ?_) (fun hb => ?_)
          rotate_left
          · simp only [go_sem, hb, hA, e6, hA1, e5a]
            obtain rfl := ge_len hb hi
            refine GC.now (hJ1 _ _ hi1 (by simp only [go_sem, hA, hA1, hA0, e5a]) ⟨?_, ?_, ?_⟩) <;> try simp only [go_sem, hA, hA1, hA0, e5a, hw1]
            exact noneTo_s hP1 hi1 (by rw [hac]; exact not_ff (all_no hP))
          have hi := lt_len hb
          have hw := wrap_nat i (by omega)
          have hil : (i : Int) < ((b.instrs.length : Nat) : Int) := Int.ofNat_lt.2 hi
          have hg0 : (b.instrs)[i]? = some ((b.instrs)[i]) := List.getElem?_eq_getElem (by omega)
          simp only [go_sem, hb, hA, e6, hA1, e5a, hg0]
          try simp only [go_sem, hA, e6, hA1, e5a, hil, hg0]
          cases k1 : (ac.kind == 1) with
          | false =>
            (try simp only [go_sem, hA, e6, hA1, e5a, hil, hg0, hil1, hg1, k1]); repeat' (first | (with_reducible first | refine c_split ?_ ?_ | refine w_split ?_ ?_ | refine tw_split ?_ ?_) <;> intro hb <;> try simp only [go_sem, hb, hA, e6, hA1, e5a, hil, hg0, hil1, hg1, k1] | (first | with_reducible refine d61_0_LBooks7 (by with_unfolding_all rfl) (by kernel_rfl) ?_ | with_reducible refine d61_1_LBooks7 (by with_unfolding_all rfl) (by kernel_rfl) ?_ | fail) <;> try simp only [go_sem, hA, e6, hA1, e5a, hil, hg0, hil1, hg1, k1] | fail)
            refine gc_trim 1 (by decide) (by simp only [go_sem]) (by simp only [go_sem]) (hJ _ _ hi (by simp only [go_sem, hA, e6, hA1, e5a]) ⟨?_, ?_, ?_⟩) <;> try simp only [go_sem, hA, e6, hA1, e5a, hw]
            exact noneTo_s hP hi (by rw [pairP, k1]; rfl)
          | true =>
            cases k2 : (b.instrs[i].kind == 2) with
            | false =>
              (try simp only [go_sem, hA, e6, hA1, e5a, hil, hg0, hil1, hg1, k1, k2]); repeat' (first | (with_reducible first | refine c_split ?_ ?_ | refine w_split ?_ ?_ | refine tw_split ?_ ?_) <;> intro hb <;> try simp only [go_sem, hb, hA, e6, hA1, e5a, hil, hg0, hil1, hg1, k1, k2] | (first | with_reducible refine d61_0_LBooks7 (by with_unfolding_all rfl) (by kernel_rfl) ?_ | with_reducible refine d61_1_LBooks7 (by with_unfolding_all rfl) (by kernel_rfl) ?_ | fail) <;> try simp only [go_sem, hA, e6, hA1, e5a, hil, hg0, hil1, hg1, k1, k2] | fail)
              refine gc_trim 1 (by decide) (by simp only [go_sem]) (by simp only [go_sem]) (hJ _ _ hi (by simp only [go_sem, hA, e6, hA1, e5a]) ⟨?_, ?_, ?_⟩) <;> try simp only [go_sem, hA, e6, hA1, e5a, hw]
              exact noneTo_s hP hi (by rw [pairP, k1, k2]; rfl)
            | true =>
              cases k3 : (sumQ (ownL b.lots ac.no b.instrs[i].no) == balV b.bals ac.no b.instrs[i].no) with
              | true =>
                (try simp only [go_sem, hA, e6, hA1, e5a, hil, hg0, hil1, hg1, k1, k2, k3]); repeat' (first | (with_reducible first | refine c_split ?_ ?_ | refine w_split ?_ ?_ | refine tw_split ?_ ?_) <;> intro hb <;> try simp only [go_sem, hb, hA, e6, hA1, e5a, hil, hg0, hil1, hg1, k1, k2, k3] | (first | with_reducible refine d61_0_LBooks7 (by with_unfolding_all rfl) (by kernel_rfl) ?_ | with_reducible refine d61_1_LBooks7 (by with_unfolding_all rfl) (by kernel_rfl) ?_ | refine call_c (c_l5Split b.lots _ _ hsl _ ?_) | refine call_c (c_l5Qty _ (hf.own _ _) _ ?_) | refine call_c (c_l4Of b.bals _ _ hs.hb _ ?_) | fail) <;> try simp only [go_sem, hA, e6, hA1, e5a, hil, hg0, hil1, hg1, k1, k2, k3] | fail)
                refine gc_trim 1 (by decide) (by simp only [go_sem]) (by simp only [go_sem]) (hJ _ _ hi (by simp only [go_sem, hA, e6, hA1, e5a]) ⟨?_, ?_, ?_⟩) <;> try simp only [go_sem, hA, e6, hA1, e5a, hw]
                exact noneTo_s hP hi (by rw [pairP, k1, k2, k3]; rfl)
              | false =>
                rw [all_bad hi1 (by rw [hac]; exact all_bad hi (by rw [pairP, k1, k2, k3]; rfl))] at hk
                (try simp only [go_sem, hA, e6, hA1, e5a, hil, hg0, hil1, hg1, k1, k2, k3]); repeat' (first | (with_reducible first | refine c_split ?_ ?_ | refine w_split ?_ ?_ | refine tw_split ?_ ?_) <;> intro hb <;> try simp only [go_sem, hb, hA, e6, hA1, e5a, hil, hg0, hil1, hg1, k1, k2, k3] | (first | with_reducible refine d61_0_LBooks7 (by with_unfolding_all rfl) (by kernel_rfl) ?_ | with_reducible refine d61_1_LBooks7 (by with_unfolding_all rfl) (by kernel_rfl) ?_ | refine call_c (c_l5Split b.lots _ _ hsl _ ?_) | refine call_c (c_l5Qty _ (hf.own _ _) _ ?_) | refine call_c (c_l4Of b.bals _ _ hs.hb _ ?_) | fail) <;> try simp only [go_sem, hA, e6, hA1, e5a, hil, hg0, hil1, hg1, k1, k2, k3] | with_reducible refine hQ _ _ ?_ <;> simp only [Tryz.f61, go_sem, hA, e6, hA1, e5a, hil, hg0, hil1, hg1, k1, k2, k3])
                exact hk
    have hi := lt_len hb
    have hw := wrap_nat i (by omega)
    have hil : (i : Int) < ((b.lots.length : Nat) : Int) := Int.ofNat_lt.2 hi
    have hg0 : (b.lots)[i]? = some ((b.lots)[i]) := List.getElem?_eq_getElem (by omega)
    simp only [go_sem, hb, hA, e3, hg0]
    try simp only [go_sem, hA, e3, hil, hg0]
    cases hr : lrP b b.lots[i] with
    | true =>
      have hlr := hr
      simp only [lrP, Bool.and_eq_true] at hr
      obtain ⟨⟨f1, f2⟩, f3⟩ := hr
      have f3 := not_tt f3
      (try simp only [go_sem, hA, e3, hil, hg0, f1, f2, f3]); repeat' (first | (with_reducible first | refine c_split ?_ ?_ | refine w_split ?_ ?_ | refine tw_split ?_ ?_) <;> intro hb <;> try simp only [go_sem, hb, hA, e3, hil, hg0, f1, f2, f3] | (first | with_reducible refine d61_0_LBooks7 (by with_unfolding_all rfl) (by kernel_rfl) ?_ | with_reducible refine d61_1_LBooks7 (by with_unfolding_all rfl) (by kernel_rfl) ?_ | refine call_c (c_AccountKind _ _ hs.ha ha _ ?_) | refine call_c (c_InstrKind _ _ hs.hi hi0 _ ?_) | fail) <;> try simp only [go_sem, hA, e3, hil, hg0, f1, f2, f3] | fail)
      refine gc_trim 1 (by decide) (by simp only [go_sem]) (by simp only [go_sem]) (hJ _ _ hi (by simp only [go_sem, hA, e3]) ⟨?_, ?_, ?_⟩) <;> try simp only [go_sem, hA, e3, hw]
      exact noneTo_s hP hi (not_ff hlr)
    | false =>
      rw [lotsR, all_bad hi hr, Bool.false_and] at hk
      (try simp only [go_sem, hA, e3, hil, hg0]); repeat' (first | (with_reducible first | refine c_split ?_ ?_ | refine w_split ?_ ?_ | refine tw_split ?_ ?_) <;> intro hb <;> try simp only [go_sem, hb, hA, e3, hil, hg0] | (first | with_reducible refine d61_0_LBooks7 (by with_unfolding_all rfl) (by kernel_rfl) ?_ | with_reducible refine d61_1_LBooks7 (by with_unfolding_all rfl) (by kernel_rfl) ?_ | refine call_c (c_AccountKind _ _ hs.ha ha _ ?_) | refine call_c (c_InstrKind _ _ hs.hi hi0 _ ?_) | fail) <;> try simp only [go_sem, hA, e3, hil, hg0] | with_reducible refine hQ _ _ ?_ <;> simp only [Tryz.f61, go_sem, hA, e3, hil, hg0])
      all_goals first | exact hk | exact (Bool.eq_false_iff.1 hr (by clear hr hJ hA hQ hQO; simp only [lrP]; simp_all <;> omega)).elim
end Go.Proofs.YtkndmncgohmjmaaGreatDoor
end
section
namespace Go.Proofs.YtkndmncgohmjmaaGreatDoor
open Go.BL Go.RowKit
set_option linter.unusedVariables false
set_option linter.unusedSimpArgs false
set_option maxRecDepth 100000
attribute [local go_sem] accountC balC lotC tradeC booksC
theorem c_IndexFuncTrade (fs : List Trade) (g : Nat) (caps : List Nat) (p : Trade → Bool) (h0 : AH) (K : AV → AH → Prop) (hn : fs.length ≤ 1000000000)
    (hp : ∀ i (hi : i < fs.length) (K' : AV → AH → Prop), K' (.one (.c (.bool (p fs[i])))) h0 → callA Tryz.prog g ([.agg (tradeC fs[i])] ++ caps.map fun l => .one (.pt l 0 0 0)) h0 K')
    (hk : K (.one (.c (.int .i64 (findG p fs)))) h0) : ACalls Tryz.prog 107 [(.one (.im (fs.map tradeC))), .one (.clo g caps)] h0 K := by
  refine acall_m Tryz.f107.results.toList mixed Tryz.func107 rfl rfl (by kernel_rfl) ?_
  intro hwf Q hQ
  simp only [go_sem, ca_clos]
  refine for_at (fs.length) [0, 1, 7] (fun i f h => f 8 = (.one (.c (.int .i64 (i)))) ∧ f 7 = (.one (.c (.int .i64 (fs.length)))) ∧ h = h0 ∧ noneTo p fs i) (GC.now ?_) ?_
  · simp only [go_sem, nc_0, true_and, ca_clos]
    exact noneTo_0 p fs
  · rintro i f h J hi hA ⟨e8, e7, rfl, hP⟩ hJ
    simp only [go_sem, ca_clos] at hA
    simp only [go_sem, hA, e8, e7, ca_clos]
    refine c_split (fun hb => ?_) (fun hb => ?_)
    rotate_left
    · simp only [go_sem, hb, hA, e8, e7, ca_clos]
      obtain rfl := ge_len hb hi
      refine hQ (h) _ _ ?_; refine GC.now (ret_m (by simp only [go_sem, Tryz.f107, hA, e8, e7, ca_clos]; exact _root_.id rfl) (by simp only [go_sem]) (by simp) (by first | exact hwf | exact wf_set hwf (by simp only [go_sem, hA, e8, e7, ca_clos]) | exact wf_set2 hwf (by simp only [go_sem, hA, e8, e7, ca_clos]) (by simp only [go_sem, hA, e8, e7, ca_clos]) | (simp only [go_sem]; done)) (by first | exact ⟨_, _root_.id rfl⟩ | exact ⟨[], (List.append_nil _).symm⟩) ?_) <;> simp only [go_sem, hA, e8, e7, ca_clos]
      rw [findG_no hP] at hk
      exact hk
    have hi := lt_len hb
    have hw := wrap_nat i (by omega)
    have hil : (i : Int) < ((fs.length : Nat) : Int) := Int.ofNat_lt.2 hi
    have hg0 : (fs)[i]? = some ((fs)[i]) := List.getElem?_eq_getElem (by omega)
    simp only [go_sem, hb, hA, e8, e7, ca_clos, hg0]
    try simp only [go_sem, hA, e8, e7, ca_clos, hil, hg0]
    refine hp i hi _ ?_
    simp only [go_sem, hA, e8, e7, ca_clos, hil, hg0]
    (try simp only [go_sem, hA, e8, e7, ca_clos, hil, hg0]); repeat' (first | (with_reducible first | refine c_split ?_ ?_ | refine w_split ?_ ?_) <;> intro hb <;> try simp only [go_sem, hb, hA, e8, e7, ca_clos, hil, hg0] | fail)
    · refine hQ (h) _ _ ?_; refine GC.now (ret_m (by simp only [go_sem, Tryz.f107, hA, e8, e7, ca_clos, hil, hg0]; exact _root_.id rfl) (by simp only [go_sem]) (by simp) (by first | exact hwf | exact wf_set hwf (by simp only [go_sem, hA, e8, e7, ca_clos, hil, hg0]) | exact wf_set2 hwf (by simp only [go_sem, hA, e8, e7, ca_clos, hil, hg0]) (by simp only [go_sem, hA, e8, e7, ca_clos, hil, hg0]) | (simp only [go_sem]; done)) (by first | exact ⟨_, _root_.id rfl⟩ | exact ⟨[], (List.append_nil _).symm⟩) ?_) <;> simp only [go_sem, hA, e8, e7, ca_clos, hil, hg0]
      rw [findG_of hP hi hb] at hk
      exact hk
    · refine GC.now (hJ _ _ hi (by simp only [go_sem, hA, e8, e7, ca_clos]) ⟨?_, ?_, ?_, ?_⟩) <;> try simp only [go_sem, hA, e8, e7, ca_clos, hw]
      exact noneTo_s hP hi hb
theorem c_tradesRight1 (t : Trade) (b : Books) (hs : Small b) (h0 : AH) (c : Nat) (hc : h0[c]? = some (.own 0 37 6 (some 1) [booksC b])) (K : AV → AH → Prop) (hk : K (.one (.c (.bool (!trdP b t)))) h0) : ACalls Tryz.prog 96 [.agg (tradeC t), .one (.pt c 0 0 0)] h0 K := by
  refine acall_m Tryz.f96.results.toList mixed Tryz.func96 rfl rfl (by kernel_rfl) ?_
  intro hwf Q hQ
  simp only [go_sem, fun a => h_old a hc]
  (try simp only [go_sem, fun a => h_old a hc]); repeat' (first | (with_reducible first | refine c_split ?_ ?_ | refine w_split ?_ ?_) <;> intro hb <;> try simp only [go_sem, hb, fun a => h_old a hc] | (first | refine call_c (c_accountKind _ _ hs.ha _ ?_) | refine call_c (c_instrKind _ _ hs.hi _ ?_) | fail) <;> try simp only [go_sem, fun a => h_old a hc] | fail)
  · refine hQ (h0) _ _ ?_; refine GC.now (ret_m (by simp only [go_sem, Tryz.f96]; exact _root_.id rfl) (by simp only [go_sem]) (by simp) (by first | exact hwf | exact wf_set hwf (by simp only [go_sem]) | exact wf_set2 hwf (by simp only [go_sem]) (by simp only [go_sem]) | (simp only [go_sem]; done)) (by first | exact ⟨_, _root_.id rfl⟩ | exact ⟨[], (List.append_nil _).symm⟩) ?_) <;> simp only [go_sem]
    exact kB hk (by simp only [trdP]; simp_all)
  · refine hQ (h0) _ _ ?_; refine GC.now (ret_m (by simp only [go_sem, Tryz.f96]; exact _root_.id rfl) (by simp only [go_sem]) (by simp) (by first | exact hwf | exact wf_set hwf (by simp only [go_sem]) | exact wf_set2 hwf (by simp only [go_sem]) (by simp only [go_sem]) | (simp only [go_sem]; done)) (by first | exact ⟨_, _root_.id rfl⟩ | exact ⟨[], (List.append_nil _).symm⟩) ?_) <;> simp only [go_sem]
    exact kB hk (by simp only [trdP]; simp_all)
  · refine hQ (h0) _ _ ?_; refine GC.now (ret_m (by simp only [go_sem, Tryz.f96]; exact _root_.id rfl) (by simp only [go_sem]) (by simp) (by first | exact hwf | exact wf_set hwf (by simp only [go_sem]) | exact wf_set2 hwf (by simp only [go_sem]) (by simp only [go_sem]) | (simp only [go_sem]; done)) (by first | exact ⟨_, _root_.id rfl⟩ | exact ⟨[], (List.append_nil _).symm⟩) ?_) <;> simp only [go_sem]
    exact kB hk (by simp only [trdP]; simp_all)
  · refine hQ (h0) _ _ ?_; refine GC.now (ret_m (by simp only [go_sem, Tryz.f96]; exact _root_.id rfl) (by simp only [go_sem]) (by simp) (by first | exact hwf | exact wf_set hwf (by simp only [go_sem]) | exact wf_set2 hwf (by simp only [go_sem]) (by simp only [go_sem]) | (simp only [go_sem]; done)) (by first | exact ⟨_, _root_.id rfl⟩ | exact ⟨[], (List.append_nil _).symm⟩) ?_) <;> simp only [go_sem]
    exact kB hk (by simp only [trdP]; simp_all)
theorem c_ContainsTrade (xs : List Trade) (g : Nat) (c : Nat) (p : Trade → Bool) (h0 : AH) (K : AV → AH → Prop) (hn : xs.length ≤ 1000000000)
    (hp : ∀ i (hi : i < xs.length) (K' : AV → AH → Prop), K' (.one (.c (.bool (p xs[i])))) h0 → callA Tryz.prog g ([.agg (tradeC xs[i])] ++ [c].map fun l => .one (.pt l 0 0 0)) h0 K')
    (hk : K (.one (.c (.bool (decide (0 ≤ findG p xs))))) h0) : ACalls Tryz.prog 95 [(.one (.im (xs.map tradeC))), .one (.clo g [c])] h0 K := by
  refine acall_m Tryz.f95.results.toList mixed Tryz.func95 rfl rfl (by kernel_rfl) ?_
  intro hwf Q hQ
  simp only [go_sem, ca_clos]
  refine .inr (.inl ⟨rfl, c_IndexFuncTrade xs g [c] p _ _ hn hp ?_⟩)
  simp only [go_sem]
  (try simp only [go_sem]); repeat' (first | (with_reducible first | refine c_split ?_ ?_ | refine w_split ?_ ?_) <;> intro hb <;> try simp only [go_sem, hb] | fail)
  refine hQ (h0) _ _ ?_; refine GC.now (ret_m (by simp only [go_sem, Tryz.f95]; exact _root_.id rfl) (by simp only [go_sem]) (by simp) (by first | exact hwf | exact wf_set hwf (by simp only [go_sem]) | exact wf_set2 hwf (by simp only [go_sem]) (by simp only [go_sem]) | (simp only [go_sem]; done)) (by first | exact ⟨_, _root_.id rfl⟩ | exact ⟨[], (List.append_nil _).symm⟩) ?_) <;> simp only [go_sem]
  exact hk
theorem findG_all {α : Type} (p : α → Bool) (xs : List α) : (!decide (0 ≤ findG (fun x => !p x) xs)) = xs.all p := by
  cases h : xs.all p with
  | true =>
    have : findG (fun x => !p x) xs = -1 := findG_none fun j hj => by rw [(List.all_eq_true.1 h) _ (List.getElem_mem hj)]; rfl
    rw [this]; rfl
  | false =>
    obtain ⟨x, hx, hp⟩ : ∃ x ∈ xs, p x = false := by
      rcases Classical.em (∃ x ∈ xs, p x = false) with q | q
      · exact q
      · exfalso
        have : xs.all p = true := List.all_eq_true.2 fun x hx => by
          cases hp : p x with
          | true => rfl
          | false => exact absurd ⟨x, hx, hp⟩ q
        rw [this] at h; cases h
    rw [decide_eq_true (findG_hit hx (show (!p x) = true by rw [hp]; rfl))]; rfl
theorem c_tradesRight (b : Books) (hs : Small b) (K : AV → AH → Prop) (hk : K (.one (.c (.bool (b.trades.all (trdP b))))) []) : ACalls Tryz.prog 71 [.agg (booksC b)] [] K := by
  have hst := hs.ht
  refine acall_c Tryz.f71.results.toList mixed Tryz.func71 rfl rfl (by kernel_rfl) ?_
  intro Q hQ hQO
  simp only [go_sem]
  refine call_h (c_ContainsTrade b.trades _ 0 (fun t => !trdP b t) _ _ hst (fun i hi K' hk' => .inr (.inl ⟨rfl, c_tradesRight1 b.trades[i] b hs _ 0 rfl _ hk'⟩)) ?_)
  simp only [go_sem]
  (try simp only [go_sem]); repeat' (first | (with_reducible first | refine c_split ?_ ?_ | refine w_split ?_ ?_) <;> intro hb <;> try simp only [go_sem, hb] | with_reducible refine hQ _ _ ?_ <;> simp only [Tryz.f71, go_sem])
  rw [← findG_all] at hk
  exact hk
theorem lots_fine {xs : List Lot} (h : lotsOk xs = true) : Fine xs := by
  rw [lotsOk, Bool.and_eq_true] at h; exact okL_fine h.1
theorem c_impl_BooksOk (b : Books) (hs : Small b) (K : AV → AH → Prop) (hk : K (.one (.c (.bool (booksOk b)))) []) : ACalls Tryz.prog 40 [.agg (booksC b)] [] K := by
  cases hl : listsOk b with
  | true =>
    rw [booksOk, hl, Bool.true_and] at hk
    simp only [listsOk, Bool.and_eq_true] at hl
    obtain ⟨⟨⟨⟨⟨f1, f2⟩, f3⟩, f4⟩, f5⟩, f6⟩ := hl
    refine acall_c Tryz.f40.results.toList mixed Tryz.func40 rfl rfl (by kernel_rfl) ?_
    intro Q hQ hQO
    simp only [go_sem]
    (try simp only [go_sem, f1, f2, f3, f4, f5, f6]); repeat' (first | (with_reducible first | refine c_split ?_ ?_ | refine w_split ?_ ?_) <;> intro hb <;> try simp only [go_sem, hb, f1, f2, f3, f4, f5, f6] | (first | refine call_c (c_impl_AccountsOk _ hs.ha _ ?_) | refine call_c (c_impl_InstrsOk _ hs.hi _ ?_) | refine call_c (c_impl_BalsOk _ hs.hb _ ?_) | refine call_c (c_impl_LotsOk _ hs.hl _ ?_) | refine call_c (c_impl_TradesOk _ hs.ht _ ?_) | refine call_c (c_in _ _ _ _ ?_) | refine call_c (c_balsRight b hs f3 _ ?_) | refine call_c (c_lotsRight b hs f3 (lots_fine f4) _ ?_) | refine call_c (c_tradesRight b hs _ ?_) | fail) <;> try simp only [go_sem, f1, f2, f3, f4, f5, f6] | with_reducible refine hQ _ _ ?_ <;> simp only [Tryz.f40, go_sem, f1, f2, f3, f4, f5, f6])
    all_goals (clear hQ hQO; generalize b.bals.all (brP b) = p1 at *; generalize lotsR b = p2 at *; generalize b.trades.all (trdP b) = p3 at *; exact kB hk (by simp_all))
  | false =>
    rw [booksOk, hl, Bool.false_and, Bool.false_and, Bool.false_and] at hk
    refine acall_c Tryz.f40.results.toList mixed Tryz.func40 rfl rfl (by kernel_rfl) ?_
    intro Q hQ hQO
    simp only [go_sem]
    (try simp only [go_sem]); repeat' (first | (with_reducible first | refine c_split ?_ ?_ | refine w_split ?_ ?_) <;> intro hb <;> try simp only [go_sem, hb] | (first | refine call_c (c_impl_AccountsOk _ hs.ha _ ?_) | refine call_c (c_impl_InstrsOk _ hs.hi _ ?_) | refine call_c (c_impl_BalsOk _ hs.hb _ ?_) | refine call_c (c_impl_LotsOk _ hs.hl _ ?_) | refine call_c (c_impl_TradesOk _ hs.ht _ ?_) | refine call_c (c_in _ _ _ _ ?_) | fail) <;> try simp only [go_sem] | with_reducible refine hQ _ _ ?_ <;> simp only [Tryz.f40, go_sem])
    all_goals first | exact hk | exact (Bool.eq_false_iff.1 hl (by clear hl hQ hQO; simp only [listsOk]; simp_all)).elim
theorem c_BooksOk_no (b : Books) (hs : Small b) (hl : listsOk b = false) (K : AV → AH → Prop) (hk : K (.one (.c (.bool (booksOk b)))) []) : ACalls Tryz.prog 29 [.agg (booksC b)] [] K := by
  rw [booksOk, hl, Bool.false_and, Bool.false_and, Bool.false_and] at hk
  refine acall_c Tryz.f29.results.toList mixed Tryz.func29 rfl rfl (by kernel_rfl) ?_
  intro Q hQ hQO
  simp only [go_sem]
  (try simp only [go_sem]); repeat' (first | (with_reducible first | refine c_split ?_ ?_ | refine w_split ?_ ?_) <;> intro hb <;> try simp only [go_sem, hb] | (first | refine call_c (c_spec_AccountsOk _ hs.ha _ ?_) | refine call_c (c_spec_InstrsOk _ hs.hi _ ?_) | refine call_c (c_spec_BalsOk _ hs.hb _ ?_) | refine call_c (c_spec_LotsOk _ hs.hl _ ?_) | refine call_c (c_spec_TradesOk _ hs.ht _ ?_) | refine call_c (c_l1In _ _ _ _ ?_) | fail) <;> try simp only [go_sem] | with_reducible refine hQ _ _ ?_ <;> simp only [Tryz.f29, go_sem])
  all_goals first | exact hk | exact (Bool.eq_false_iff.1 hl (by clear hl hQ hQO; simp only [listsOk]; simp_all)).elim
theorem c_BooksOk (b : Books) (hs : Small b) (K : AV → AH → Prop) (hk : K (.one (.c (.bool (booksOk b)))) []) : ACalls Tryz.prog 29 [.agg (booksC b)] [] K := by
  have hst := hs.ht
  cases hl : listsOk b with
  | true =>
    rw [booksOk, hl, Bool.true_and] at hk
    simp only [listsOk, Bool.and_eq_true] at hl
    obtain ⟨⟨⟨⟨⟨f1, f2⟩, f3⟩, f4⟩, f5⟩, f6⟩ := hl
    refine acall_c Tryz.f29.results.toList mixed Tryz.func29 rfl rfl (by kernel_rfl) ?_
    intro Q hQ hQO
    simp only [go_sem]
    cases g1 : b.bals.all (brP b) with
    | false =>
      rw [g1, Bool.false_and, Bool.false_and] at hk
      (try simp only [go_sem, f1, f2, f3, f4, f5, f6, g1]); repeat' (first | (with_reducible first | refine c_split ?_ ?_ | refine w_split ?_ ?_) <;> intro hb <;> try simp only [go_sem, hb, f1, f2, f3, f4, f5, f6, g1] | (first | refine call_c (c_spec_AccountsOk _ hs.ha _ ?_) | refine call_c (c_spec_InstrsOk _ hs.hi _ ?_) | refine call_c (c_spec_BalsOk _ hs.hb _ ?_) | refine call_c (c_spec_LotsOk _ hs.hl _ ?_) | refine call_c (c_spec_TradesOk _ hs.ht _ ?_) | refine call_c (c_l1In _ _ _ _ ?_) | refine call_c (c_l6Bals b hs f1 f2 f3 _ ?_) | fail) <;> try simp only [go_sem, f1, f2, f3, f4, f5, f6, g1] | with_reducible refine hQ _ _ ?_ <;> simp only [Tryz.f29, go_sem, f1, f2, f3, f4, f5, f6, g1])
      exact hk
    | true =>
      cases g2 : lotsR b with
      | false =>
        rw [g1, g2, Bool.true_and, Bool.false_and] at hk
        (try simp only [go_sem, f1, f2, f3, f4, f5, f6, g1, g2]); repeat' (first | (with_reducible first | refine c_split ?_ ?_ | refine w_split ?_ ?_) <;> intro hb <;> try simp only [go_sem, hb, f1, f2, f3, f4, f5, f6, g1, g2] | (first | refine call_c (c_spec_AccountsOk _ hs.ha _ ?_) | refine call_c (c_spec_InstrsOk _ hs.hi _ ?_) | refine call_c (c_spec_BalsOk _ hs.hb _ ?_) | refine call_c (c_spec_LotsOk _ hs.hl _ ?_) | refine call_c (c_spec_TradesOk _ hs.ht _ ?_) | refine call_c (c_l1In _ _ _ _ ?_) | refine call_c (c_l6Bals b hs f1 f2 f3 _ ?_) | refine call_c (c_l6Lots b hs f1 f2 (lots_fine f4) _ ?_) | fail) <;> try simp only [go_sem, f1, f2, f3, f4, f5, f6, g1, g2] | with_reducible refine hQ _ _ ?_ <;> simp only [Tryz.f29, go_sem, f1, f2, f3, f4, f5, f6, g1, g2])
        exact hk
      | true =>
        rw [g1, g2, Bool.true_and, Bool.true_and] at hk
        (try simp only [go_sem, f1, f2, f3, f4, f5, f6, g1, g2]); repeat' (first | (with_reducible first | refine c_split ?_ ?_ | refine w_split ?_ ?_) <;> intro hb <;> try simp only [go_sem, hb, f1, f2, f3, f4, f5, f6, g1, g2] | (first | refine call_c (c_spec_AccountsOk _ hs.ha _ ?_) | refine call_c (c_spec_InstrsOk _ hs.hi _ ?_) | refine call_c (c_spec_BalsOk _ hs.hb _ ?_) | refine call_c (c_spec_LotsOk _ hs.hl _ ?_) | refine call_c (c_spec_TradesOk _ hs.ht _ ?_) | refine call_c (c_l1In _ _ _ _ ?_) | refine call_c (c_l6Bals b hs f1 f2 f3 _ ?_) | refine call_c (c_l6Lots b hs f1 f2 (lots_fine f4) _ ?_) | fail) <;> try simp only [go_sem, f1, f2, f3, f4, f5, f6, g1, g2] | fail)
        refine for_at (b.trades.length) [1] (fun i f h => f 3 = (.one (.c (.int .i64 (i)))) ∧ h = [.own 0 37 6 (some 1) [booksC b]] ∧ noneTo (fun t => !trdP b t) b.trades i) (GC.now ?_) ?_
        · simp only [go_sem, nc_0, true_and]
          exact noneTo_0 _ _
        · rintro i f h J hi hA ⟨e3, rfl, hP⟩ hJ
          simp only [go_sem] at hA
          simp only [go_sem, hA, e3]
          refine c_split (fun hb => ?_) (fun hb => ?_)
          rotate_left
          · simp only [go_sem, hb, hA, e3]
            obtain rfl := ge_len hb hi
            (try simp only [go_sem, hA, e3]); repeat' (first | (with_reducible first | refine c_split ?_ ?_ | refine w_split ?_ ?_) <;> intro hb <;> try simp only [go_sem, hb, hA, e3] | with_reducible refine hQ _ _ ?_ <;> simp only [Tryz.f29, go_sem, hA, e3])
            rw [all_no hP] at hk
            exact hk
          have hi := lt_len hb
          have hw := wrap_nat i (by omega)
          have hil : (i : Int) < ((b.trades.length : Nat) : Int) := Int.ofNat_lt.2 hi
          have hg0 : (b.trades)[i]? = some ((b.trades)[i]) := List.getElem?_eq_getElem (by omega)
          simp only [go_sem, hb, hA, e3, hg0]
          try simp only [go_sem, hA, e3, hil, hg0]
          cases hr : trdP b b.trades[i] with
          | true =>
            have htr := hr
            simp only [trdP, Bool.and_eq_true] at hr
            obtain ⟨⟨⟨t1, t2⟩, t3⟩, t4⟩ := hr
            (try simp only [go_sem, hA, e3, hil, hg0, t1, t2, t3, t4]); repeat' (first | (with_reducible first | refine c_split ?_ ?_ | refine w_split ?_ ?_) <;> intro hb <;> try simp only [go_sem, hb, hA, e3, hil, hg0, t1, t2, t3, t4] | (first | refine call_c (c_AccountKind _ _ hs.ha f1 _ ?_) | refine call_c (c_InstrKind _ _ hs.hi f2 _ ?_) | fail) <;> try simp only [go_sem, hA, e3, hil, hg0, t1, t2, t3, t4] | fail)
            refine gc_trim 1 (by decide) (by simp only [go_sem]) (by simp only [go_sem]) (hJ _ _ hi (by simp only [go_sem, hA, e3]) ⟨?_, ?_, ?_⟩) <;> try simp only [go_sem, hA, e3, hw]
            exact noneTo_s hP hi (not_ff htr)
          | false =>
            rw [all_bad hi hr] at hk
            cases q1 : (kindOf b.accounts b.trades[i].buyer == 1) with
            | false =>
              (try simp only [go_sem, hA, e3, hil, hg0, q1]); repeat' (first | (with_reducible first | refine c_split ?_ ?_ | refine w_split ?_ ?_) <;> intro hb <;> try simp only [go_sem, hb, hA, e3, hil, hg0, q1] | (first | refine call_c (c_AccountKind _ _ hs.ha f1 _ ?_) | refine call_c (c_InstrKind _ _ hs.hi f2 _ ?_) | fail) <;> try simp only [go_sem, hA, e3, hil, hg0, q1] | with_reducible refine hQ _ _ ?_ <;> simp only [Tryz.f29, go_sem, hA, e3, hil, hg0, q1])
              exact hk
            | true =>
              cases q2 : (kindOf b.accounts b.trades[i].seller == 1) with
              | false =>
                (try simp only [go_sem, hA, e3, hil, hg0, q1, q2]); repeat' (first | (with_reducible first | refine c_split ?_ ?_ | refine w_split ?_ ?_) <;> intro hb <;> try simp only [go_sem, hb, hA, e3, hil, hg0, q1, q2] | (first | refine call_c (c_AccountKind _ _ hs.ha f1 _ ?_) | refine call_c (c_InstrKind _ _ hs.hi f2 _ ?_) | fail) <;> try simp only [go_sem, hA, e3, hil, hg0, q1, q2] | with_reducible refine hQ _ _ ?_ <;> simp only [Tryz.f29, go_sem, hA, e3, hil, hg0, q1, q2])
                exact hk
              | true =>
                cases q3 : (kindOf b.instrs b.trades[i].paper == 2) with
                | false =>
                  (try simp only [go_sem, hA, e3, hil, hg0, q1, q2, q3]); repeat' (first | (with_reducible first | refine c_split ?_ ?_ | refine w_split ?_ ?_) <;> intro hb <;> try simp only [go_sem, hb, hA, e3, hil, hg0, q1, q2, q3] | (first | refine call_c (c_AccountKind _ _ hs.ha f1 _ ?_) | refine call_c (c_InstrKind _ _ hs.hi f2 _ ?_) | fail) <;> try simp only [go_sem, hA, e3, hil, hg0, q1, q2, q3] | with_reducible refine hQ _ _ ?_ <;> simp only [Tryz.f29, go_sem, hA, e3, hil, hg0, q1, q2, q3])
                  exact hk
                | true =>
                  cases q4 : (kindOf b.instrs b.trades[i].cash == 1) with
                  | false =>
                    (try simp only [go_sem, hA, e3, hil, hg0, q1, q2, q3, q4]); repeat' (first | (with_reducible first | refine c_split ?_ ?_ | refine w_split ?_ ?_) <;> intro hb <;> try simp only [go_sem, hb, hA, e3, hil, hg0, q1, q2, q3, q4] | (first | refine call_c (c_AccountKind _ _ hs.ha f1 _ ?_) | refine call_c (c_InstrKind _ _ hs.hi f2 _ ?_) | fail) <;> try simp only [go_sem, hA, e3, hil, hg0, q1, q2, q3, q4] | with_reducible refine hQ _ _ ?_ <;> simp only [Tryz.f29, go_sem, hA, e3, hil, hg0, q1, q2, q3, q4])
                    exact hk
                  | true =>
                    simp only [trdP, q1, q2, q3, q4, Bool.and_true] at hr
                    cases hr
  | false => exact c_BooksOk_no b hs hl K hk
end Go.Proofs.YtkndmncgohmjmaaGreatDoor
end
section
namespace Go.Proofs.YtkndmncgohmjmaaGreatDoor
open Go.BL Go.RowKit
set_option linter.unusedVariables false
set_option linter.unusedSimpArgs false
set_option maxRecDepth 100000
attribute [local go_sem] accountC balC lotC tradeC booksC
theorem c_szBooksG (b : Books) (h : Large b) (left : Int) (q0 : 0 ≤ left) (q1 : left ≤ 1048576) (K : AV → AH → Prop) (hk : ∀ r, (0 ≤ r → Small b) → K (.one (.c (.int .i64 (r)))) []) : ACalls Tryz.prog 4 [.agg (booksC b), (.one (.c (.int .i64 (left))))] [] K := by
  refine acall_c Tryz.f4.results.toList mixed Tryz.func4 rfl rfl (by kernel_rfl) ?_
  intro Q hQ hQO
  simp only [go_sem]
  (try simp only [go_sem]); repeat' (first | (with_reducible first | refine c_split ?_ ?_ | refine w_split ?_ ?_) <;> intro hb <;> try simp only [go_sem, hb] | refine call_c (c_szAccountS _ _ h.ha q0 q1 _ (fun r1 hr1 => ?_)) <;> try simp only [go_sem] | fail)
  · (try simp only [go_sem]); repeat' (first | (with_reducible first | refine c_split ?_ ?_ | refine w_split ?_ ?_) <;> intro hb <;> try simp only [go_sem, hb] | with_reducible refine hQ _ _ ?_ <;> simp only [Tryz.f4, go_sem])
    exact hk _ (fun q => by omega)
  have n1 : 0 ≤ r1 := by have := of_decide_eq_false hb; omega
  have m1 := hr1 n1
  clear hb
  (try simp only [go_sem]); repeat' (first | (with_reducible first | refine c_split ?_ ?_ | refine w_split ?_ ?_) <;> intro hb <;> try simp only [go_sem, hb] | refine call_c (c_szInstrS _ _ h.hi n1 (by omega) _ (fun r2 hr2 => ?_)) <;> try simp only [go_sem] | fail)
  · (try simp only [go_sem]); repeat' (first | (with_reducible first | refine c_split ?_ ?_ | refine w_split ?_ ?_) <;> intro hb <;> try simp only [go_sem, hb] | with_reducible refine hQ _ _ ?_ <;> simp only [Tryz.f4, go_sem])
    exact hk _ (fun q => by omega)
  have n2 : 0 ≤ r2 := by have := of_decide_eq_false hb; omega
  have m2 := hr2 n2
  clear hb
  (try simp only [go_sem]); repeat' (first | (with_reducible first | refine c_split ?_ ?_ | refine w_split ?_ ?_) <;> intro hb <;> try simp only [go_sem, hb] | refine call_c (c_szBalS _ _ h.hb n2 (by omega) _ (fun r3 hr3 => ?_)) <;> try simp only [go_sem] | fail)
  · (try simp only [go_sem]); repeat' (first | (with_reducible first | refine c_split ?_ ?_ | refine w_split ?_ ?_) <;> intro hb <;> try simp only [go_sem, hb] | with_reducible refine hQ _ _ ?_ <;> simp only [Tryz.f4, go_sem])
    exact hk _ (fun q => by omega)
  have n3 : 0 ≤ r3 := by have := of_decide_eq_false hb; omega
  have m3 := hr3 n3
  clear hb
  (try simp only [go_sem]); repeat' (first | (with_reducible first | refine c_split ?_ ?_ | refine w_split ?_ ?_) <;> intro hb <;> try simp only [go_sem, hb] | refine call_c (c_szLotS _ _ h.hl n3 (by omega) _ (fun r4 hr4 => ?_)) <;> try simp only [go_sem] | fail)
  · (try simp only [go_sem]); repeat' (first | (with_reducible first | refine c_split ?_ ?_ | refine w_split ?_ ?_) <;> intro hb <;> try simp only [go_sem, hb] | with_reducible refine hQ _ _ ?_ <;> simp only [Tryz.f4, go_sem])
    exact hk _ (fun q => by omega)
  have n4 : 0 ≤ r4 := by have := of_decide_eq_false hb; omega
  have m4 := hr4 n4
  clear hb
  (try simp only [go_sem]); repeat' (first | (with_reducible first | refine c_split ?_ ?_ | refine w_split ?_ ?_) <;> intro hb <;> try simp only [go_sem, hb] | refine call_c (c_szTradeS _ _ h.ht n4 (by omega) _ (fun r5 hr5 => ?_)) <;> try simp only [go_sem] | fail)
  · (try simp only [go_sem]); repeat' (first | (with_reducible first | refine c_split ?_ ?_ | refine w_split ?_ ?_) <;> intro hb <;> try simp only [go_sem, hb] | with_reducible refine hQ _ _ ?_ <;> simp only [Tryz.f4, go_sem])
    exact hk _ (fun q => by omega)
  have n5 : 0 ≤ r5 := by have := of_decide_eq_false hb; omega
  have m5 := hr5 n5
  (try simp only [go_sem]); repeat' (first | (with_reducible first | refine c_split ?_ ?_ | refine w_split ?_ ?_) <;> intro hb <;> try simp only [go_sem, hb] | with_reducible refine hQ _ _ ?_ <;> simp only [Tryz.f4, go_sem])
  exact hk _ (fun q => ⟨by omega, by omega, by omega, by omega, by omega⟩)
theorem c_szBooks (b : Books) (h : Large b) (K : AV → AH → Prop) (hk : ∀ r, (0 ≤ r → Small b) → K (.one (.c (.int .i64 (r)))) []) : ACalls Tryz.prog 4 [.agg (booksC b), (.one (.c (.int .i64 (1048576))))] [] K := c_szBooksG b h _ (by decide) (by decide) K hk
def booksA (b : Books) : AV := .agg [.sl 0 0 0 b.accounts.length, .sl 1 0 0 b.instrs.length, .sl 2 0 0 b.bals.length, .sl 3 0 0 b.lots.length, .sl 4 0 0 b.trades.length, .c (.int .i64 (b.lot))]
theorem c_toBooks (b : Books) (hs : Small b) (K : AV → AH → Prop) (hk : K (booksA b) [.own 0 76 2 (some b.accounts.length) (b.accounts.map accountC), .own 0 79 2 (some b.instrs.length) (b.instrs.map accountC), .own 0 67 3 (some b.bals.length) (b.bals.map balC), .own 0 85 5 (some b.lots.length) (b.lots.map lotC), .own 0 89 8 (some b.trades.length) (b.trades.map tradeC)]) : ACalls Tryz.prog 6 [.agg (booksC b)] [] K := by
  refine acall_c Tryz.f6.results.toList mixed Tryz.func6 rfl rfl (by kernel_rfl) ?_
  intro Q hQ hQO
  simp only [go_sem]
  (try simp only [go_sem]); repeat' (first | (with_reducible first | refine c_split ?_ ?_ | refine w_split ?_ ?_) <;> intro hb <;> try simp only [go_sem, hb] | (first | refine call_c (c_toAccountS _ hs.ha _ ?_) | refine call_c (c_toInstrS _ hs.hi _ ?_) | refine call_c (c_toBalS _ hs.hb _ ?_) | refine call_c (c_toLotS _ hs.hl _ ?_) | refine call_c (c_toTradeS _ hs.ht _ ?_) | fail) <;> try simp only [go_sem] | fail)
  refine hQO [3, 4, 5, 6, 7] _ _ (GC.now ?_) <;> simp only [Tryz.f6, go_sem, List.nodup_cons, List.nodup_nil, List.mem_cons, List.not_mem_nil, or_false, not_false_eq_true, List.idxOf?_cons, List.idxOf?_nil, Option.map_none]
  exact hk
theorem c_eqBooks (b : Books) (hs : Small b) (K : AV → AH → Prop) (hk : K (.one (.c (.bool (true)))) []) : ACalls Tryz.prog 8 [.agg (booksC b), .agg (booksC b)] [] K := by
  refine acall_c Tryz.f8.results.toList mixed Tryz.func8 rfl rfl (by kernel_rfl) ?_
  intro Q hQ hQO
  simp only [go_sem]
  (try simp only [go_sem, BEq.rfl]); repeat' (first | (with_reducible first | refine c_split ?_ ?_ | refine w_split ?_ ?_) <;> intro hb <;> try simp only [go_sem, hb, BEq.rfl] | (first | refine call_c (c_eqAccountS _ hs.ha _ ?_) | refine call_c (c_eqInstrS _ hs.hi _ ?_) | refine call_c (c_eqBalS _ hs.hb _ ?_) | refine call_c (c_eqLotS _ hs.hl _ ?_) | refine call_c (c_eqTradeS _ hs.ht _ ?_) | fail) <;> try simp only [go_sem, BEq.rfl] | with_reducible refine hQ _ _ ?_ <;> simp only [Tryz.f8, go_sem, BEq.rfl])
  exact hk
end Go.Proofs.YtkndmncgohmjmaaGreatDoor
end
section
namespace Go.Proofs.YtkndmncgohmjmaaGreatDoor
open Go.BL Go.RowKit
set_option linter.unusedVariables false
set_option linter.unusedSimpArgs false
set_option maxRecDepth 100000
attribute [local go_sem] accountC balC lotC tradeC booksC booksA
theorem booksOk_parts {b : Books} (h : booksOk b = true) : accountsOk b.accounts = true ∧ instrsOk b.instrs = true ∧ balsOk b.bals = true ∧ lotsOk b.lots = true ∧ tradesOk b.trades = true := by
  simp only [booksOk, listsOk, Bool.and_eq_true] at h
  obtain ⟨⟨⟨⟨⟨⟨⟨⟨h1, h2⟩, h3⟩, h4⟩, h5⟩, _⟩, _⟩, _⟩, _⟩ := h
  exact ⟨h1, h2, h3, h4, h5⟩
end Go.Proofs.YtkndmncgohmjmaaGreatDoor
end
section
namespace Go.Proofs.YtkndmncgohmjmaaGreatDoor
open Go.BL Go.RowKit
set_option linter.unusedVariables false
set_option linter.unusedSimpArgs false
set_option maxRecDepth 100000
attribute [local go_sem] accountC balC lotC tradeC booksC booksA
end Go.Proofs.YtkndmncgohmjmaaGreatDoor
end
section
namespace Go.Proofs.YtkndmncgohmjmaaGreatDoor
open Go.BL Go.RowKit
set_option linter.unusedVariables false
set_option linter.unusedSimpArgs false
set_option maxRecDepth 100000
attribute [local go_sem] accountC balC lotC tradeC booksC booksA
structure Line where
  instr : Int
  qty : Int
  cost : Int
  mean : Int
  left : Int
def lineC (x : Line) : List CV := [.c (.int .i64 (x.instr)), .c (.int .i64 (x.qty)), .c (.int .i64 (x.cost)), .c (.int .i64 (x.mean)), .c (.int .i64 (x.left))]
attribute [local go_sem] lineC
theorem lineC_snoc (xs : List (Line)) (a0 a1 a2 a3 a4 : Int) : xs.map lineC ++ [[.c (.int .i64 (a0)), .c (.int .i64 (a1)), .c (.int .i64 (a2)), .c (.int .i64 (a3)), .c (.int .i64 (a4))]] = (xs ++ [(⟨a0, a1, a2, a3, a4⟩ : Line)]).map lineC := by rw [List.map_append]; rfl
theorem lineC_tk (xs : List (Line)) : (xs.map lineC).take xs.length = xs.map lineC := List.take_of_length_le (by simp)
attribute [go_sem] lineC_snoc lineC_tk
instance : Inhabited Line := ⟨⟨0, 0, 0, 0, 0⟩⟩
def divO (a b : Int) : Bool := amtOk a && amtOk b && !(b == 0)
def divV (a b : Int) : Int := if divO a b = true then (if (!(a.tmod b == 0) && !(decide (a < 0) == decide (b < 0))) = true then wrap64 (wrap64 (a.tdiv b) - 1) else wrap64 (a.tdiv b)) else 0
theorem divV_no {a b : Int} (h : divO a b = false) : divV a b = 0 := by rw [divV, h]; rfl
theorem divV_1 {a b : Int} (h : divO a b = true) (h2 : (!(a.tmod b == 0) && !(decide (a < 0) == decide (b < 0))) = true) : divV a b = wrap64 (wrap64 (a.tdiv b) - 1) := by rw [divV, if_pos h, if_pos h2]
theorem divV_2 {a b : Int} (h : divO a b = true) (h2 : (!(a.tmod b == 0) && !(decide (a < 0) == decide (b < 0))) = false) : divV a b = wrap64 (a.tdiv b) := by rw [divV, if_pos h, if_neg (by rw [h2]; decide)]
theorem c_impl_DivFloor (a b : Int) (K : AV → AH → Prop) (hk : K (.tup [(.one (.c (.int .i64 (divV a b)))), (.one (.c (.bool (divO a b))))]) []) : ACalls Tryz.prog 44 [(.one (.c (.int .i64 (a)))), (.one (.c (.int .i64 (b))))] [] K := by
  refine acall_c Tryz.f44.results.toList mixed Tryz.func44 rfl rfl (by kernel_rfl) ?_
  intro Q hQ hQO
  simp only [go_sem]
  cases o1 : amtOk a with
  | false =>
    have h : divO a b = false := by rw [divO, o1]; rfl
    rw [divV_no h, h] at hk
    (try simp only [go_sem, o1]); repeat' (first | (with_reducible first | refine c_split ?_ ?_ | refine w_split ?_ ?_) <;> intro hb <;> try simp only [go_sem, hb, o1] | refine call_c (c_impl_AmountOk _ _ ?_) <;> try simp only [go_sem, o1] | with_reducible refine hQ _ _ ?_ <;> simp only [Tryz.f44, go_sem, o1])
    exact hk
  | true =>
    cases o2 : amtOk b with
    | false =>
      have h : divO a b = false := by rw [divO, o1, o2]; rfl
      rw [divV_no h, h] at hk
      (try simp only [go_sem, o1, o2]); repeat' (first | (with_reducible first | refine c_split ?_ ?_ | refine w_split ?_ ?_) <;> intro hb <;> try simp only [go_sem, hb, o1, o2] | refine call_c (c_impl_AmountOk _ _ ?_) <;> try simp only [go_sem, o1, o2] | with_reducible refine hQ _ _ ?_ <;> simp only [Tryz.f44, go_sem, o1, o2])
      exact hk
    | true =>
      cases o3 : (b == 0) with
      | true =>
        have h : divO a b = false := by rw [divO, o1, o2, o3]; rfl
        rw [divV_no h, h] at hk
        (try simp only [go_sem, o1, o2, o3]); repeat' (first | (with_reducible first | refine c_split ?_ ?_ | refine w_split ?_ ?_) <;> intro hb <;> try simp only [go_sem, hb, o1, o2, o3] | refine call_c (c_impl_AmountOk _ _ ?_) <;> try simp only [go_sem, o1, o2, o3] | with_reducible refine hQ _ _ ?_ <;> simp only [Tryz.f44, go_sem, o1, o2, o3])
        exact hk
      | false =>
        have h : divO a b = true := by rw [divO, o1, o2, o3]; rfl
        have hne : b ≠ 0 := by simpa using o3
        cases q1 : (a.tmod b == 0) with
        | true =>
          rw [divV_2 h (by rw [q1]; rfl), h] at hk
          (try simp only [go_sem, o1, o2, o3, q1, hne, ne_eq, not_false_eq_true, b_quo, b_rem]); repeat' (first | (with_reducible first | refine c_split ?_ ?_ | refine w_split ?_ ?_) <;> intro hb <;> try simp only [go_sem, hb, o1, o2, o3, q1, hne, ne_eq, not_false_eq_true, b_quo, b_rem] | refine call_c (c_impl_AmountOk _ _ ?_) <;> try simp only [go_sem, o1, o2, o3, q1, hne, ne_eq, not_false_eq_true, b_quo, b_rem] | with_reducible refine hQ _ _ ?_ <;> simp only [Tryz.f44, go_sem, o1, o2, o3, q1, hne, ne_eq, not_false_eq_true, b_quo, b_rem])
          exact hk
        | false =>
          cases q2 : (decide (a < 0) == decide (b < 0)) with
          | true =>
            rw [divV_2 h (by rw [q1, q2]; rfl), h] at hk
            (try simp only [go_sem, o1, o2, o3, q1, q2, hne, ne_eq, not_false_eq_true, b_quo, b_rem]); repeat' (first | (with_reducible first | refine c_split ?_ ?_ | refine w_split ?_ ?_) <;> intro hb <;> try simp only [go_sem, hb, o1, o2, o3, q1, q2, hne, ne_eq, not_false_eq_true, b_quo, b_rem] | refine call_c (c_impl_AmountOk _ _ ?_) <;> try simp only [go_sem, o1, o2, o3, q1, q2, hne, ne_eq, not_false_eq_true, b_quo, b_rem] | with_reducible refine hQ _ _ ?_ <;> simp only [Tryz.f44, go_sem, o1, o2, o3, q1, q2, hne, ne_eq, not_false_eq_true, b_quo, b_rem])
            exact hk
          | false =>
            rw [divV_1 h (by rw [q1, q2]; rfl), h] at hk
            (try simp only [go_sem, o1, o2, o3, q1, q2, hne, ne_eq, not_false_eq_true, b_quo, b_rem]); repeat' (first | (with_reducible first | refine c_split ?_ ?_ | refine w_split ?_ ?_) <;> intro hb <;> try simp only [go_sem, hb, o1, o2, o3, q1, q2, hne, ne_eq, not_false_eq_true, b_quo, b_rem] | refine call_c (c_impl_AmountOk _ _ ?_) <;> try simp only [go_sem, o1, o2, o3, q1, q2, hne, ne_eq, not_false_eq_true, b_quo, b_rem] | with_reducible refine hQ _ _ ?_ <;> simp only [Tryz.f44, go_sem, o1, o2, o3, q1, q2, hne, ne_eq, not_false_eq_true, b_quo, b_rem])
            exact hk
theorem c_spec_DivFloor (a b : Int) (K : AV → AH → Prop) (hk : K (.tup [(.one (.c (.int .i64 (divV a b)))), (.one (.c (.bool (divO a b))))]) []) : ACalls Tryz.prog 34 [(.one (.c (.int .i64 (a)))), (.one (.c (.int .i64 (b))))] [] K := by
  refine acall_c Tryz.f34.results.toList mixed Tryz.func34 rfl rfl (by kernel_rfl) ?_
  intro Q hQ hQO
  simp only [go_sem]
  cases o1 : amtOk a with
  | false =>
    have h : divO a b = false := by rw [divO, o1]; rfl
    rw [divV_no h, h] at hk
    (try simp only [go_sem, o1]); repeat' (first | (with_reducible first | refine c_split ?_ ?_ | refine w_split ?_ ?_) <;> intro hb <;> try simp only [go_sem, hb, o1] | refine call_c (c_spec_AmountOk _ _ ?_) <;> try simp only [go_sem, o1] | with_reducible refine hQ _ _ ?_ <;> simp only [Tryz.f34, go_sem, o1])
    exact hk
  | true =>
    cases o2 : amtOk b with
    | false =>
      have h : divO a b = false := by rw [divO, o1, o2]; rfl
      rw [divV_no h, h] at hk
      (try simp only [go_sem, o1, o2]); repeat' (first | (with_reducible first | refine c_split ?_ ?_ | refine w_split ?_ ?_) <;> intro hb <;> try simp only [go_sem, hb, o1, o2] | refine call_c (c_spec_AmountOk _ _ ?_) <;> try simp only [go_sem, o1, o2] | with_reducible refine hQ _ _ ?_ <;> simp only [Tryz.f34, go_sem, o1, o2])
      exact hk
    | true =>
      cases o3 : (b == 0) with
      | true =>
        have h : divO a b = false := by rw [divO, o1, o2, o3]; rfl
        rw [divV_no h, h] at hk
        (try simp only [go_sem, o1, o2, o3]); repeat' (first | (with_reducible first | refine c_split ?_ ?_ | refine w_split ?_ ?_) <;> intro hb <;> try simp only [go_sem, hb, o1, o2, o3] | refine call_c (c_spec_AmountOk _ _ ?_) <;> try simp only [go_sem, o1, o2, o3] | with_reducible refine hQ _ _ ?_ <;> simp only [Tryz.f34, go_sem, o1, o2, o3])
        exact hk
      | false =>
        have h : divO a b = true := by rw [divO, o1, o2, o3]; rfl
        have hne : b ≠ 0 := by simpa using o3
        cases q1 : (a.tmod b == 0) with
        | true =>
          rw [divV_2 h (by rw [q1]; rfl), h] at hk
          (try simp only [go_sem, o1, o2, o3, q1, hne, ne_eq, not_false_eq_true, b_quo, b_rem]); repeat' (first | (with_reducible first | refine c_split ?_ ?_ | refine w_split ?_ ?_) <;> intro hb <;> try simp only [go_sem, hb, o1, o2, o3, q1, hne, ne_eq, not_false_eq_true, b_quo, b_rem] | refine call_c (c_spec_AmountOk _ _ ?_) <;> try simp only [go_sem, o1, o2, o3, q1, hne, ne_eq, not_false_eq_true, b_quo, b_rem] | with_reducible refine hQ _ _ ?_ <;> simp only [Tryz.f34, go_sem, o1, o2, o3, q1, hne, ne_eq, not_false_eq_true, b_quo, b_rem])
          exact hk
        | false =>
          cases q2 : (decide (a < 0) == decide (b < 0)) with
          | true =>
            rw [divV_2 h (by rw [q1, q2]; rfl), h] at hk
            (try simp only [go_sem, o1, o2, o3, q1, q2, hne, ne_eq, not_false_eq_true, b_quo, b_rem]); repeat' (first | (with_reducible first | refine c_split ?_ ?_ | refine w_split ?_ ?_) <;> intro hb <;> try simp only [go_sem, hb, o1, o2, o3, q1, q2, hne, ne_eq, not_false_eq_true, b_quo, b_rem] | refine call_c (c_spec_AmountOk _ _ ?_) <;> try simp only [go_sem, o1, o2, o3, q1, q2, hne, ne_eq, not_false_eq_true, b_quo, b_rem] | with_reducible refine hQ _ _ ?_ <;> simp only [Tryz.f34, go_sem, o1, o2, o3, q1, q2, hne, ne_eq, not_false_eq_true, b_quo, b_rem])
            exact hk
          | false =>
            rw [divV_1 h (by rw [q1, q2]; rfl), h] at hk
            (try simp only [go_sem, o1, o2, o3, q1, q2, hne, ne_eq, not_false_eq_true, b_quo, b_rem]); repeat' (first | (with_reducible first | refine c_split ?_ ?_ | refine w_split ?_ ?_) <;> intro hb <;> try simp only [go_sem, hb, o1, o2, o3, q1, q2, hne, ne_eq, not_false_eq_true, b_quo, b_rem] | refine call_c (c_spec_AmountOk _ _ ?_) <;> try simp only [go_sem, o1, o2, o3, q1, q2, hne, ne_eq, not_false_eq_true, b_quo, b_rem] | with_reducible refine hQ _ _ ?_ <;> simp only [Tryz.f34, go_sem, o1, o2, o3, q1, q2, hne, ne_eq, not_false_eq_true, b_quo, b_rem])
            exact hk
theorem c_impl_LotsOf (xs : List Lot) (a n : Int) (hn : xs.length ≤ 1000000000) (hok : lotsOk xs = true) (K : AV → AH → Prop) (hk : K (.one (.im ((ownL xs a n).map lotC))) []) : ACalls Tryz.prog 73 [(.one (.im (xs.map lotC))), (.one (.c (.int .i64 (a)))), (.one (.c (.int .i64 (n))))] [] K := by
  refine acall_c Tryz.f73.results.toList mixed Tryz.func73 rfl rfl (by kernel_rfl) ?_
  intro Q hQ hQO
  simp only [go_sem]
  (try simp only [go_sem, hok]); repeat' (first | (with_reducible first | refine c_split ?_ ?_ | refine w_split ?_ ?_) <;> intro hb <;> try simp only [go_sem, hb, hok] | (first | refine call_c (c_impl_LotsOk xs hn _ ?_) | refine call_c (c_lotsOf xs a n hn _ ?_) | fail) <;> try simp only [go_sem, hok] | with_reducible refine hQ _ _ ?_ <;> simp only [Tryz.f73, go_sem, hok])
  exact hk
theorem c_impl_LotsCost (xs : List Lot) (a n : Int) (hn : xs.length ≤ 1000000000) (hok : lotsOk xs = true) (K : AV → AH → Prop) (hk : K (.one (.c (.int .i64 (sumC (ownL xs a n))))) []) : ACalls Tryz.prog 43 [(.one (.im (xs.map lotC))), (.one (.c (.int .i64 (a)))), (.one (.c (.int .i64 (n))))] [] K := by
  refine acall_c Tryz.f43.results.toList mixed Tryz.func43 rfl rfl (by kernel_rfl) ?_
  intro Q hQ hQO
  simp only [go_sem]
  (try simp only [go_sem]); repeat' (first | (with_reducible first | refine c_split ?_ ?_ | refine w_split ?_ ?_) <;> intro hb <;> try simp only [go_sem, hb] | (first | refine call_c (c_impl_LotsOf xs a n hn hok _ ?_) | refine call_c (c_sumLots _ ((lots_fine hok).own a n) _ ?_) | fail) <;> try simp only [go_sem] | with_reducible refine hQ _ _ ?_ <;> simp only [Tryz.f43, go_sem])
  exact hk
theorem c_l5Cost (xs : List Lot) (h : Fine xs) (K : AV → AH → Prop) (hk : K (.one (.c (.int .i64 (sumC xs)))) []) : ACalls Tryz.prog 33 [(.one (.im (xs.map lotC)))] [] K := by
  have hn : xs.length ≤ 1000000000 := by have := h.2; omega
  refine acall_c Tryz.f33.results.toList mixed Tryz.func33 rfl rfl (by kernel_rfl) ?_
  intro Q hQ hQO
  simp only [go_sem]
  refine for_at (xs.length) [0] (fun i f h => f 3 = (.one (.c (.int .i64 (sumC (xs.take i))))) ∧ f 4 = (.one (.c (.int .i64 (i)))) ∧ h = []) (GC.now ?_) ?_
  · simp only [go_sem, nc_0, true_and]
    rfl
  · rintro i f h J hi hA ⟨e3, e4, rfl⟩ hJ
    simp only [go_sem] at hA
    simp only [go_sem, hA, e3, e4]
    refine c_split (fun hb => ?_) (fun hb => ?_)
    rotate_left
    · simp only [go_sem, hb, hA, e3, e4]
      obtain rfl := ge_len hb hi
      (try simp only [go_sem, hA, e3, e4, List.take_length]); repeat' (first | (with_reducible first | refine c_split ?_ ?_ | refine w_split ?_ ?_) <;> intro hb <;> try simp only [go_sem, hb, hA, e3, e4, List.take_length] | with_reducible refine hQ _ _ ?_ <;> simp only [Tryz.f33, go_sem, hA, e3, e4, List.take_length])
      exact hk
    have hi := lt_len hb
    have hw := wrap_nat i (by omega)
    have hil : (i : Int) < ((xs.length : Nat) : Int) := Int.ofNat_lt.2 hi
    have hg0 : (xs)[i]? = some ((xs)[i]) := List.getElem?_eq_getElem (by omega)
    simp only [go_sem, hb, hA, e3, e4, hg0]
    try simp only [go_sem, hA, e3, e4, hil, hg0]
    obtain ⟨s1, s2⟩ := sumQ_s xs i hi
    obtain ⟨w1, w2⟩ := sums_w h hi
    (try simp only [go_sem, hA, e3, e4, hil, hg0, w1, w2]); repeat' (first | (with_reducible first | refine c_split ?_ ?_ | refine w_split ?_ ?_) <;> intro hb <;> try simp only [go_sem, hb, hA, e3, e4, hil, hg0, w1, w2] | fail)
    refine gc_trim 0 (by decide) (by simp only [go_sem]) (by simp only [go_sem]) (hJ _ _ hi (by simp only [go_sem, hA, e3, e4]) ⟨?_, ?_, ?_⟩) <;> try simp only [go_sem, hA, e3, e4, hw, s2]
end Go.Proofs.YtkndmncgohmjmaaGreatDoor
end
section
namespace Go.Proofs.YtkndmncgohmjmaaGreatDoor
open Go.BL Go.RowKit
set_option linter.unusedVariables false
set_option linter.unusedSimpArgs false
set_option maxRecDepth 100000
attribute [local go_sem] accountC balC lotC tradeC booksC booksA lineC
def mkLine (b : Books) (a : Int) (x : Bal) : Line := if (kindOf b.instrs x.instr == 2) = true then ⟨x.instr, x.amount, sumC (ownL b.lots a x.instr), divV (sumC (ownL b.lots a x.instr)) x.amount, wrap64 (sumC (ownL b.lots a x.instr) - wrap64 (divV (sumC (ownL b.lots a x.instr)) x.amount * x.amount))⟩ else ⟨x.instr, x.amount, 0, 0, 0⟩
def linesTo (b : Books) (a : Int) (i : Nat) : List Line := ((b.bals.take i).filter fun x => x.account == a).map (mkLine b a)
theorem lines_s (b : Books) (a : Int) (i : Nat) (hi : i < b.bals.length) : linesTo b a (i + 1) = linesTo b a i ++ (if (b.bals[i].account == a) = true then [mkLine b a b.bals[i]] else []) := by
  rw [linesTo, List.take_succ_eq_append_getElem hi, List.filter_append, List.map_append, linesTo]
  congr 1
  rw [List.filter_cons, List.filter_nil]
  split <;> rfl
theorem lines_len (b : Books) (a : Int) (i : Nat) : (linesTo b a i).length ≤ i := by
  rw [linesTo, List.length_map]
  refine Nat.le_trans (List.length_filter_le _ _) ?_
  rw [List.length_take]; omega
theorem line_room {s : List Line} (h : s.length ≤ 1000000000) (x : List CV) : ((s.map lineC).length + [x].length) * 40 ≤ 140737488355328 := by simp; omega
def stmtR (b : Books) (a : Int) : Option (List Line) := if (booksOk b && !(kindOf b.accounts a == 0)) = true then some (linesTo b a b.bals.length) else none
theorem c_impl_Statement (b : Books) (a : Int) (hs : Small b) (K : AV → AH → Prop) (hk : K (.tup [.one (.sl 0 0 0 ((stmtR b a).getD []).length), (.one (.c (.bool ((stmtR b a).isSome))))]) [.own 0 51 5 none (((stmtR b a).getD []).map lineC)]) : ACalls Tryz.prog 21 [.agg (booksC b), (.one (.c (.int .i64 (a))))] [] K := by
  have hsb := hs.hb
  refine acall_c Tryz.f21.results.toList mixed Tryz.func21 rfl rfl (by kernel_rfl) ?_
  intro Q hQ hQO
  simp only [go_sem]
  cases hok : booksOk b with
  | false =>
    have hr : stmtR b a = none := by rw [stmtR, hok]; rfl
    rw [hr] at hk
    (try simp only [go_sem, hok]); repeat' (first | (with_reducible first | refine c_split ?_ ?_ | refine w_split ?_ ?_) <;> intro hb <;> try simp only [go_sem, hb, hok] | refine call_c (c_impl_BooksOk b hs _ ?_) <;> try simp only [go_sem, hok] | fail)
    refine hQO [1] _ _ (GC.step (Ghost.nlr 4 (by simp only [go_sem]) 51 5) (GC.now ?_)) <;> simp only [Tryz.f21, go_sem, List.nodup_cons, List.nodup_nil, List.mem_cons, List.not_mem_nil, or_false, not_false_eq_true, List.idxOf?_cons, List.idxOf?_nil, Option.map_none]
    exact hk
  | true =>
    obtain ⟨p1, p2, p3, p4, p5⟩ := booksOk_parts hok
    cases hz : (kindOf b.accounts a == 0) with
    | true =>
      have hr : stmtR b a = none := by rw [stmtR, hok, hz]; rfl
      rw [hr] at hk
      (try simp only [go_sem, hok, hz]); repeat' (first | (with_reducible first | refine c_split ?_ ?_ | refine w_split ?_ ?_) <;> intro hb <;> try simp only [go_sem, hb, hok, hz] | (first | refine call_c (c_impl_BooksOk b hs _ ?_) | refine call_c (c_accountKind _ _ hs.ha _ ?_) | fail) <;> try simp only [go_sem, hok, hz] | fail)
      refine hQO [1] _ _ (GC.step (Ghost.nlr 4 (by simp only [go_sem]) 51 5) (GC.now ?_)) <;> simp only [Tryz.f21, go_sem, List.nodup_cons, List.nodup_nil, List.mem_cons, List.not_mem_nil, or_false, not_false_eq_true, List.idxOf?_cons, List.idxOf?_nil, Option.map_none]
      exact hk
    | false =>
      have hr : stmtR b a = some (linesTo b a b.bals.length) := by rw [stmtR, hok, hz]; rfl
      rw [hr] at hk
      (try simp only [go_sem, hok, hz]); repeat' (first | (with_reducible first | refine c_split ?_ ?_ | refine w_split ?_ ?_) <;> intro hb <;> try simp only [go_sem, hb, hok, hz] | (first | refine call_c (c_impl_BooksOk b hs _ ?_) | refine call_c (c_accountKind _ _ hs.ha _ ?_) | fail) <;> try simp only [go_sem, hok, hz] | fail)
      refine while_at (α := Nat × Nat × Option Nat) (fun ⟨j, g, cap⟩ => b.bals.length - j) [1, 2, 22, 23] (fun ⟨j, g, cap⟩ f h => f 24 = (.one (.c (.int .i64 ((j : Int))))) ∧ f 6 = .one (.sl 1 g 0 (linesTo b a j).length) ∧ h = [.own 0 37 6 (some 1) [booksC b], .own g 51 5 cap ((linesTo b a j).map lineC)] ∧ j ≤ b.bals.length) (0, 0, some 0) (GC.now ?_) ?_
      · simp only [go_sem, nc_0, true_and]
        exact ⟨rfl, rfl, Nat.zero_le _⟩
      · rintro ⟨j, g, cap⟩ f h J hA ⟨e24, e6, rfl, hP⟩ hJ
        simp only [go_sem] at hA
        try dsimp only at hJ
        simp only [go_sem, hA, e24, e6]
        have hlen := lines_len b a j
        have hcap : (linesTo b a j).length ≤ 1000000000 := Nat.le_trans hlen (Nat.le_trans hP hsb)
        by_cases hj : j < b.bals.length
        · have hdl : decide ((j : Int) < (b.bals.length : Int)) = true := decide_eq_true (by omega)
          have hg2 : b.bals[j]? = some b.bals[j] := List.getElem?_eq_getElem hj
          have hil2 : (j : Int) < (b.bals.length : Int) := Int.ofNat_lt.2 hj
          have hsn := lines_s b a j hj
          have hw : wrap64 ((j : Int) + 1) = ((j + 1 : Nat) : Int) := wrap_nat j (by omega)
          have hdec : b.bals.length - (j + 1) < b.bals.length - j := Nat.sub_lt_sub_left hj (Nat.lt_succ_self j)
          cases c1 : (b.bals[j].account == a) with
          | false =>
            rw [c1, if_neg (by decide), List.append_nil] at hsn
            (try simp only [go_sem, hA, e24, e6, hdl, hg2, hil2, c1]); repeat' (first | (with_reducible first | refine c_split ?_ ?_ | refine w_split ?_ ?_) <;> intro hb <;> try simp only [go_sem, hb, hA, e24, e6, hdl, hg2, hil2, c1] | fail)
            refine gc_trim 2 (by decide) (by simp only [go_sem]) (by simp only [go_sem, hw, hsn]) (hJ (j + 1, g, cap) _ _ (by exact hdec) (by simp only [go_sem, hA, e24, e6]) ⟨?_, ?_, ?_, ?_⟩) <;> try simp only [go_sem, hA, e24, e6, hw, hsn]
            exact hj
          | true =>
            rw [c1, if_pos rfl, mkLine] at hsn
            cases c2 : (kindOf b.instrs b.bals[j].instr == 2) with
            | false =>
              rw [c2, if_neg (by decide)] at hsn
              (try simp only [go_sem, hA, e24, e6, hdl, hg2, hil2, c1, c2]); repeat' (first | (with_reducible first | refine c_split ?_ ?_ | refine w_split ?_ ?_) <;> intro hb <;> try simp only [go_sem, hb, hA, e24, e6, hdl, hg2, hil2, c1, c2] | refine call_c (c_instrKind _ _ hs.hi _ ?_) <;> try simp only [go_sem, hA, e24, e6, hdl, hg2, hil2, c1, c2] | fail)
              refine ap_end rfl (List.length_map ..).symm (line_room hcap _) ?_
              simp only [go_sem, hA, e24, e6]
              (try simp only [go_sem, hA, e24, e6]); repeat' (first | (with_reducible first | refine c_split ?_ ?_ | refine w_split ?_ ?_) <;> intro hb <;> try simp only [go_sem, hb, hA, e24, e6] | fail)
              refine gc_trim 2 (by decide) (by simp only [go_sem]) (by simp only [go_sem, hw, hsn]) (hJ (j + 1, g + 1, none) _ _ (by exact hdec) (by simp only [go_sem, hA, e24, e6]) ⟨?_, ?_, ?_, ?_⟩) <;> try simp only [go_sem, hA, e24, e6, hw, hsn]
              exact hj
            | true =>
              rw [c2, if_pos rfl] at hsn
              (try simp only [go_sem, hA, e24, e6, hdl, hg2, hil2, c1, c2]); repeat' (first | (with_reducible first | refine c_split ?_ ?_ | refine w_split ?_ ?_) <;> intro hb <;> try simp only [go_sem, hb, hA, e24, e6, hdl, hg2, hil2, c1, c2] | (first | refine call_c (c_instrKind _ _ hs.hi _ ?_) | refine call_c (c_impl_LotsCost _ _ _ hs.hl p4 _ ?_) | refine call_c (c_impl_DivFloor _ _ _ ?_) | fail) <;> try simp only [go_sem, hA, e24, e6, hdl, hg2, hil2, c1, c2] | fail)
              refine ap_end rfl (List.length_map ..).symm (line_room hcap _) ?_
              simp only [go_sem, hA, e24, e6]
              (try simp only [go_sem, hA, e24, e6]); repeat' (first | (with_reducible first | refine c_split ?_ ?_ | refine w_split ?_ ?_) <;> intro hb <;> try simp only [go_sem, hb, hA, e24, e6] | fail)
              refine gc_trim 2 (by decide) (by simp only [go_sem]) (by simp only [go_sem, hw, hsn]) (hJ (j + 1, g + 1, none) _ _ (by exact hdec) (by simp only [go_sem, hA, e24, e6]) ⟨?_, ?_, ?_, ?_⟩) <;> try simp only [go_sem, hA, e24, e6, hw, hsn]
              exact hj
        · have hjl : j = b.bals.length := by omega
          have hdl : decide ((j : Int) < (b.bals.length : Int)) = false := decide_eq_false (by omega)
          rw [← hjl] at hk
          (try simp only [go_sem, hA, e24, e6, hdl]); repeat' (first | (with_reducible first | refine c_split ?_ ?_ | refine w_split ?_ ?_) <;> intro hb <;> try simp only [go_sem, hb, hA, e24, e6, hdl] | fail)
          have htk : (List.map lineC (linesTo b a j)).take (linesTo b a j).length = List.map lineC (linesTo b a j) := List.take_of_length_le (by simp)
          refine hQO [1] _ _ (GC.step (Ghost.cut (l := 1) rfl (linesTo b a j).length) (GC.now ?_)) <;> simp only [Tryz.f21, go_sem, List.nodup_cons, List.nodup_nil, List.mem_cons, List.not_mem_nil, or_false, not_false_eq_true, List.idxOf?_cons, List.idxOf?_nil, Option.map_none, htk]
          exact hk
theorem c_spec_Statement (b : Books) (a : Int) (hs : Small b) (K : AV → AH → Prop) (hk : K (.tup [(.one (.im (((stmtR b a).getD []).map lineC))), (.one (.c (.bool ((stmtR b a).isSome))))]) []) : ACalls Tryz.prog 14 [.agg (booksC b), (.one (.c (.int .i64 (a))))] [] K := by
  have hsb := hs.hb
  refine acall_c Tryz.f14.results.toList mixed Tryz.func14 rfl rfl (by kernel_rfl) ?_
  intro Q hQ hQO
  simp only [go_sem]
  cases hok : booksOk b with
  | false =>
    have hr : stmtR b a = none := by rw [stmtR, hok]; rfl
    rw [hr] at hk
    (try simp only [go_sem, hok]); repeat' (first | (with_reducible first | refine c_split ?_ ?_ | refine w_split ?_ ?_) <;> intro hb <;> try simp only [go_sem, hb, hok] | refine call_c (c_BooksOk b hs _ ?_) <;> try simp only [go_sem, hok] | with_reducible refine hQ _ _ ?_ <;> simp only [Tryz.f14, go_sem, hok])
    exact hk
  | true =>
    obtain ⟨p1, p2, p3, p4, p5⟩ := booksOk_parts hok
    cases hz : (kindOf b.accounts a == 0) with
    | true =>
      have hr : stmtR b a = none := by rw [stmtR, hok, hz]; rfl
      rw [hr] at hk
      (try simp only [go_sem, hok, hz]); repeat' (first | (with_reducible first | refine c_split ?_ ?_ | refine w_split ?_ ?_) <;> intro hb <;> try simp only [go_sem, hb, hok, hz] | (first | refine call_c (c_BooksOk b hs _ ?_) | refine call_c (c_AccountKind _ _ hs.ha p1 _ ?_) | fail) <;> try simp only [go_sem, hok, hz] | with_reducible refine hQ _ _ ?_ <;> simp only [Tryz.f14, go_sem, hok, hz])
      exact hk
    | false =>
      have hr : stmtR b a = some (linesTo b a b.bals.length) := by rw [stmtR, hok, hz]; rfl
      rw [hr] at hk
      (try simp only [go_sem, hok, hz]); repeat' (first | (with_reducible first | refine c_split ?_ ?_ | refine w_split ?_ ?_) <;> intro hb <;> try simp only [go_sem, hb, hok, hz] | (first | refine call_c (c_BooksOk b hs _ ?_) | refine call_c (c_AccountKind _ _ hs.ha p1 _ ?_) | fail) <;> try simp only [go_sem, hok, hz] | fail)
      refine while_at (α := Nat × Nat × Option Nat) (fun ⟨j, g, cap⟩ => b.bals.length - j) [1, 2] (fun ⟨j, g, cap⟩ f h => f 7 = (.one (.c (.int .i64 ((j : Int))))) ∧ f 6 = .one (.sl 1 g 0 (linesTo b a j).length) ∧ h = [.own 0 37 6 (some 1) [booksC b], .own g 51 5 cap ((linesTo b a j).map lineC)] ∧ j ≤ b.bals.length) (0, 0, some 0) (GC.now ?_) ?_
      · simp only [go_sem, nc_0, true_and]
        exact ⟨rfl, rfl, Nat.zero_le _⟩
      · rintro ⟨j, g, cap⟩ f h J hA ⟨e7, e6, rfl, hP⟩ hJ
        simp only [go_sem] at hA
        try dsimp only at hJ
        simp only [go_sem, hA, e7, e6]
        have hlen := lines_len b a j
        have hcap : (linesTo b a j).length ≤ 1000000000 := Nat.le_trans hlen (Nat.le_trans hP hsb)
        by_cases hj : j < b.bals.length
        · have hdl : decide ((j : Int) < (b.bals.length : Int)) = true := decide_eq_true (by omega)
          have hg2 : b.bals[j]? = some b.bals[j] := List.getElem?_eq_getElem hj
          have hil2 : (j : Int) < (b.bals.length : Int) := Int.ofNat_lt.2 hj
          have hsn := lines_s b a j hj
          have hw : wrap64 ((j : Int) + 1) = ((j + 1 : Nat) : Int) := wrap_nat j (by omega)
          have hdec : b.bals.length - (j + 1) < b.bals.length - j := Nat.sub_lt_sub_left hj (Nat.lt_succ_self j)
          cases c1 : (b.bals[j].account == a) with
          | false =>
            rw [c1, if_neg (by decide), List.append_nil] at hsn
            (try simp only [go_sem, hA, e7, e6, hdl, hg2, hil2, c1]); repeat' (first | (with_reducible first | refine c_split ?_ ?_ | refine w_split ?_ ?_) <;> intro hb <;> try simp only [go_sem, hb, hA, e7, e6, hdl, hg2, hil2, c1] | fail)
            refine gc_trim 2 (by decide) (by simp only [go_sem]) (by simp only [go_sem, hw, hsn]) (hJ (j + 1, g, cap) _ _ (by exact hdec) (by simp only [go_sem, hA, e7, e6]) ⟨?_, ?_, ?_, ?_⟩) <;> try simp only [go_sem, hA, e7, e6, hw, hsn]
            exact hj
          | true =>
            rw [c1, if_pos rfl, mkLine] at hsn
            cases c2 : (kindOf b.instrs b.bals[j].instr == 2) with
            | false =>
              rw [c2, if_neg (by decide)] at hsn
              (try simp only [go_sem, hA, e7, e6, hdl, hg2, hil2, c1, c2]); repeat' (first | (with_reducible first | refine c_split ?_ ?_ | refine w_split ?_ ?_) <;> intro hb <;> try simp only [go_sem, hb, hA, e7, e6, hdl, hg2, hil2, c1, c2] | refine call_c (c_InstrKind _ _ hs.hi p2 _ ?_) <;> try simp only [go_sem, hA, e7, e6, hdl, hg2, hil2, c1, c2] | fail)
              refine ap_end rfl (List.length_map ..).symm (line_room hcap _) ?_
              simp only [go_sem, hA, e7, e6]
              (try simp only [go_sem, hA, e7, e6]); repeat' (first | (with_reducible first | refine c_split ?_ ?_ | refine w_split ?_ ?_) <;> intro hb <;> try simp only [go_sem, hb, hA, e7, e6] | fail)
              refine gc_trim 2 (by decide) (by simp only [go_sem]) (by simp only [go_sem, hw, hsn]) (hJ (j + 1, g + 1, none) _ _ (by exact hdec) (by simp only [go_sem, hA, e7, e6]) ⟨?_, ?_, ?_, ?_⟩) <;> try simp only [go_sem, hA, e7, e6, hw, hsn]
              exact hj
            | true =>
              rw [c2, if_pos rfl] at hsn
              (try simp only [go_sem, hA, e7, e6, hdl, hg2, hil2, c1, c2]); repeat' (first | (with_reducible first | refine c_split ?_ ?_ | refine w_split ?_ ?_) <;> intro hb <;> try simp only [go_sem, hb, hA, e7, e6, hdl, hg2, hil2, c1, c2] | (first | refine call_c (c_InstrKind _ _ hs.hi p2 _ ?_) | refine call_c (c_l5Split _ _ _ hs.hl _ ?_) | refine call_c (c_l5Cost _ ((lots_fine p4).own _ _) _ ?_) | refine call_c (c_spec_DivFloor _ _ _ ?_) | fail) <;> try simp only [go_sem, hA, e7, e6, hdl, hg2, hil2, c1, c2] | fail)
              refine ap_end rfl (List.length_map ..).symm (line_room hcap _) ?_
              simp only [go_sem, hA, e7, e6]
              (try simp only [go_sem, hA, e7, e6]); repeat' (first | (with_reducible first | refine c_split ?_ ?_ | refine w_split ?_ ?_) <;> intro hb <;> try simp only [go_sem, hb, hA, e7, e6] | fail)
              refine gc_trim 2 (by decide) (by simp only [go_sem]) (by simp only [go_sem, hw, hsn]) (hJ (j + 1, g + 1, none) _ _ (by exact hdec) (by simp only [go_sem, hA, e7, e6]) ⟨?_, ?_, ?_, ?_⟩) <;> try simp only [go_sem, hA, e7, e6, hw, hsn]
              exact hj
        · have hjl : j = b.bals.length := by omega
          have hdl : decide ((j : Int) < (b.bals.length : Int)) = false := decide_eq_false (by omega)
          rw [← hjl] at hk
          (try simp only [go_sem, hA, e7, e6, hdl]); repeat' (first | (with_reducible first | refine c_split ?_ ?_ | refine w_split ?_ ?_) <;> intro hb <;> try simp only [go_sem, hb, hA, e7, e6, hdl] | with_reducible refine hQ _ _ ?_ <;> simp only [Tryz.f14, go_sem, hA, e7, e6, hdl])
          exact hk
end Go.Proofs.YtkndmncgohmjmaaGreatDoor
end
section
namespace Go.Proofs.YtkndmncgohmjmaaGreatDoor
open Go.BL Go.RowKit
set_option linter.unusedVariables false
set_option linter.unusedSimpArgs false
set_option maxRecDepth 100000
open Go.Shelf
shelf_lay LaysM.n171 Nm 171 at Tryz as Tryz.laysItoa
def bT (l : List UInt8) : ByteArray := ⟨l.toArray⟩
theorem list_bT (l : List UInt8) : (bT l).data.toList = l := by simp [bT]
theorem tab_pow {φ : Phi} {M : Im} {h : AH} {w : World} {G : Cx} (R : Rep G φ M h w) : Lib.TabIs Tryz.prog w "internal/strconv.uint64pow10" .u64 Lib.pow10Tab := by
  have H : TabG ⟨w, fun _ => False, M⟩ := R.tab fun _ _ q => q
  obtain ⟨_, _, t, fr, h3⟩ := H 1 rfl
  have hg : Tryz.prog.globalNamed "internal/strconv.uint64pow10" = some 1 := by kernel_rfl
  unfold Lib.TabIs World.var?
  rw [hg]
  show (match w.heap[1]? with | some (.cells cs _ _) => some cs | _ => none) = _
  rw [show w.heap[1]? = _ from h3]
  rfl
theorem arg1 {φ : Phi} {M : Im} {v : Value} {us : List Value} (h : VAs φ M [.one (.c v)] us) : us = [v] := by
  obtain ⟨hl, h⟩ := h
  obtain ⟨u, hu, hv⟩ := h 0 _ rfl
  have := VA_c hv
  subst this
  match us, hl, hu with
  | [x], _, hu => simp at hu; rw [hu]
theorem c_Itoa (n : Int) (h0 : -9223372036854775808 ≤ n) (h1 : n ≤ 9223372036854775807) (K : AV → AH → Prop) (hk : K (.one (.c (.string (bT (Lib.itoa n))))) []) : ACalls Tryz.prog 45 [(.one (.c (.int .i64 (n))))] [] K := by
  refine ⟨by kernel_rfl, fun φ M w us R hus => ?_⟩
  have e := arg1 hus
  subst e
  refine (show Calls Tryz.prog 45 #[.int .i64 n] w _ from Any.strconv_Itoa Tryz.laysItoa n h0 h1 w (tab_pow R)).mono ?_
  rintro e w' ⟨rfl, k, os, rfl⟩
  refine ⟨_, _, _, φ, M, rfl, mk_c _, hk, R.grow rfl rfl rfl ?_ ?_, Le.refl _⟩
  · show w.heap.size ≤ (w.heap ++ os).size
    rw [Array.size_append]; omega
  · intro b hb
    show (w.heap ++ os)[b]? = w.heap[b]?
    exact Array.getElem?_append_left hb
end Go.Proofs.YtkndmncgohmjmaaGreatDoor
end
section
namespace Go.Proofs.YtkndmncgohmjmaaGreatDoor
open Go.BL Go.RowKit
set_option linter.unusedVariables false
set_option linter.unusedSimpArgs false
set_option maxRecDepth 100000
theorem tm10 (x : Int) : (x < 0 ∧ x.tmod 10 = -((x.natAbs % 10 : Nat) : Int)) ∨ (0 ≤ x ∧ x.tmod 10 = ((x.natAbs % 10 : Nat) : Int)) := by
  by_cases h : x < 0
  · refine .inl ⟨h, ?_⟩
    have e : x = -((x.natAbs : Nat) : Int) := by omega
    rw [e, Int.neg_tmod, Int.tmod_eq_emod_of_nonneg (by omega), Int.natAbs_neg, Int.natAbs_natCast]; rfl
  · refine .inr ⟨by omega, ?_⟩
    rw [Int.tmod_eq_emod_of_nonneg (by omega)]; omega
theorem td10 (x : Int) : (x.tdiv 10).natAbs = x.natAbs / 10 ∧ (x = 0 ↔ x.natAbs = 0) := by
  refine ⟨?_, by omega⟩
  rw [Int.natAbs_tdiv]; rfl
theorem td_range {x : Int} (h0 : -9223372036854775808 ≤ x) (h1 : x ≤ 9223372036854775807) : wrap64 (x.tdiv 10) = x.tdiv 10 ∧ -9223372036854775808 ≤ x.tdiv 10 ∧ x.tdiv 10 ≤ 9223372036854775807 := by
  have := (td10 x).1
  refine ⟨wrap_id _ (by omega) (by omega), by omega, by omega⟩
theorem dig_pos {x : Int} (hb : decide (x.tmod 10 < 0) = false) : x.tmod 10 = ((x.natAbs % 10 : Nat) : Int) := by
  have := of_decide_eq_false hb
  rcases tm10 x with ⟨_, h⟩ | ⟨_, h⟩ <;> omega
theorem dig_neg {x : Int} (hb : decide (x.tmod 10 < 0) = true) : wrap64 (0 - x.tmod 10) = ((x.natAbs % 10 : Nat) : Int) := by
  have := of_decide_eq_true hb
  rcases tm10 x with ⟨_, h⟩ | ⟨_, h⟩
  · rw [wrap_id _ (by omega) (by omega)]; omega
  · omega
theorem dig_byte (m : Nat) : IntKind.u8.wrap (wrap64 (48 + ((m % 10 : Nat) : Int))) = ((48 + m % 10 : Nat) : Int) := by
  rw [wrap_id _ (by omega) (by omega)]
  have h : (m % 10) < 10 := Nat.mod_lt _ (by decide)
  generalize m % 10 = d at h
  match d, h with
  | 0, _ | 1, _ | 2, _ | 3, _ | 4, _ | 5, _ | 6, _ | 7, _ | 8, _ | 9, _ => rfl
theorem str_cons (c : Nat) (out : List UInt8) : strOf [(c : Int)] ++ bT out = bT (UInt8.ofNat c :: out) := by
  show ByteArray.append _ _ = _
  simp [strOf, bT, ByteArray.append, ByteArray.copySlice]
def tInv (n x : Int) (out : List UInt8) : Prop := if x = 0 then out = Lib.decDigits n.natAbs else Lib.decDigits x.natAbs ++ out = Lib.decDigits n.natAbs
theorem tInv_0 {n : Int} (h : n ≠ 0) : tInv n n [] := by rw [tInv, if_neg h, List.append_nil]
theorem tInv_s {n x : Int} {out : List UInt8} (hx : x ≠ 0) (h : tInv n x out) : tInv n (x.tdiv 10) (UInt8.ofNat (48 + x.natAbs % 10) :: out) := by
  rw [tInv, if_neg hx] at h
  have h2 := td10 x
  have h3 := td10 (x.tdiv 10)
  by_cases hs : x.natAbs < 10
  · rw [tInv, if_pos (by omega), ← h, Lib.decDigits_one hs, show x.natAbs % 10 = x.natAbs by omega]; rfl
  · rw [tInv, if_neg (by omega), h2.1, ← h]
    conv => rhs; rw [Lib.decDigits, dif_neg hs]
    rw [List.append_assoc]; rfl
theorem tInv_len {n x : Int} {out : List UInt8} (h0 : -9223372036854775808 ≤ n) (h1 : n ≤ 9223372036854775807) (h : tInv n x out) : out.length ≤ 21 := by
  have hl := Lib.itoa_length_le n h0 h1
  have hd : (Lib.decDigits n.natAbs).length ≤ 21 := by
    unfold Lib.itoa at hl
    split at hl
    · simp at hl; omega
    · rw [show n.natAbs = n.toNat by omega]; exact hl
  unfold tInv at h
  split at h
  · rw [h]; exact hd
  · rw [← h, List.length_append] at hd; omega
theorem t_less {x : Int} (h : x ≠ 0) : (x.tdiv 10).natAbs < x.natAbs := by
  have := td10 x
  omega
theorem bT_size (l : List UInt8) : (bT l).size = l.length := by simp [bT, ByteArray.size]
theorem strOf1_size (x : Int) : (strOf [x]).size = 1 := rfl
theorem bT_neg (out : List UInt8) : (⟨#[45]⟩ : ByteArray) ++ bT out = bT (45 :: out) := str_cons 45 out
theorem bT_zero : (⟨#[48]⟩ : ByteArray) = bT (Lib.itoa 0) := by
  rw [show (0 : Int) = ((0 : Nat) : Int) from rfl, Lib.itoa, if_neg (by omega), Int.toNat_natCast, Lib.decDigits_one (by omega)]; rfl
theorem itoa_pos {n : Int} (h : ¬ n < 0) : Lib.itoa n = Lib.decDigits n.natAbs := by rw [Lib.itoa, if_neg h, show n.toNat = n.natAbs by omega]
theorem itoa_less {n : Int} (h : n < 0) : Lib.itoa n = 45 :: Lib.decDigits n.natAbs := by rw [Lib.itoa, if_pos h]
theorem c_impl_TextOf (n : Int) (h0 : -9223372036854775808 ≤ n) (h1 : n ≤ 9223372036854775807) (K : AV → AH → Prop) (hk : K (.one (.c (.string (bT (Lib.itoa n))))) []) : ACalls Tryz.prog 22 [(.one (.c (.int .i64 (n))))] [] K := by
  refine acall_c Tryz.f22.results.toList mixed Tryz.func22 rfl rfl (by kernel_rfl) ?_
  intro Q hQ hQO
  simp only [go_sem]
  (try simp only [go_sem]); repeat' (first | (with_reducible first | refine c_split ?_ ?_ | refine w_split ?_ ?_) <;> intro hb <;> try simp only [go_sem, hb] | refine call_c (c_Itoa n h0 h1 _ ?_) <;> try simp only [go_sem] | with_reducible refine hQ _ _ ?_ <;> simp only [Tryz.f22, go_sem])
  exact hk
theorem c_spec_TextOf (n : Int) (h0 : -9223372036854775808 ≤ n) (h1 : n ≤ 9223372036854775807) (K : AV → AH → Prop) (hk : K (.one (.c (.string (bT (Lib.itoa n))))) []) : ACalls Tryz.prog 15 [(.one (.c (.int .i64 (n))))] [] K := by
  have h10 : (10 : Int) ≠ 0 := by decide
  refine acall_c Tryz.f15.results.toList mixed Tryz.func15 rfl rfl (by kernel_rfl) ?_
  intro Q hQ hQO
  simp only [go_sem]
  (try simp only [go_sem]); repeat' (first | (with_reducible first | refine c_split ?_ ?_ | refine w_split ?_ ?_) <;> intro hb <;> try simp only [go_sem, hb] | fail)
  · have e0 : n = 0 := eq_of_beq hb
    subst e0
    rw [← bT_zero] at hk
    (try simp only [go_sem]); repeat' (first | (with_reducible first | refine c_split ?_ ?_ | refine w_split ?_ ?_) <;> intro hb <;> try simp only [go_sem, hb] | with_reducible refine hQ _ _ ?_ <;> simp only [Tryz.f15, go_sem])
    exact hk
  · have hn0 : n ≠ 0 := fun q => by subst q; simp at hb
    refine while_at (α := Int × List UInt8) (fun ⟨x, out⟩ => x.natAbs) [0] (fun ⟨x, out⟩ f h => f 4 = (.one (.c (.int .i64 (x)))) ∧ f 3 = (.one (.c (.string (bT out)))) ∧ h = [] ∧ tInv n x out ∧ -9223372036854775808 ≤ x ∧ x ≤ 9223372036854775807) (n, []) (GC.now ?_) ?_
    · simp only [go_sem, nc_0, true_and]
      exact ⟨rfl, tInv_0 hn0, h0, h1⟩
    · rintro ⟨x, out⟩ f h J hA ⟨e4, e3, rfl, hP⟩ hJ
      simp only [go_sem] at hA
      try dsimp only at hJ
      simp only [go_sem, hA, e4, e3]
      obtain ⟨hI, hx0, hx1⟩ := hP
      have hol := tInv_len h0 h1 hI
      have hsz : 1 + out.length ≤ 9223372036854775807 := by omega
      have htd := td_range hx0 hx1
      have hw := htd.1
      have hby := dig_byte x.natAbs
      (try simp only [go_sem, hA, e4, e3]); repeat' (first | (with_reducible first | refine c_split ?_ ?_ | refine w_split ?_ ?_) <;> intro hb <;> try simp only [go_sem, hb, hA, e4, e3] | fail)
      · rename_i hb1
        have hd := dig_neg hb
        have hxn : x ≠ 0 := fun q => by subst q; simp at hb1
        (try simp only [go_sem, hA, e4, e3, hd, hby, strOf1_size, bT_size, hsz, str_cons, h10, b_quo, hw]); repeat' (first | (with_reducible first | refine c_split ?_ ?_ | refine w_split ?_ ?_) <;> intro hb <;> try simp only [go_sem, hb, hA, e4, e3, hd, hby, strOf1_size, bT_size, hsz, str_cons, h10, b_quo, hw] | fail)
        refine gc_trim 0 (by decide) (by simp only [go_sem]) (by simp only [go_sem, hw]) (hJ (x.tdiv 10, UInt8.ofNat (48 + x.natAbs % 10) :: out) _ _ (by exact t_less hxn) (by simp only [go_sem, hA, e4, e3]) ⟨?_, ?_, ?_, ?_⟩) <;> try simp only [go_sem, hA, e4, e3, hw]
        exact ⟨tInv_s hxn hI, htd.2⟩
      · rename_i hb1
        have hd := dig_pos hb
        have hxn : x ≠ 0 := fun q => by subst q; simp at hb1
        (try simp only [go_sem, hA, e4, e3, hd, hby, strOf1_size, bT_size, hsz, str_cons, h10, b_quo, hw]); repeat' (first | (with_reducible first | refine c_split ?_ ?_ | refine w_split ?_ ?_) <;> intro hb <;> try simp only [go_sem, hb, hA, e4, e3, hd, hby, strOf1_size, bT_size, hsz, str_cons, h10, b_quo, hw] | fail)
        refine gc_trim 0 (by decide) (by simp only [go_sem]) (by simp only [go_sem, hw]) (hJ (x.tdiv 10, UInt8.ofNat (48 + x.natAbs % 10) :: out) _ _ (by exact t_less hxn) (by simp only [go_sem, hA, e4, e3]) ⟨?_, ?_, ?_, ?_⟩) <;> try simp only [go_sem, hA, e4, e3, hw]
        exact ⟨tInv_s hxn hI, htd.2⟩
      · rename_i hb1
        have hx : x = 0 := by simpa using hb1
        have hx2 : out = Lib.decDigits n.natAbs := by rw [tInv, if_pos hx] at hI; exact hI
        rw [itoa_less (of_decide_eq_true hb), ← hx2] at hk
        have h45 : (⟨#[45]⟩ : ByteArray).size = 1 := rfl
        (try simp only [go_sem, hA, e4, e3, h45, bT_size, hsz, bT_neg]); repeat' (first | (with_reducible first | refine c_split ?_ ?_ | refine w_split ?_ ?_) <;> intro hb <;> try simp only [go_sem, hb, hA, e4, e3, h45, bT_size, hsz, bT_neg] | with_reducible refine hQ _ _ ?_ <;> simp only [Tryz.f15, go_sem, hA, e4, e3, h45, bT_size, hsz, bT_neg])
        exact hk
      · rename_i hb1
        have hx : x = 0 := by simpa using hb1
        have hx2 : out = Lib.decDigits n.natAbs := by rw [tInv, if_pos hx] at hI; exact hI
        rw [itoa_pos (of_decide_eq_false hb), ← hx2] at hk
        (try simp only [go_sem, hA, e4, e3]); repeat' (first | (with_reducible first | refine c_split ?_ ?_ | refine w_split ?_ ?_) <;> intro hb <;> try simp only [go_sem, hb, hA, e4, e3] | with_reducible refine hQ _ _ ?_ <;> simp only [Tryz.f15, go_sem, hA, e4, e3])
        exact hk
end Go.Proofs.YtkndmncgohmjmaaGreatDoor
end
section
namespace Go.Proofs.YtkndmncgohmjmaaGreatDoor
open Go.BL Go.RowKit
set_option linter.unusedVariables false
set_option linter.unusedSimpArgs false
set_option maxRecDepth 100000
theorem d5_0_LShow : DrawL Tryz.prog 0 27 (.on [(0, true, true), (1, true, true), (2, true, true), (3, true, true), (4, true, true), (5, true, true), (9, true, false), (10, true, false), (11, true, false), (12, true, false), (13, true, false), (17, true, false), (18, true, false), (19, true, false), (20, true, false), (21, true, false), (6, false, false), (7, true, false), (8, true, false), (14, false, false), (15, true, false), (16, true, false), (22, false, false), (23, false, false), (24, false, true)] .nil) := draw_L
theorem d7_0_LShow : DrawL Tryz.prog 0 30 (.on [(0, true, true), (1, true, true), (2, true, true), (5, true, false), (6, true, false), (10, true, false), (11, true, false), (3, false, false), (4, true, false), (7, false, false), (8, true, false), (9, true, false), (12, false, false), (13, false, false), (14, false, false), (15, false, false), (16, false, true)] .nil) := draw_L
theorem d3_0_LShow : DrawL Tryz.prog 0 26 (.on [(0, true, true), (1, false, false), (2, false, false), (3, false, true), (4, false, true)] .nil) := draw_L
attribute [local go_sem] accountC balC lotC tradeC booksC booksA lineC strC
open Go.Shelf
shelf_lay Lays.n156 Nm 156 at Tryz as Tryz.laysJoin
theorem Tryz.extraJoin : Builder.Extra Tryz.prog Tryz.laysJoin_ren where
  sizeBuilder := by kernel_rfl
  liesBuilder := by kernel_rfl
  t5 := Tryz.underlying5
  a5 := Tryz.isAgg5
  z5 := Tryz.sizeOf5
  v5 := Tryz.zeroValue5
  infoByte := by kernel_rfl
  cellsByte := by kernel_rfl
  sizeByte := by kernel_rfl
  neB5 := by decide
theorem below_rep2 {φ : Phi} {M : Im} {h : AH} {w w' : World} {G : Cx} (R : Rep G φ M h w) (b : Below w.heap.size w w') : Rep G φ M h w' := R.grow b.os b.tape b.output b.size fun k hk => b.block k hk
def spT : ByteArray := ⟨#[32]⟩
def joinT (ws : List (List UInt8)) : List UInt8 := Lib.join ws [32]
theorem arg_im {φ : Phi} {M : Im} {es : List (List CV)} {v : Value} {us : List Value} (h : VAs φ M [.one (.im es), .one (.c v)] us) : ∃ u, us = [u, v] ∧ V0 M (.im es) u := by
  obtain ⟨hl, h⟩ := h
  obtain ⟨x, hx, hv⟩ := h 0 _ rfl
  obtain ⟨y, hy, hw⟩ := h 1 _ rfl
  have e2 := VA_c hw
  subst e2
  match us, hl, hx, hy with
  | [a, b], _, ha, hb => simp at ha hb; exact ⟨a, by rw [hb], by rw [ha]; exact hv⟩
theorem c_Join (ws : List (List UInt8)) (hn : ws.length ≤ 1000000000) (hj : (joinT ws).length ≤ 140737488355328) (K : AV → AH → Prop) (hk : K (.one (.c (.string (bT (joinT ws))))) []) : ACalls Tryz.prog 23 [(.one (.im ((ws.map bT).map strC))), (.one (.c (.string (spT))))] [] K := by
  refine ⟨by kernel_rfl, fun φ M w us R hus => ?_⟩
  obtain ⟨u, rfl, hu⟩ := arg_im hus
  have hmm : (ws.map bT).map (·.data.toList) = ws := by rw [List.map_map]; exact (List.map_congr_left fun x _ => list_bT x).trans (List.map_id ws)
  have fin : ∀ {e : Ending} {w' : World}, (e = .returned (.string ⟨(Lib.join ((ws.map bT).map (·.data.toList)) spT.data.toList).toArray⟩) ∧ Below w.heap.size w w') → ∃ v r h' φ' M', e = .returned v ∧ VA φ' M' r v ∧ K r h' ∧ Rep ⟨w, owned φ [], M⟩ φ' M' h' w' ∧ Le φ φ' := by
    rintro e w' ⟨rfl, hb⟩
    refine ⟨_, _, _, φ, M, rfl, ?_, hk, below_rep2 R hb, Le.refl _⟩
    rw [hmm]
    exact mk_c _
  cases hws : ws with
  | nil =>
    subst hws
    cases hu with
    | im0 a cap =>
      refine (show Calls Tryz.prog 23 #[.slice a 0 cap, .string spT] w _ from Any.strings_Join_none { Tryz.laysJoin with } Tryz.extraJoin a cap spT w).mono ?_
      rintro e w' ⟨rfl, rfl⟩
      exact fin ⟨rfl, Below.refl _ _⟩
    | im es k b o cap g h1 h2 h3 h4 =>
      refine (show Calls Tryz.prog 23 #[.slice _ 0 cap, .string spT] w _ from Any.strings_Join_none { Tryz.laysJoin with } Tryz.extraJoin _ cap spT w).mono ?_
      rintro e w' ⟨rfl, rfl⟩
      exact fin ⟨rfl, Below.refl _ _⟩
  | cons x r =>
    generalize hes : (ws.map bT).map strC = es at hu
    have hne : es ≠ [] := by rw [← hes, hws]; simp
    cases hu with
    | im0 a cap => exact absurd rfl hne
    | im es k b o cap g h1 h2 h3 h4 =>
      have hk1 : k = 1 := by
        have := h1 (strC (bT x)) (by rw [← hes, hws]; simp)
        simpa [strC] using this.symm
      subst hk1
      have hlen : es.length = (ws.map bT).length := by rw [← hes]; simp
      have hcells : ∀ (j : Nat) s, (ws.map bT)[j]? = some s → w.cell? ⟨b, o + j, none⟩ = some (.string s) := by
        intro j s hs
        have he : es[j]? = some (strC s) := by rw [← hes, List.getElem?_map, hs]; rfl
        have hm := h3 j (strC s) 0 (.c (.string (s))) he rfl
        have hv := h4 j (strC s) 0 (.c (.string (s))) he rfl
        generalize g j 0 = u at hm hv
        cases hv
        have := (R.imm _ _ hm).1
        simpa using this
      have hbk : b < w.heap.size := by
        have h0 : (ws.map bT)[0]? = some (bT x) := by rw [hws]; rfl
        have he : es[0]? = some (strC (bT x)) := by rw [← hes, List.getElem?_map, h0]; rfl
        exact (R.imm _ _ (h3 0 (strC (bT x)) 0 (.c (.string (bT x))) he rfl)).2
      rw [hlen] at h2 ⊢
      refine (show Calls Tryz.prog 23 #[.slice (some ⟨b, o, none⟩) (ws.map bT).length cap, .string spT] w _ from Any.strings_Join { Tryz.laysJoin with } Tryz.extraJoin b o cap (ws.map bT) spT w hcells hbk (by simp; omega) h2 (by rw [hmm]; exact hj)).mono ?_
      intro e w' h
      exact fin h
theorem bT_app (a b : List UInt8) : bT a ++ bT b = bT (a ++ b) := by
  apply ByteArray.ext
  simp [bT]
def wordS (l : Line) : List UInt8 := Lib.itoa l.instr ++ ([58] ++ (Lib.itoa l.qty ++ ([47] ++ Lib.itoa l.cost)))
theorem word_l (l : Line) : Lib.itoa l.instr ++ [58] ++ Lib.itoa l.qty ++ [47] ++ Lib.itoa l.cost = wordS l := by simp [wordS]
def RngL (l : Line) : Prop := (-9223372036854775808 ≤ l.instr ∧ l.instr ≤ 9223372036854775807) ∧ (-9223372036854775808 ≤ l.qty ∧ l.qty ≤ 9223372036854775807) ∧ (-9223372036854775808 ≤ l.cost ∧ l.cost ≤ 9223372036854775807)
theorem word_len {l : Line} (h : RngL l) : (Lib.itoa l.instr).length ≤ 21 ∧ (Lib.itoa l.qty).length ≤ 21 ∧ (Lib.itoa l.cost).length ≤ 21 ∧ (wordS l).length ≤ 65 := by
  have h1 := Lib.itoa_length_le l.instr h.1.1 h.1.2
  have h2 := Lib.itoa_length_le l.qty h.2.1.1 h.2.1.2
  have h3 := Lib.itoa_length_le l.cost h.2.2.1 h.2.2.2
  have e : (wordS l).length = (Lib.itoa l.instr).length + (1 + ((Lib.itoa l.qty).length + (1 + (Lib.itoa l.cost).length))) := by
    unfold wordS
    simp only [List.length_append, List.length_singleton]
  refine ⟨by omega, by omega, by omega, by omega⟩
theorem joinTail_snoc (sep : List UInt8) (r : List (List UInt8)) (x : List UInt8) : Lib.joinTail sep (r ++ [x]) = Lib.joinTail sep r ++ (sep ++ x) := by simp [Lib.joinTail]
theorem join_snoc (ws : List (List UInt8)) (x : List UInt8) : joinT (ws ++ [x]) = if ws = [] then x else joinT ws ++ [32] ++ x := by
  cases ws with
  | nil => rw [if_pos rfl]; exact Lib.join_one x [32]
  | cons w r =>
    rw [if_neg (by simp)]
    unfold joinT
    rw [List.cons_append, Lib.join_cons, Lib.join_cons, joinTail_snoc]
    simp
def shTo (ls : List Line) (i : Nat) : List UInt8 := joinT ((ls.take i).map wordS)
theorem shTo_s (ls : List Line) (i : Nat) (hi : i < ls.length) : shTo ls (i + 1) = if i = 0 then wordS ls[i] else shTo ls i ++ [32] ++ wordS ls[i] := by
  unfold shTo
  rw [List.take_succ_eq_append_getElem hi, List.map_append, List.map_cons, List.map_nil, join_snoc]
  by_cases h : i = 0
  · subst h; simp
  · rw [if_neg h, if_neg (by
      intro q
      have := congrArg List.length q
      rw [List.length_map, List.length_take, List.length_nil] at this
      omega)]
theorem shTo_len (ls : List Line) (h : ∀ l ∈ ls, RngL l) : ∀ i, i ≤ ls.length → (shTo ls i).length ≤ 66 * i
  | 0, _ => by simp [shTo, joinT, Lib.join_nil]
  | i + 1, hi => by
    have h1 := shTo_len ls h i (by omega)
    have h2 := (word_len (h ls[i] (List.getElem_mem (by omega)))).2.2.2
    rw [shTo_s ls i (by omega)]
    split
    · omega
    · simp only [List.length_append, List.length_singleton]; omega
theorem shTo_all (ls : List Line) : joinT (ls.map wordS) = shTo ls ls.length := by unfold shTo; rw [List.take_length]
def showS (r : Option (List Line)) : List UInt8 := match r with
  | none => []
  | some [] => [110, 111, 116, 104, 105, 110, 103]
  | some (l :: r) => joinT ((l :: r).map wordS)
theorem sh_arith {ls : List Line} {i : Nat} (hi : i < ls.length) (h : ∀ l ∈ ls, RngL l) (hn : ls.length ≤ 1000000) : (shTo ls i).length ≤ 66000000 ∧ RngL ls[i] := by
  refine ⟨?_, h _ (List.getElem_mem hi)⟩
  have := shTo_len ls h i (by omega)
  omega
structure ShA (o a b c : List UInt8) : Prop where
  h1 : o.length + 1 ≤ 9223372036854775807
  h2 : o.length + a.length ≤ 9223372036854775807
  h3 : o.length + a.length + 1 ≤ 9223372036854775807
  h4 : o.length + a.length + 1 + b.length ≤ 9223372036854775807
  h5 : o.length + a.length + 1 + b.length + 1 ≤ 9223372036854775807
  h6 : o.length + a.length + 1 + b.length + 1 + c.length ≤ 9223372036854775807
theorem shA_of {o a b c : List UInt8} (h0 : o.length ≤ 66000001) (ha : a.length ≤ 21) (hb : b.length ≤ 21) (hc : c.length ≤ 21) : ShA o a b c := ⟨by omega, by omega, by omega, by omega, by omega, by omega⟩
theorem c58 : (⟨#[58]⟩ : ByteArray) = bT [58] := rfl
theorem c47 : (⟨#[47]⟩ : ByteArray) = bT [47] := rfl
theorem c32 : (⟨#[32]⟩ : ByteArray) = bT [32] := rfl
theorem cno : (⟨#[110, 111, 116, 104, 105, 110, 103]⟩ : ByteArray) = bT [110, 111, 116, 104, 105, 110, 103] := rfl
theorem len1 (x : UInt8) : [x].length = 1 := rfl
theorem stmt_rng {b : Books} {a : Int} {ls : List Line} (h : stmtR b a = some ls) : (∀ l ∈ ls, RngL l) ∧ ls.length ≤ 160 := by
  unfold stmtR at h
  split at h
  · rename_i hc
    rw [Bool.and_eq_true] at hc
    obtain ⟨p1, p2, p3, p4, p5⟩ := booksOk_parts hc.1
    cases h
    have hl := lines_len b a b.bals.length
    have h3 := okL_len p3
    refine ⟨fun l hl => ?_, by omega⟩
    unfold linesTo at hl
    obtain ⟨x, hx, rfl⟩ := List.mem_map.1 hl
    have hxb : x ∈ b.bals := List.mem_of_mem_take (List.mem_filter.1 hx).1
    have hp := okL_p p3 hxb
    simp only [balP, noOk, amtOk, Bool.and_eq_true, decide_eq_true_eq] at hp
    have hf := (lots_fine p4).own a x.instr
    have hs := sums_le _ hf.1
    have hfl := hf.2
    unfold mkLine
    split
    · refine ⟨⟨by show _ ≤ x.instr; omega, by show x.instr ≤ _; omega⟩, ⟨by show _ ≤ x.amount; omega, by show x.amount ≤ _; omega⟩, ?_, ?_⟩
      · show _ ≤ sumC _; omega
      · show sumC _ ≤ _; omega
    · refine ⟨⟨by show _ ≤ x.instr; omega, by show x.instr ≤ _; omega⟩, ⟨by show _ ≤ x.amount; omega, by show x.amount ≤ _; omega⟩, ?_, ?_⟩
      · show _ ≤ (0 : Int); omega
      · show (0 : Int) ≤ _; omega
  · cases h
theorem sw_lt {a b : Nat} (h : a < b) : (a : Int) < (b : Int) ∧ decide ((a : Int) < (b : Int)) = true ∧ b - (a + 1) < b - a := ⟨by omega, decide_eq_true (by omega), by omega⟩
theorem sw_ge {a b : Nat} (h : ¬ a < b) (h2 : a ≤ b) : decide ((a : Int) < (b : Int)) = false ∧ a = b := ⟨decide_eq_false (by omega), by omega⟩
theorem sw_w {a b : Nat} (h : a < b) (hb : b ≤ 160) : wrap64 ((a : Int) + 1) = ((a + 1 : Nat) : Int) := wrap_nat a (by omega)
theorem sw_0 {j : Nat} : (j = 0 → decide (0 < (j : Int)) = false) ∧ (¬ j = 0 → decide (0 < (j : Int)) = true) := ⟨fun h => decide_eq_false (by omega), fun h => decide_eq_true (by omega)⟩
theorem sw_z {ls : List Line} (h : ¬ ls = []) : ((ls.length : Int) == 0) = false := beq_eq_false_iff_ne.2 (fun q => h (List.length_eq_zero_iff.1 (by omega)))
theorem sw_1 {o : List UInt8} (h : o.length ≤ 66000000) : o.length + 1 ≤ 9223372036854775807 ∧ (o ++ [32]).length ≤ 66000001 := ⟨by omega, by rw [List.length_append, List.length_singleton]; omega⟩
theorem sw_room {xs : List ByteArray} (h : xs.length ≤ 160) (x : List CV) : ((xs.map strC).length + [x].length) * 16 ≤ 140737488355328 := by simp; omega
theorem sw_big {n : Nat} (h : n ≤ 160) : n ≤ 1000000 := by omega
theorem c_spec_ShowStatement (b : Books) (a : Int) (hs : Small b) (K : AV → AH → Prop) (hk : K (.one (.c (.string (bT (showS (stmtR b a)))))) []) : ACalls Tryz.prog 5 [.agg (booksC b), (.one (.c (.int .i64 (a))))] [] K := by
  have c_S := c_spec_Statement b a hs
  cases hr : stmtR b a with
  | none =>
    rw [hr] at hk c_S
    simp only [Option.getD_none, Option.isSome_none] at c_S
    refine acall_c Tryz.f5.results.toList mixed Tryz.func5 rfl rfl (by kernel_rfl) ?_
    intro Q hQ hQO
    simp only [go_sem]
    (try simp only [go_sem]); repeat' (first | (with_reducible first | refine c_split ?_ ?_ | refine w_split ?_ ?_ | refine tw_split ?_ ?_) <;> intro hb <;> try simp only [go_sem, hb] | (first | with_reducible refine d5_0_LShow (by with_unfolding_all rfl) (by kernel_rfl) ?_ | refine call_c (c_S _ ?_) | fail) <;> try simp only [go_sem] | with_reducible refine hQ _ _ ?_ <;> simp only [Tryz.f5, go_sem])
    exact hk
  | some ls =>
    obtain ⟨hrn, hln⟩ := stmt_rng hr
    rw [hr] at hk c_S
    simp only [Option.getD_some, Option.isSome_some] at c_S
    clear hr
    refine acall_c Tryz.f5.results.toList mixed Tryz.func5 rfl rfl (by kernel_rfl) ?_
    intro Q hQ hQO
    simp only [go_sem]
    (try simp only [go_sem]); repeat' (first | (with_reducible first | refine c_split ?_ ?_ | refine w_split ?_ ?_ | refine tw_split ?_ ?_) <;> intro hb <;> try simp only [go_sem, hb] | (first | with_reducible refine d5_0_LShow (by with_unfolding_all rfl) (by kernel_rfl) ?_ | refine call_c (c_S _ ?_) | fail) <;> try simp only [go_sem] | fail)
    refine while_at (α := Nat) (fun j => ls.length - j) [5] (fun j f h => f 7 = (.one (.c (.string (bT (shTo ls j))))) ∧ f 8 = (.one (.c (.int .i64 ((j : Int))))) ∧ h = [.own 0 37 6 (some 1) [booksC b]] ∧ j ≤ ls.length) 0 (GC.now ?_) ?_
    · simp only [go_sem, nc_0, true_and]
      exact ⟨rfl, Nat.zero_le _⟩
    · rintro j f h J hA ⟨e7, e8, rfl, hP⟩ hJ
      simp only [go_sem] at hA
      try dsimp only at hJ
      simp only [go_sem, hA, e7, e8]
      by_cases hj : j < ls.length
      · obtain ⟨s1, hx⟩ := sh_arith hj hrn (sw_big hln)
        obtain ⟨k1, k2, k3, k4⟩ := word_len hx
        obtain ⟨⟨n1, n2⟩, ⟨n3, n4⟩, n5, n6⟩ := hx
        obtain ⟨hil, hd, hdec⟩ := sw_lt hj
        have hg : ls[j]? = some ls[j] := List.getElem?_eq_getElem hj
        have hw := sw_w hj hln
        have hs := shTo_s ls j hj
        generalize hL : ls[j] = x at *
        by_cases h0 : j = 0
        · rw [if_pos h0] at hs
          have d0 := sw_0.1 h0
          have hz : shTo ls j = [] := by rw [h0]; rfl
          rw [hz] at e7
          have A := shA_of (o := []) (by simp) k1 k2 k3
          have A2 := A.h2
          have A3 := A.h3
          have A4 := A.h4
          have A5 := A.h5
          have A6 := A.h6
          simp only [List.length_nil, Nat.zero_add] at A2 A3 A4 A5 A6
          (try simp only [go_sem, hA, e7, e8, hd, hil, hg, d0, c58, c47, bT_app, bT_size, List.length_append, len1, List.nil_append, List.length_nil, Nat.zero_add, A2, A3, A4, A5, A6]); repeat' (first | (with_reducible first | refine c_split ?_ ?_ | refine w_split ?_ ?_ | refine tw_split ?_ ?_) <;> intro hb <;> try simp only [go_sem, hb, hA, e7, e8, hd, hil, hg, d0, c58, c47, bT_app, bT_size, List.length_append, len1, List.nil_append, List.length_nil, Nat.zero_add, A2, A3, A4, A5, A6] | (first | with_reducible refine d5_0_LShow (by with_unfolding_all rfl) (by kernel_rfl) ?_ | refine call_c (c_spec_TextOf _ n1 n2 _ ?_) | refine call_c (c_spec_TextOf _ n3 n4 _ ?_) | refine call_c (c_spec_TextOf _ n5 n6 _ ?_) | fail) <;> try simp only [go_sem, hA, e7, e8, hd, hil, hg, d0, c58, c47, bT_app, bT_size, List.length_append, len1, List.nil_append, List.length_nil, Nat.zero_add, A2, A3, A4, A5, A6] | fail)
          refine GC.now (hJ (j + 1) _ _ (by exact hdec) (by simp only [go_sem, hA, e7, e8]) ⟨?_, ?_, ?_, ?_⟩) <;> try simp only [go_sem, hA, e7, e8, hw, hs, word_l]
          exact hj
        · rw [if_neg h0] at hs
          have d0 := sw_0.2 h0
          obtain ⟨A1, A0⟩ := sw_1 s1
          have A := shA_of A0 k1 k2 k3
          have A2 := A.h2
          have A3 := A.h3
          have A4 := A.h4
          have A5 := A.h5
          have A6 := A.h6
          simp only [List.length_append, len1] at A2 A3 A4 A5 A6
          have hwl : ∀ o : List UInt8, o ++ Lib.itoa x.instr ++ [58] ++ Lib.itoa x.qty ++ [47] ++ Lib.itoa x.cost = o ++ wordS x := fun o => by simp [wordS]
          (try simp only [go_sem, hA, e7, e8, hd, hil, hg, d0, c58, c47, c32, bT_app, bT_size, List.length_append, len1, A1, A2, A3, A4, A5, A6]); repeat' (first | (with_reducible first | refine c_split ?_ ?_ | refine w_split ?_ ?_ | refine tw_split ?_ ?_) <;> intro hb <;> try simp only [go_sem, hb, hA, e7, e8, hd, hil, hg, d0, c58, c47, c32, bT_app, bT_size, List.length_append, len1, A1, A2, A3, A4, A5, A6] | (first | with_reducible refine d5_0_LShow (by with_unfolding_all rfl) (by kernel_rfl) ?_ | refine call_c (c_spec_TextOf _ n1 n2 _ ?_) | refine call_c (c_spec_TextOf _ n3 n4 _ ?_) | refine call_c (c_spec_TextOf _ n5 n6 _ ?_) | fail) <;> try simp only [go_sem, hA, e7, e8, hd, hil, hg, d0, c58, c47, c32, bT_app, bT_size, List.length_append, len1, A1, A2, A3, A4, A5, A6] | fail)
          refine GC.now (hJ (j + 1) _ _ (by exact hdec) (by simp only [go_sem, hA, e7, e8]) ⟨?_, ?_, ?_, ?_⟩) <;> try simp only [go_sem, hA, e7, e8, hw, hs, hwl]
          exact hj
      · obtain ⟨hd, hjl⟩ := sw_ge hj hP
        subst hjl
        by_cases hnil : ls = []
        · subst hnil
          have hd0 : decide ((0 : Int) < 0) = false := rfl
          (try simp only [go_sem, hA, e7, e8, hd0, cno, List.length_nil, nc_0]); repeat' (first | (with_reducible first | refine c_split ?_ ?_ | refine w_split ?_ ?_ | refine tw_split ?_ ?_) <;> intro hb <;> try simp only [go_sem, hb, hA, e7, e8, hd0, cno, List.length_nil, nc_0] | with_reducible refine d5_0_LShow (by with_unfolding_all rfl) (by kernel_rfl) ?_ <;> try simp only [go_sem, hA, e7, e8, hd0, cno, List.length_nil, nc_0] | with_reducible refine hQ _ _ ?_ <;> simp only [Tryz.f5, go_sem, hA, e7, e8, hd0, cno, List.length_nil, nc_0])
          exact hk
        · have hk' : K (.one (.c (.string (bT (shTo ls ls.length))))) [] := by
            rw [← shTo_all]
            cases ls with
            | nil => exact absurd rfl hnil
            | cons l r => exact hk
          have d1 := sw_z hnil
          (try simp only [go_sem, hA, e7, e8, hd, d1]); repeat' (first | (with_reducible first | refine c_split ?_ ?_ | refine w_split ?_ ?_ | refine tw_split ?_ ?_) <;> intro hb <;> try simp only [go_sem, hb, hA, e7, e8, hd, d1] | with_reducible refine d5_0_LShow (by with_unfolding_all rfl) (by kernel_rfl) ?_ <;> try simp only [go_sem, hA, e7, e8, hd, d1] | with_reducible refine hQ _ _ ?_ <;> simp only [Tryz.f5, go_sem, hA, e7, e8, hd, d1])
          exact hk'
theorem c_impl_ShowStatement (b : Books) (a : Int) (hs : Small b) (K : AV → AH → Prop) (hk : K (.one (.c (.string (bT (showS (stmtR b a)))))) []) : ACalls Tryz.prog 7 [.agg (booksC b), (.one (.c (.int .i64 (a))))] [] K := by
  have c_S := c_impl_Statement b a hs
  have hsp : (⟨#[32]⟩ : ByteArray) = spT := rfl
  cases hr : stmtR b a with
  | none =>
    rw [hr] at hk c_S
    simp only [Option.getD_none, Option.isSome_none] at c_S
    refine acall_c Tryz.f7.results.toList mixed Tryz.func7 rfl rfl (by kernel_rfl) ?_
    intro Q hQ hQO
    simp only [go_sem]
    (try simp only [go_sem]); repeat' (first | (with_reducible first | refine c_split ?_ ?_ | refine w_split ?_ ?_ | refine tw_split ?_ ?_) <;> intro hb <;> try simp only [go_sem, hb] | (first | with_reducible refine d7_0_LShow (by with_unfolding_all rfl) (by kernel_rfl) ?_ | refine call_c (c_S _ ?_) | fail) <;> try simp only [go_sem] | with_reducible refine hQ _ _ ?_ <;> simp only [Tryz.f7, go_sem])
    exact hk
  | some ls =>
    obtain ⟨hrn, hln⟩ := stmt_rng hr
    rw [hr] at hk c_S
    simp only [Option.getD_some, Option.isSome_some] at c_S
    clear hr
    by_cases hnil : ls = []
    · subst hnil
      refine acall_c Tryz.f7.results.toList mixed Tryz.func7 rfl rfl (by kernel_rfl) ?_
      intro Q hQ hQO
      simp only [go_sem]
      (try simp only [go_sem, cno, List.length_nil, nc_0]); repeat' (first | (with_reducible first | refine c_split ?_ ?_ | refine w_split ?_ ?_ | refine tw_split ?_ ?_) <;> intro hb <;> try simp only [go_sem, hb, cno, List.length_nil, nc_0] | (first | with_reducible refine d7_0_LShow (by with_unfolding_all rfl) (by kernel_rfl) ?_ | refine call_c (c_S _ ?_) | fail) <;> try simp only [go_sem, cno, List.length_nil, nc_0] | with_reducible refine hQ _ _ ?_ <;> simp only [Tryz.f7, go_sem, cno, List.length_nil, nc_0])
      exact hk
    have d1 := sw_z hnil
    have hk' : K (.one (.c (.string (bT (joinT (ls.map wordS)))))) [] := by
      cases ls with
      | nil => exact absurd rfl hnil
      | cons l r => exact hk
    refine acall_c Tryz.f7.results.toList mixed Tryz.func7 rfl rfl (by kernel_rfl) ?_
    intro Q hQ hQO
    simp only [go_sem]
    (try simp only [go_sem, d1]); repeat' (first | (with_reducible first | refine c_split ?_ ?_ | refine w_split ?_ ?_ | refine tw_split ?_ ?_) <;> intro hb <;> try simp only [go_sem, hb, d1] | (first | with_reducible refine d7_0_LShow (by with_unfolding_all rfl) (by kernel_rfl) ?_ | refine call_c (c_S _ ?_) | fail) <;> try simp only [go_sem, d1] | fail)
    refine while_at (α := Nat × Nat × Option Nat) (fun ⟨j, g, cap⟩ => ls.length - j) [24, 25] (fun ⟨j, g, cap⟩ f h => f 7 = .one (.sl 2 g 0 (((ls.take j).map wordS).map bT).length) ∧ f 26 = (.one (.c (.int .i64 ((j : Int))))) ∧ h = [.own 0 37 6 (some 1) [booksC b], .own 0 51 5 none (ls.map lineC), .own g 9 1 cap ((((ls.take j).map wordS).map bT).map strC)] ∧ j ≤ ls.length) (0, 0, some 0) (GC.now ?_) ?_
    · simp only [go_sem, nc_0, true_and]
      exact Nat.zero_le _
    · rintro ⟨j, g, cap⟩ f h J hA ⟨e7, e26, rfl, hP⟩ hJ
      simp only [go_sem] at hA
      try dsimp only at hJ
      simp only [go_sem, hA, e7, e26]
      by_cases hj : j < ls.length
      · obtain ⟨s1, hx⟩ := sh_arith hj hrn (sw_big hln)
        obtain ⟨k1, k2, k3, k4⟩ := word_len hx
        obtain ⟨⟨n1, n2⟩, ⟨n3, n4⟩, n5, n6⟩ := hx
        obtain ⟨hil, hd, hdec⟩ := sw_lt hj
        have hg : ls[j]? = some ls[j] := List.getElem?_eq_getElem hj
        have hw := sw_w hj hln
        have hs : ((ls.take (j + 1)).map wordS).map bT = ((ls.take j).map wordS).map bT ++ [bT (wordS ls[j])] := by rw [List.take_succ_eq_append_getElem hj, List.map_append, List.map_append]; rfl
        have hlen : (((ls.take j).map wordS).map bT).length ≤ 160 := by rw [List.length_map, List.length_map, List.length_take]; exact Nat.le_trans (Nat.min_le_right _ _) hln
        generalize ((ls.take j).map wordS).map bT = cur at *
        generalize hL : ls[j] = x at *
        have A := shA_of (o := []) (by simp) k1 k2 k3
        have A3 := A.h3
        have A4 := A.h4
        have A5 := A.h5
        have A6 := A.h6
        simp only [List.length_nil, Nat.zero_add] at A3 A4 A5 A6
        (try simp only [go_sem, hA, e7, e26, hd, hil, hg, c58, c47, bT_app, bT_size, List.length_append, len1, A3, A4, A5, A6, word_l]); repeat' (first | (with_reducible first | refine c_split ?_ ?_ | refine w_split ?_ ?_ | refine tw_split ?_ ?_) <;> intro hb <;> try simp only [go_sem, hb, hA, e7, e26, hd, hil, hg, c58, c47, bT_app, bT_size, List.length_append, len1, A3, A4, A5, A6, word_l] | (first | with_reducible refine d7_0_LShow (by with_unfolding_all rfl) (by kernel_rfl) ?_ | refine call_c (c_impl_TextOf _ n1 n2 _ ?_) | refine call_c (c_impl_TextOf _ n3 n4 _ ?_) | refine call_c (c_impl_TextOf _ n5 n6 _ ?_) | fail) <;> try simp only [go_sem, hA, e7, e26, hd, hil, hg, c58, c47, bT_app, bT_size, List.length_append, len1, A3, A4, A5, A6, word_l] | fail)
        refine ap_end rfl (List.length_map ..).symm (sw_room hlen _) ?_
        (try simp only [go_sem, hA, e7, e26, hw]); repeat' (first | (with_reducible first | refine c_split ?_ ?_ | refine w_split ?_ ?_ | refine tw_split ?_ ?_) <;> intro hb <;> try simp only [go_sem, hb, hA, e7, e26, hw] | with_reducible refine d7_0_LShow (by with_unfolding_all rfl) (by kernel_rfl) ?_ <;> try simp only [go_sem, hA, e7, e26, hw] | fail)
        refine gc_trim 3 (by decide) (by simp only [go_sem]) (by simp only [go_sem, hw, hs]) (hJ (j + 1, g + 1, none) _ _ (by exact hdec) (by simp only [go_sem, hA, e7, e26]) ⟨?_, ?_, ?_, ?_⟩) <;> try simp only [go_sem, hA, e7, e26, hw, hs]
        exact hj
      · obtain ⟨hd, hjl⟩ := sw_ge hj hP
        subst hjl
        rw [List.take_length] at e7
        have hjo : (joinT (ls.map wordS)).length ≤ 140737488355328 := by
          rw [shTo_all]
          have := shTo_len ls hrn ls.length (Nat.le_refl _)
          omega
        have hwn : (ls.map wordS).length ≤ 1000000000 := by rw [List.length_map]; exact Nat.le_trans hln (by decide)
        have htk : (((ls.map wordS).map bT).map strC).take ls.length = ((ls.map wordS).map bT).map strC := List.take_of_length_le (by simp)
        (try simp only [go_sem, hA, e7, e26, hd, hsp, List.take_length, htk]); repeat' (first | (with_reducible first | refine c_split ?_ ?_ | refine w_split ?_ ?_ | refine tw_split ?_ ?_) <;> intro hb <;> try simp only [go_sem, hb, hA, e7, e26, hd, hsp, List.take_length, htk] | (first | with_reducible refine d7_0_LShow (by with_unfolding_all rfl) (by kernel_rfl) ?_ | refine call_c (c_Join (ls.map wordS) hwn hjo _ ?_) | fail) <;> try simp only [go_sem, hA, e7, e26, hd, hsp, List.take_length, htk] | with_reducible refine hQ _ _ ?_ <;> simp only [Tryz.f7, go_sem, hA, e7, e26, hd, hsp, List.take_length, htk])
        exact hk'
theorem c_FnExactShowStatement (b : Books) (a : Int) (h : Large b) (K : AV → AH → Prop) (hk : K (.one (.c (.bool (true)))) []) : ACalls Tryz.prog 3 [.agg (booksC b), (.one (.c (.int .i64 (a))))] [] K := by
  refine acall_c Tryz.f3.results.toList mixed Tryz.func3 rfl rfl (by kernel_rfl) ?_
  intro Q hQ hQO
  simp only [go_sem]
  (try simp only [go_sem]); repeat' (first | (with_reducible first | refine c_split ?_ ?_ | refine w_split ?_ ?_ | refine tw_split ?_ ?_) <;> intro hb <;> try simp only [go_sem, hb] | (first | with_reducible refine d3_0_LShow (by with_unfolding_all rfl) (by kernel_rfl) ?_ | refine call_c (c_szBooks b h _ (fun r hr => ?_)) | fail) <;> try simp only [go_sem] | fail)
  · (try simp only [go_sem]); repeat' (first | (with_reducible first | refine c_split ?_ ?_ | refine w_split ?_ ?_ | refine tw_split ?_ ?_) <;> intro hb <;> try simp only [go_sem, hb] | with_reducible refine d3_0_LShow (by with_unfolding_all rfl) (by kernel_rfl) ?_ <;> try simp only [go_sem] | with_reducible refine hQ _ _ ?_ <;> simp only [Tryz.f3, go_sem])
    exact hk
  have hs : Small b := hr (by have := of_decide_eq_false hb; omega)
  clear hb
  have c_own := fun K' hk' => c_impl_ShowStatement b a hs K' hk'
  have c_its := fun K' hk' => c_spec_ShowStatement b a hs K' hk'
  generalize bT (showS (stmtR b a)) = s at c_own c_its
  (try simp only [go_sem, BEq.rfl, bne_self_eq_false, decide_true]); repeat' (first | (with_reducible first | refine c_split ?_ ?_ | refine w_split ?_ ?_ | refine tw_split ?_ ?_) <;> intro hb <;> try simp only [go_sem, hb, BEq.rfl, bne_self_eq_false, decide_true] | (first | with_reducible refine d3_0_LShow (by with_unfolding_all rfl) (by kernel_rfl) ?_ | refine call_c (c_toBooks b hs _ ?_) | refine call_c (c_its _ ?_) | refine call_c (c_own _ ?_) | refine call_c (c_eqBooks b hs _ ?_) | fail) <;> try simp only [go_sem, BEq.rfl, bne_self_eq_false, decide_true] | with_reducible refine hQ _ _ ?_ <;> simp only [Tryz.f3, go_sem, BEq.rfl, bne_self_eq_false, decide_true])
  exact hk
end Go.Proofs.YtkndmncgohmjmaaGreatDoor
end
section
namespace Go.BL
open Go.RowKit Go.ChangeShapes Go.WideShapes Go.ChangeAt Go.Joins Go.Deep
set_option linter.unusedVariables false
set_option linter.unusedSimpArgs false
def MW (W : World) : Im := fun a v => W.cell? a = some v ∧ a.block < W.heap.size
theorem mem_weightsAll {H : Type} {P : Program} {e : TypeId} : ∀ {ds : List (DataW H)} {i : Nat} {d : DataW H}, ds[i]? = some d → ∀ n ∈ d.weights P e, n ∈ DataW.weightsAll P e ds
  | [], i, d, h, _, _ => by simp at h
  | x :: r, 0, d, h, n, hn => by
    simp at h; subst h
    rw [DataW.weightsAll]
    exact List.mem_append_left _ hn
  | x :: r, i + 1, d, h, n, hn => by
    rw [DataW.weightsAll]
    exact List.mem_append_right _ (mem_weightsAll (by simpa using h) n hn)
section
variable {H : Type} {enc0 : TypeId × Value → H} {P : Program} {W : World} {hd : Bool}
def SaysC (W : World) (es : List CV) (cs : List Value) : Prop := cs.length = es.length ∧ ∀ (j : Nat) (c : CV), es[j]? = some c → ∃ u, cs[j]? = some u ∧ V0 (MW W) c u
def Elem {α : Type} (enc0 : TypeId × Value → H) (P : Program) (W : World) (hd : Bool) (e : TypeId) (enc : α → List CV) (good : α → Prop) : Prop :=
  ∀ (fuel : Nat) (cs : List Value) (x : DataW H × List MemPlace), cs.length = P.cellsOf e → DataW.trod enc0 P W 0 (fun _ => true) hd fuel e cs = some x → (∀ n ∈ x.1.weights P e, n ≤ reachBytes) → ∃ y : α, SaysC W (enc y) cs ∧ good y
theorem cell_ok {t e : TypeId} {a : Addr} {len cap : Nat} (ht : P.underlying t = some (.slice e)) (hok : Cell.okWide P W .any 0 t (.slice (some a) len cap)) : a.spot = none ∧ a.block < W.heap.size := by
  simp only [Cell.okWide, ht, Cell.ok] at hok
  obtain ⟨_, _, _, hs, row, cells, hsh, _⟩ := hok
  refine ⟨hs, ?_⟩
  unfold World.shape? at hsh
  split at hsh
  · rename_i q; exact (Array.getElem?_eq_some_iff.1 q).1
  · cases hsh
theorem open_row {α : Type} [Inhabited α] {enc : α → List CV} {good : α → Prop} {t e : TypeId} {k fuel : Nat} {v : Value} {x : DataW H × List MemPlace} (ht : P.underlying t = some (.slice e)) (hk : P.cellsOf e = k) (hek : ∀ y, (enc y).length = k) (hb : 1 ≤ P.bytesOf e)
    (hok : Cell.okWide P W .any 0 t v) (h : DataW.trod enc0 P W 0 (fun _ => true) hd fuel t [v] = some x) (hw : ∀ n ∈ x.1.weights P t, n ≤ reachBytes) (hE : Elem enc0 P W hd e enc good) :
    ∃ xs : List α, V0 (MW W) (.im (xs.map enc)) v ∧ xs.length ≤ 1000000000000000 ∧ ∀ y ∈ xs, good y := by
  rcases Deep.open_slice ht h with ⟨hcs, _⟩ | ⟨a, len, cap, m, n, D, Pl, hcs, _, hlc, hcm, hm, hx, hall⟩
  · simp at hcs
    subst hcs
    exact ⟨[], .im0 _ _, Nat.zero_le _, fun y hy => by simp at hy⟩
  · simp at hcs
    subst hcs
    have hm2 : m = cap := by simpa using hm
    subst hm2
    obtain ⟨hs, hbk⟩ := cell_ok ht hok
    obtain ⟨b, o, s⟩ := a
    simp only at hs hbk
    subst hs
    have hx1 : x.1 = .slice ((List.range len).map D) ((List.range (m - len)).map fun j => D (len + j)) := by rw [hx]
    have hwt : ∀ i, i < len → ∀ n ∈ (D i).weights P e, n ≤ reachBytes := by
      intro i hi n hn
      refine hw n ?_
      rw [hx1]
      simp only [DataW.weights, ht]
      refine List.mem_cons_of_mem _ (List.mem_append_left _ ?_)
      exact mem_weightsAll (i := i) (d := D i) (by simp [hi]) n hn
    have hln : len ≤ 1000000000000000 := by
      have h1 := hw ((len + (m - len)) * P.bytesOf e) (by rw [hx1]; simp [DataW.weights, ht])
      have hr : reachBytes ≤ 1000000000000000 := by decide
      have h2 : len * 1 ≤ (len + (m - len)) * P.bytesOf e := Nat.mul_le_mul (by omega) hb
      omega
    have hf : ∀ i : Nat, ∃ y : α, i < len → good y ∧ ∀ (j : Nat) (c : CV), (enc y)[j]? = some c → ∃ u, W.cell? ⟨b, o + (i * k + j), none⟩ = some u ∧ V0 (MW W) c u := by
      intro i
      by_cases hi : i < len
      · obtain ⟨cs', hcells, htr⟩ := hall i (by omega)
        rw [hk] at hcells
        obtain ⟨_, hl3, hcell⟩ := World.cells?_some hcells
        obtain ⟨y, ⟨hl, hsay⟩, hg⟩ := hE _ _ _ (hl3.trans hk.symm) htr (hwt i hi)
        refine ⟨y, fun _ => ⟨hg, fun j c hc => ?_⟩⟩
        obtain ⟨u, hu, hv⟩ := hsay j c hc
        have hj : j < k := by rw [← hl3]; exact (List.getElem?_eq_some_iff.1 hu).1
        have := hcell j hj
        rw [add_lit, add_lit, Nat.add_assoc] at this
        exact ⟨u, this.trans hu, hv⟩
      · exact ⟨default, fun q => absurd q hi⟩
    obtain ⟨g, hg⟩ := Classical.axiomOfChoice hf
    refine ⟨(List.range len).map g, ?_, by simpa using hln, fun y hy => ?_⟩
    · have hlen : (((List.range len).map g).map enc).length = len := by simp
      have hget : ∀ (i : Nat) (es : List CV), (((List.range len).map g).map enc)[i]? = some es → i < len ∧ es = enc (g i) := fun i es hi => by
        have hil : i < len := by rw [← hlen]; exact (List.getElem?_eq_some_iff.1 hi).1
        refine ⟨hil, ?_⟩
        rw [List.getElem?_map, List.getElem?_map, List.getElem?_range hil] at hi
        exact (Option.some.inj hi).symm
      have := V0.im (M := MW W) (((List.range len).map g).map enc) k b o m (fun i j => (W.cell? ⟨b, o + (i * k + j), none⟩).getD undef) (fun es hes => by
          obtain ⟨y, _, rfl⟩ := List.mem_map.1 hes
          exact hek y) (by rw [hlen]; exact hlc) (fun i es j c hi hj => by
          obtain ⟨hil, rfl⟩ := hget i es hi
          obtain ⟨u, hu, hv⟩ := (hg i hil).2 j c hj
          exact ⟨by rw [hu]; rfl, hbk⟩) (fun i es j c hi hj => by
          obtain ⟨hil, rfl⟩ := hget i es hi
          obtain ⟨u, hu, hv⟩ := (hg i hil).2 j c hj
          rw [hu]; exact hv)
      rw [hlen] at this
      exact this
    · obtain ⟨i, hi, rfl⟩ := List.mem_map.1 hy
      exact (hg i (by simpa using hi)).1
theorem struct_cell {t : TypeId} {cs : Array Value} {ts : List TypeId} {fs : Array Field} (ht : P.underlying t = some (.struct fs)) (hts : P.cellTypes P.depth t = some ts) (hok : Value.okWide P W .any 0 t (.agg cs)) (hl : cs.size = ts.length) (i : Nat) {v : Value} {u : TypeId} (hv : cs[i]? = some v) (hu : ts[i]? = some u) : Cell.okWide P W .any 0 u v := by
  simp only [Value.okWide, ht] at hok
  obtain ⟨cs', hcs, _, ts', hts', _, hc⟩ := hok
  cases hcs
  rw [hts] at hts'
  cases hts'
  obtain ⟨u', hu', hc'⟩ := hc i v hv
  have hil : i < ts.length := (List.getElem?_eq_some_iff.1 hu).1
  rw [Nat.mod_eq_of_lt hil, hu] at hu'
  cases hu'
  exact hc'
end
end Go.BL
end
section
namespace Go.Proofs.YtkndmncgohmjmaaGreatDoor
open Go.BL Go.RowKit
set_option linter.unusedVariables false
set_option linter.unusedSimpArgs false
set_option maxRecDepth 100000
open Go.ChangeShapes Go.WideShapes Go.ChangeAt Go.Joins Go.Deep
section
variable {H : Type} {enc0 : TypeId × Value → H} {W : World} {hd : Bool}
instance : Inhabited File := ⟨⟨0, ⟨#[]⟩, ⟨#[]⟩⟩⟩
end
end Go.Proofs.YtkndmncgohmjmaaGreatDoor
end
section
namespace Go.Proofs.YtkndmncgohmjmaaGreatDoor
open Go.BL Go.RowKit
set_option linter.unusedVariables false
set_option linter.unusedSimpArgs false
set_option maxRecDepth 100000
open Go.ChangeShapes Go.WideShapes Go.ChangeAt Go.Joins Go.Deep
section
variable {H : Type} {enc0 : TypeId × Value → H} {W : World} {hd : Bool}
theorem elem_Account : Elem enc0 Tryz.prog W hd 78 accountC (fun _ => True) := fun fuel cs x hl h hw => by
  have hc : Tryz.prog.cellsOf 78 = 2 := by kernel_rfl
  rw [hc] at hl
  match cs, hl with
  | [u0, u1], _ =>
    obtain ⟨xs, m, _, rfl, _, hlen, hf⟩ := DataW.trod_struct Tryz.underlying78 h
    match xs, hlen with
    | [y0, y1], _ =>
      have e3 : Tryz.prog.cellsOf 3 = 1 := by kernel_rfl
      have h0 := hf 0 _ rfl
      simp [e3] at h0
      obtain ⟨a0, rfl, _⟩ := one_int Tryz.underlying3 h0
      have h1 := hf 1 _ rfl
      simp [e3] at h1
      obtain ⟨a1, rfl, _⟩ := one_int Tryz.underlying3 h1
      refine ⟨⟨a0, a1⟩, ⟨rfl, fun j z hj => ?_⟩, trivial⟩
      rcases j with _ | _ | j
      · simp [accountC] at hj; subst hj; exact ⟨_, rfl, .c _ rfl⟩
      · simp [accountC] at hj; subst hj; exact ⟨_, rfl, .c _ rfl⟩
      · simp [accountC] at hj
theorem elem_Instr : Elem enc0 Tryz.prog W hd 81 accountC (fun _ => True) := fun fuel cs x hl h hw => by
  have hc : Tryz.prog.cellsOf 81 = 2 := by kernel_rfl
  rw [hc] at hl
  match cs, hl with
  | [u0, u1], _ =>
    obtain ⟨xs, m, _, rfl, _, hlen, hf⟩ := DataW.trod_struct Tryz.underlying81 h
    match xs, hlen with
    | [y0, y1], _ =>
      have e3 : Tryz.prog.cellsOf 3 = 1 := by kernel_rfl
      have h0 := hf 0 _ rfl
      simp [e3] at h0
      obtain ⟨a0, rfl, _⟩ := one_int Tryz.underlying3 h0
      have h1 := hf 1 _ rfl
      simp [e3] at h1
      obtain ⟨a1, rfl, _⟩ := one_int Tryz.underlying3 h1
      refine ⟨⟨a0, a1⟩, ⟨rfl, fun j z hj => ?_⟩, trivial⟩
      rcases j with _ | _ | j
      · simp [accountC] at hj; subst hj; exact ⟨_, rfl, .c _ rfl⟩
      · simp [accountC] at hj; subst hj; exact ⟨_, rfl, .c _ rfl⟩
      · simp [accountC] at hj
theorem elem_Bal : Elem enc0 Tryz.prog W hd 83 balC (fun _ => True) := fun fuel cs x hl h hw => by
  have hc : Tryz.prog.cellsOf 83 = 3 := by kernel_rfl
  rw [hc] at hl
  match cs, hl with
  | [u0, u1, u2], _ =>
    obtain ⟨xs, m, _, rfl, _, hlen, hf⟩ := DataW.trod_struct Tryz.underlying83 h
    match xs, hlen with
    | [y0, y1, y2], _ =>
      have e3 : Tryz.prog.cellsOf 3 = 1 := by kernel_rfl
      have h0 := hf 0 _ rfl
      simp [e3] at h0
      obtain ⟨a0, rfl, _⟩ := one_int Tryz.underlying3 h0
      have h1 := hf 1 _ rfl
      simp [e3] at h1
      obtain ⟨a1, rfl, _⟩ := one_int Tryz.underlying3 h1
      have h2 := hf 2 _ rfl
      simp [e3] at h2
      obtain ⟨a2, rfl, _⟩ := one_int Tryz.underlying3 h2
      refine ⟨⟨a0, a1, a2⟩, ⟨rfl, fun j z hj => ?_⟩, trivial⟩
      rcases j with _ | _ | _ | j
      · simp [balC] at hj; subst hj; exact ⟨_, rfl, .c _ rfl⟩
      · simp [balC] at hj; subst hj; exact ⟨_, rfl, .c _ rfl⟩
      · simp [balC] at hj; subst hj; exact ⟨_, rfl, .c _ rfl⟩
      · simp [balC] at hj
theorem elem_Lot : Elem enc0 Tryz.prog W hd 87 lotC (fun _ => True) := fun fuel cs x hl h hw => by
  have hc : Tryz.prog.cellsOf 87 = 5 := by kernel_rfl
  rw [hc] at hl
  match cs, hl with
  | [u0, u1, u2, u3, u4], _ =>
    obtain ⟨xs, m, _, rfl, _, hlen, hf⟩ := DataW.trod_struct Tryz.underlying87 h
    match xs, hlen with
    | [y0, y1, y2, y3, y4], _ =>
      have e3 : Tryz.prog.cellsOf 3 = 1 := by kernel_rfl
      have h0 := hf 0 _ rfl
      simp [e3] at h0
      obtain ⟨a0, rfl, _⟩ := one_int Tryz.underlying3 h0
      have h1 := hf 1 _ rfl
      simp [e3] at h1
      obtain ⟨a1, rfl, _⟩ := one_int Tryz.underlying3 h1
      have h2 := hf 2 _ rfl
      simp [e3] at h2
      obtain ⟨a2, rfl, _⟩ := one_int Tryz.underlying3 h2
      have h3 := hf 3 _ rfl
      simp [e3] at h3
      obtain ⟨a3, rfl, _⟩ := one_int Tryz.underlying3 h3
      have h4 := hf 4 _ rfl
      simp [e3] at h4
      obtain ⟨a4, rfl, _⟩ := one_int Tryz.underlying3 h4
      refine ⟨⟨a0, a1, a2, a3, a4⟩, ⟨rfl, fun j z hj => ?_⟩, trivial⟩
      rcases j with _ | _ | _ | _ | _ | j
      · simp [lotC] at hj; subst hj; exact ⟨_, rfl, .c _ rfl⟩
      · simp [lotC] at hj; subst hj; exact ⟨_, rfl, .c _ rfl⟩
      · simp [lotC] at hj; subst hj; exact ⟨_, rfl, .c _ rfl⟩
      · simp [lotC] at hj; subst hj; exact ⟨_, rfl, .c _ rfl⟩
      · simp [lotC] at hj; subst hj; exact ⟨_, rfl, .c _ rfl⟩
      · simp [lotC] at hj
theorem elem_Trade : Elem enc0 Tryz.prog W hd 91 tradeC (fun _ => True) := fun fuel cs x hl h hw => by
  have hc : Tryz.prog.cellsOf 91 = 8 := by kernel_rfl
  rw [hc] at hl
  match cs, hl with
  | [u0, u1, u2, u3, u4, u5, u6, u7], _ =>
    obtain ⟨xs, m, _, rfl, _, hlen, hf⟩ := DataW.trod_struct Tryz.underlying91 h
    match xs, hlen with
    | [y0, y1, y2, y3, y4, y5, y6, y7], _ =>
      have e3 : Tryz.prog.cellsOf 3 = 1 := by kernel_rfl
      have h0 := hf 0 _ rfl
      simp [e3] at h0
      obtain ⟨a0, rfl, _⟩ := one_int Tryz.underlying3 h0
      have h1 := hf 1 _ rfl
      simp [e3] at h1
      obtain ⟨a1, rfl, _⟩ := one_int Tryz.underlying3 h1
      have h2 := hf 2 _ rfl
      simp [e3] at h2
      obtain ⟨a2, rfl, _⟩ := one_int Tryz.underlying3 h2
      have h3 := hf 3 _ rfl
      simp [e3] at h3
      obtain ⟨a3, rfl, _⟩ := one_int Tryz.underlying3 h3
      have h4 := hf 4 _ rfl
      simp [e3] at h4
      obtain ⟨a4, rfl, _⟩ := one_int Tryz.underlying3 h4
      have h5 := hf 5 _ rfl
      simp [e3] at h5
      obtain ⟨a5, rfl, _⟩ := one_int Tryz.underlying3 h5
      have h6 := hf 6 _ rfl
      simp [e3] at h6
      obtain ⟨a6, rfl, _⟩ := one_int Tryz.underlying3 h6
      have h7 := hf 7 _ rfl
      simp [e3] at h7
      obtain ⟨a7, rfl, _⟩ := one_int Tryz.underlying3 h7
      refine ⟨⟨a0, a1, a2, a3, a4, a5, a6, a7⟩, ⟨rfl, fun j z hj => ?_⟩, trivial⟩
      rcases j with _ | _ | _ | _ | _ | _ | _ | _ | j
      · simp [tradeC] at hj; subst hj; exact ⟨_, rfl, .c _ rfl⟩
      · simp [tradeC] at hj; subst hj; exact ⟨_, rfl, .c _ rfl⟩
      · simp [tradeC] at hj; subst hj; exact ⟨_, rfl, .c _ rfl⟩
      · simp [tradeC] at hj; subst hj; exact ⟨_, rfl, .c _ rfl⟩
      · simp [tradeC] at hj; subst hj; exact ⟨_, rfl, .c _ rfl⟩
      · simp [tradeC] at hj; subst hj; exact ⟨_, rfl, .c _ rfl⟩
      · simp [tradeC] at hj; subst hj; exact ⟨_, rfl, .c _ rfl⟩
      · simp [tradeC] at hj; subst hj; exact ⟨_, rfl, .c _ rfl⟩
      · simp [tradeC] at hj
theorem open_books {v : Value} {d : DataW H} {p : List MemPlace} (hok : Value.okWide Tryz.prog W .any 0 28 v) (h : DataW.Trod enc0 Tryz.prog W 0 (fun _ => true) hd 28 v d p) (hw : ∀ n ∈ d.weights Tryz.prog 28, n ≤ reachBytes) :
    ∃ b : Books, VA (fun _ => none) (MW W) (.agg (booksC b)) v ∧ Large b := by
  obtain ⟨cs, rfl, hsz⟩ := okWide_struct Tryz.underlying28 hok
  have hc6 : Tryz.prog.cellsOf 28 = 6 := by kernel_rfl
  rw [hc6] at hsz
  obtain ⟨l⟩ := cs
  match l, hsz with
  | [v0, v1, v2, v3, v4, v5], _ =>
    obtain ⟨fuel, hf⟩ := h
    obtain ⟨xs, m, _, hx, _, hlen, hfs⟩ := DataW.trod_struct Tryz.underlying28 hf
    match xs, hlen with
    | [y0, y1, y2, y3, y4, y5], _ =>
      simp only [Prod.mk.injEq] at hx
      obtain ⟨rfl, rfl⟩ := hx
      have e0 : Tryz.prog.cellsOf 22 = 1 := by kernel_rfl
      have e1 : Tryz.prog.cellsOf 23 = 1 := by kernel_rfl
      have e2 : Tryz.prog.cellsOf 24 = 1 := by kernel_rfl
      have e3 : Tryz.prog.cellsOf 25 = 1 := by kernel_rfl
      have e4 : Tryz.prog.cellsOf 26 = 1 := by kernel_rfl
      have e5 : Tryz.prog.cellsOf 3 = 1 := by kernel_rfl
      have g0 := hfs 0 _ rfl
      simp [Value.cells, e0] at g0
      have k0 := struct_cell (i := 0) Tryz.underlying28 (ts := [22, 23, 24, 25, 26, 3]) (by kernel_rfl) hok rfl rfl rfl
      obtain ⟨x0, X0, L0, _⟩ := open_row (k := 2) Tryz.underlying22 (by kernel_rfl) (fun _ => rfl) (of_decide_eq_true (by kernel_rfl)) k0 g0 (fun n hn => hw n (by
        simp only [DataW.weights, Tryz.underlying28, List.map_cons, List.map_nil, DataW.weightsEach]
        exact List.mem_append_left _ hn)) (elem_Account (enc0 := enc0))
      have g1 := hfs 1 _ rfl
      simp [Value.cells, e1] at g1
      have k1 := struct_cell (i := 1) Tryz.underlying28 (ts := [22, 23, 24, 25, 26, 3]) (by kernel_rfl) hok rfl rfl rfl
      obtain ⟨x1, X1, L1, _⟩ := open_row (k := 2) Tryz.underlying23 (by kernel_rfl) (fun _ => rfl) (of_decide_eq_true (by kernel_rfl)) k1 g1 (fun n hn => hw n (by
        simp only [DataW.weights, Tryz.underlying28, List.map_cons, List.map_nil, DataW.weightsEach]
        exact List.mem_append_right _ (List.mem_append_left _ hn))) (elem_Instr (enc0 := enc0))
      have g2 := hfs 2 _ rfl
      simp [Value.cells, e2] at g2
      have k2 := struct_cell (i := 2) Tryz.underlying28 (ts := [22, 23, 24, 25, 26, 3]) (by kernel_rfl) hok rfl rfl rfl
      obtain ⟨x2, X2, L2, _⟩ := open_row (k := 3) Tryz.underlying24 (by kernel_rfl) (fun _ => rfl) (of_decide_eq_true (by kernel_rfl)) k2 g2 (fun n hn => hw n (by
        simp only [DataW.weights, Tryz.underlying28, List.map_cons, List.map_nil, DataW.weightsEach]
        exact List.mem_append_right _ (List.mem_append_right _ (List.mem_append_left _ hn)))) (elem_Bal (enc0 := enc0))
      have g3 := hfs 3 _ rfl
      simp [Value.cells, e3] at g3
      have k3 := struct_cell (i := 3) Tryz.underlying28 (ts := [22, 23, 24, 25, 26, 3]) (by kernel_rfl) hok rfl rfl rfl
      obtain ⟨x3, X3, L3, _⟩ := open_row (k := 5) Tryz.underlying25 (by kernel_rfl) (fun _ => rfl) (of_decide_eq_true (by kernel_rfl)) k3 g3 (fun n hn => hw n (by
        simp only [DataW.weights, Tryz.underlying28, List.map_cons, List.map_nil, DataW.weightsEach]
        exact List.mem_append_right _ (List.mem_append_right _ (List.mem_append_right _ (List.mem_append_left _ hn))))) (elem_Lot (enc0 := enc0))
      have g4 := hfs 4 _ rfl
      simp [Value.cells, e4] at g4
      have k4 := struct_cell (i := 4) Tryz.underlying28 (ts := [22, 23, 24, 25, 26, 3]) (by kernel_rfl) hok rfl rfl rfl
      obtain ⟨x4, X4, L4, _⟩ := open_row (k := 8) Tryz.underlying26 (by kernel_rfl) (fun _ => rfl) (of_decide_eq_true (by kernel_rfl)) k4 g4 (fun n hn => hw n (by
        simp only [DataW.weights, Tryz.underlying28, List.map_cons, List.map_nil, DataW.weightsEach]
        exact List.mem_append_right _ (List.mem_append_right _ (List.mem_append_right _ (List.mem_append_right _ (List.mem_append_left _ hn)))))) (elem_Trade (enc0 := enc0))
      have g5 := hfs 5 _ rfl
      simp [Value.cells, e5] at g5
      obtain ⟨lot, rfl, _⟩ := one_int Tryz.underlying3 g5
      refine ⟨⟨x0, x1, x2, x3, x4, lot⟩, ⟨[v0, v1, v2, v3, v4, .int .i64 lot], rfl, rfl, fun j x hj => ?_⟩, ⟨L0, L1, L2, L3, L4⟩⟩
      rcases j with _ | _ | _ | _ | _ | _ | j
      · simp [booksC] at hj; subst hj; exact ⟨_, rfl, X0⟩
      · simp [booksC] at hj; subst hj; exact ⟨_, rfl, X1⟩
      · simp [booksC] at hj; subst hj; exact ⟨_, rfl, X2⟩
      · simp [booksC] at hj; subst hj; exact ⟨_, rfl, X3⟩
      · simp [booksC] at hj; subst hj; exact ⟨_, rfl, X4⟩
      · simp [booksC] at hj; subst hj; exact ⟨_, rfl, .c _ rfl⟩
      · simp [booksC] at hj
end
end Go.Proofs.YtkndmncgohmjmaaGreatDoor
end
