/- EngineOk: an engine that is right, as the program and as the specification says it. Conditions: none. -/
import Derived.Test.YtedkpjaojdkpcaaGreatLG
import Derived.Test.YtedkpjaojdkpcaaGreatLT
import Derived.Test.YtedkpjaojdkpcaaGreatLEngine
import Derived.Test.YtedkpjaojdkpcaaGreatLSegs
namespace Go.Proofs.YtedkpjaojdkpcaaGreat
open Go.BL Go.RowKit
set_option linter.unusedVariables false
set_option linter.unusedSimpArgs false
set_option maxRecDepth 100000
attribute [local go_sem] accountC balC lotC tradeC booksC booksA fileC diskC engC
theorem cast0 : ((0 : Nat) : Int) = 0 := rfl
theorem c_EqualAccount0 (xs : List Account) (K : AV → AH → Prop) (hn : xs.length ≤ 1000000000) (hk : K (.one (.c (.bool ((xs.length : Int) == 0)))) []) : ACalls Tryz.prog 83 [(.one (.im (xs.map accountC))), (.one (.im ([])))] [] K := by
  refine acall_c Tryz.f83.results.toList mixed Tryz.func83 rfl rfl (by kernel_rfl) ?_
  intro Q hQ hQO
  simp only [go_sem]
  cases hz : ((xs.length : Int) == 0) with
  | false =>
    rw [hz] at hk
    (try simp only [go_sem, cast0, hz]); repeat' (first | (with_reducible refine c_split (fun hb => ?_) (fun hb => ?_) <;> try simp only [go_sem, hb, cast0, hz]) | (with_reducible refine w_split (fun hb => ?_) (fun hb => ?_) <;> try simp only [go_sem, hb, cast0, hz]) | (with_reducible refine tw_split (fun hb => ?_) (fun hb => ?_) <;> try simp only [go_sem, hb, cast0, hz]) | (with_reducible refine draw_at 0 16 (by with_unfolding_all rfl) [(0, true, true), (1, true, true), (2, true, true), (3, true, true), (4, true, false), (5, false, false), (6, false, false), (7, false, false), (8, false, true)] (by kernel_rfl) ?_ <;> try simp only [go_sem, cast0, hz]) | (with_reducible refine hQ _ _ ?_ <;> simp only [Tryz.f83, go_sem, cast0, hz]))
    exact hk
  | true =>
    have h0 : xs = [] := List.length_eq_zero_iff.1 (Int.ofNat_inj.1 (eq_of_beq hz))
    rw [hz] at hk
    subst h0
    (try simp only [go_sem]); repeat' (first | (with_reducible refine c_split (fun hb => ?_) (fun hb => ?_) <;> try simp only [go_sem, hb]) | (with_reducible refine w_split (fun hb => ?_) (fun hb => ?_) <;> try simp only [go_sem, hb]) | (with_reducible refine tw_split (fun hb => ?_) (fun hb => ?_) <;> try simp only [go_sem, hb]) | (with_reducible refine draw_at 0 16 (by with_unfolding_all rfl) [(0, true, true), (1, true, true), (2, true, true), (3, true, true), (4, true, false), (5, false, false), (6, false, false), (7, false, false), (8, false, true)] (by kernel_rfl) ?_ <;> try simp only [go_sem]) | (fail))
    refine for_at (0) [0, 1, 12] (fun i f h => f 13 = (.one (.c (.int .i64 (i)))) ∧ f 12 = (.one (.c (.int .i64 (((0 : Nat) : Int))))) ∧ h = []) (GC.now ?_) ?_
    · simp only [go_sem, nc_0, true_and]
    · rintro i f h J hi hA ⟨e13, e12, rfl⟩ hJ
      simp only [go_sem] at hA
      simp only [go_sem, hA, e13, e12]
      refine c_split (fun hb => ?_) (fun hb => ?_)
      rotate_left
      · simp only [go_sem, hb, hA, e13, e12]
        obtain rfl := ge_len hb hi
        (try simp only [go_sem, hA, e13, e12]); repeat' (first | (with_reducible refine c_split (fun hb => ?_) (fun hb => ?_) <;> try simp only [go_sem, hb, hA, e13, e12]) | (with_reducible refine w_split (fun hb => ?_) (fun hb => ?_) <;> try simp only [go_sem, hb, hA, e13, e12]) | (with_reducible refine tw_split (fun hb => ?_) (fun hb => ?_) <;> try simp only [go_sem, hb, hA, e13, e12]) | (with_reducible refine draw_at 0 16 (by with_unfolding_all rfl) [(0, true, true), (1, true, true), (2, true, true), (3, true, true), (4, true, false), (5, false, false), (6, false, false), (7, false, false), (8, false, true)] (by kernel_rfl) ?_ <;> try simp only [go_sem, hA, e13, e12]) | (with_reducible refine hQ _ _ ?_ <;> simp only [Tryz.f83, go_sem, hA, e13, e12]))
        exact hk
      have := of_decide_eq_true hb
      omega
theorem c_EqualInstr0 (xs : List Account) (K : AV → AH → Prop) (hn : xs.length ≤ 1000000000) (hk : K (.one (.c (.bool ((xs.length : Int) == 0)))) []) : ACalls Tryz.prog 84 [(.one (.im (xs.map accountC))), (.one (.im ([])))] [] K := by
  refine acall_c Tryz.f84.results.toList mixed Tryz.func84 rfl rfl (by kernel_rfl) ?_
  intro Q hQ hQO
  simp only [go_sem]
  cases hz : ((xs.length : Int) == 0) with
  | false =>
    rw [hz] at hk
    (try simp only [go_sem, cast0, hz]); repeat' (first | (with_reducible refine c_split (fun hb => ?_) (fun hb => ?_) <;> try simp only [go_sem, hb, cast0, hz]) | (with_reducible refine w_split (fun hb => ?_) (fun hb => ?_) <;> try simp only [go_sem, hb, cast0, hz]) | (with_reducible refine tw_split (fun hb => ?_) (fun hb => ?_) <;> try simp only [go_sem, hb, cast0, hz]) | (with_reducible refine draw_at 0 16 (by with_unfolding_all rfl) [(0, true, true), (1, true, true), (2, true, true), (3, true, true), (4, true, false), (5, false, false), (6, false, false), (7, false, false), (8, false, true)] (by kernel_rfl) ?_ <;> try simp only [go_sem, cast0, hz]) | (with_reducible refine hQ _ _ ?_ <;> simp only [Tryz.f84, go_sem, cast0, hz]))
    exact hk
  | true =>
    have h0 : xs = [] := List.length_eq_zero_iff.1 (Int.ofNat_inj.1 (eq_of_beq hz))
    rw [hz] at hk
    subst h0
    (try simp only [go_sem]); repeat' (first | (with_reducible refine c_split (fun hb => ?_) (fun hb => ?_) <;> try simp only [go_sem, hb]) | (with_reducible refine w_split (fun hb => ?_) (fun hb => ?_) <;> try simp only [go_sem, hb]) | (with_reducible refine tw_split (fun hb => ?_) (fun hb => ?_) <;> try simp only [go_sem, hb]) | (with_reducible refine draw_at 0 16 (by with_unfolding_all rfl) [(0, true, true), (1, true, true), (2, true, true), (3, true, true), (4, true, false), (5, false, false), (6, false, false), (7, false, false), (8, false, true)] (by kernel_rfl) ?_ <;> try simp only [go_sem]) | (fail))
    refine for_at (0) [0, 1, 12] (fun i f h => f 13 = (.one (.c (.int .i64 (i)))) ∧ f 12 = (.one (.c (.int .i64 (((0 : Nat) : Int))))) ∧ h = []) (GC.now ?_) ?_
    · simp only [go_sem, nc_0, true_and]
    · rintro i f h J hi hA ⟨e13, e12, rfl⟩ hJ
      simp only [go_sem] at hA
      simp only [go_sem, hA, e13, e12]
      refine c_split (fun hb => ?_) (fun hb => ?_)
      rotate_left
      · simp only [go_sem, hb, hA, e13, e12]
        obtain rfl := ge_len hb hi
        (try simp only [go_sem, hA, e13, e12]); repeat' (first | (with_reducible refine c_split (fun hb => ?_) (fun hb => ?_) <;> try simp only [go_sem, hb, hA, e13, e12]) | (with_reducible refine w_split (fun hb => ?_) (fun hb => ?_) <;> try simp only [go_sem, hb, hA, e13, e12]) | (with_reducible refine tw_split (fun hb => ?_) (fun hb => ?_) <;> try simp only [go_sem, hb, hA, e13, e12]) | (with_reducible refine draw_at 0 16 (by with_unfolding_all rfl) [(0, true, true), (1, true, true), (2, true, true), (3, true, true), (4, true, false), (5, false, false), (6, false, false), (7, false, false), (8, false, true)] (by kernel_rfl) ?_ <;> try simp only [go_sem, hA, e13, e12]) | (with_reducible refine hQ _ _ ?_ <;> simp only [Tryz.f84, go_sem, hA, e13, e12]))
        exact hk
      have := of_decide_eq_true hb
      omega
theorem c_EqualBal0 (xs : List Bal) (K : AV → AH → Prop) (hn : xs.length ≤ 1000000000) (hk : K (.one (.c (.bool ((xs.length : Int) == 0)))) []) : ACalls Tryz.prog 85 [(.one (.im (xs.map balC))), (.one (.im ([])))] [] K := by
  refine acall_c Tryz.f85.results.toList mixed Tryz.func85 rfl rfl (by kernel_rfl) ?_
  intro Q hQ hQO
  simp only [go_sem]
  cases hz : ((xs.length : Int) == 0) with
  | false =>
    rw [hz] at hk
    (try simp only [go_sem, cast0, hz]); repeat' (first | (with_reducible refine c_split (fun hb => ?_) (fun hb => ?_) <;> try simp only [go_sem, hb, cast0, hz]) | (with_reducible refine w_split (fun hb => ?_) (fun hb => ?_) <;> try simp only [go_sem, hb, cast0, hz]) | (with_reducible refine tw_split (fun hb => ?_) (fun hb => ?_) <;> try simp only [go_sem, hb, cast0, hz]) | (with_reducible refine draw_at 0 16 (by with_unfolding_all rfl) [(0, true, true), (1, true, true), (2, true, true), (3, true, true), (4, true, false), (5, false, false), (6, false, false), (7, false, false), (8, false, true)] (by kernel_rfl) ?_ <;> try simp only [go_sem, cast0, hz]) | (with_reducible refine hQ _ _ ?_ <;> simp only [Tryz.f85, go_sem, cast0, hz]))
    exact hk
  | true =>
    have h0 : xs = [] := List.length_eq_zero_iff.1 (Int.ofNat_inj.1 (eq_of_beq hz))
    rw [hz] at hk
    subst h0
    (try simp only [go_sem]); repeat' (first | (with_reducible refine c_split (fun hb => ?_) (fun hb => ?_) <;> try simp only [go_sem, hb]) | (with_reducible refine w_split (fun hb => ?_) (fun hb => ?_) <;> try simp only [go_sem, hb]) | (with_reducible refine tw_split (fun hb => ?_) (fun hb => ?_) <;> try simp only [go_sem, hb]) | (with_reducible refine draw_at 0 16 (by with_unfolding_all rfl) [(0, true, true), (1, true, true), (2, true, true), (3, true, true), (4, true, false), (5, false, false), (6, false, false), (7, false, false), (8, false, true)] (by kernel_rfl) ?_ <;> try simp only [go_sem]) | (fail))
    refine for_at (0) [0, 1, 12] (fun i f h => f 13 = (.one (.c (.int .i64 (i)))) ∧ f 12 = (.one (.c (.int .i64 (((0 : Nat) : Int))))) ∧ h = []) (GC.now ?_) ?_
    · simp only [go_sem, nc_0, true_and]
    · rintro i f h J hi hA ⟨e13, e12, rfl⟩ hJ
      simp only [go_sem] at hA
      simp only [go_sem, hA, e13, e12]
      refine c_split (fun hb => ?_) (fun hb => ?_)
      rotate_left
      · simp only [go_sem, hb, hA, e13, e12]
        obtain rfl := ge_len hb hi
        (try simp only [go_sem, hA, e13, e12]); repeat' (first | (with_reducible refine c_split (fun hb => ?_) (fun hb => ?_) <;> try simp only [go_sem, hb, hA, e13, e12]) | (with_reducible refine w_split (fun hb => ?_) (fun hb => ?_) <;> try simp only [go_sem, hb, hA, e13, e12]) | (with_reducible refine tw_split (fun hb => ?_) (fun hb => ?_) <;> try simp only [go_sem, hb, hA, e13, e12]) | (with_reducible refine draw_at 0 16 (by with_unfolding_all rfl) [(0, true, true), (1, true, true), (2, true, true), (3, true, true), (4, true, false), (5, false, false), (6, false, false), (7, false, false), (8, false, true)] (by kernel_rfl) ?_ <;> try simp only [go_sem, hA, e13, e12]) | (with_reducible refine hQ _ _ ?_ <;> simp only [Tryz.f85, go_sem, hA, e13, e12]))
        exact hk
      have := of_decide_eq_true hb
      omega
theorem c_EqualLot0 (xs : List Lot) (K : AV → AH → Prop) (hn : xs.length ≤ 1000000000) (hk : K (.one (.c (.bool ((xs.length : Int) == 0)))) []) : ACalls Tryz.prog 86 [(.one (.im (xs.map lotC))), (.one (.im ([])))] [] K := by
  refine acall_c Tryz.f86.results.toList mixed Tryz.func86 rfl rfl (by kernel_rfl) ?_
  intro Q hQ hQO
  simp only [go_sem]
  cases hz : ((xs.length : Int) == 0) with
  | false =>
    rw [hz] at hk
    (try simp only [go_sem, cast0, hz]); repeat' (first | (with_reducible refine c_split (fun hb => ?_) (fun hb => ?_) <;> try simp only [go_sem, hb, cast0, hz]) | (with_reducible refine w_split (fun hb => ?_) (fun hb => ?_) <;> try simp only [go_sem, hb, cast0, hz]) | (with_reducible refine tw_split (fun hb => ?_) (fun hb => ?_) <;> try simp only [go_sem, hb, cast0, hz]) | (with_reducible refine draw_at 0 16 (by with_unfolding_all rfl) [(0, true, true), (1, true, true), (2, true, true), (3, true, true), (4, true, false), (5, false, false), (6, false, false), (7, false, false), (8, false, true)] (by kernel_rfl) ?_ <;> try simp only [go_sem, cast0, hz]) | (with_reducible refine hQ _ _ ?_ <;> simp only [Tryz.f86, go_sem, cast0, hz]))
    exact hk
  | true =>
    have h0 : xs = [] := List.length_eq_zero_iff.1 (Int.ofNat_inj.1 (eq_of_beq hz))
    rw [hz] at hk
    subst h0
    (try simp only [go_sem]); repeat' (first | (with_reducible refine c_split (fun hb => ?_) (fun hb => ?_) <;> try simp only [go_sem, hb]) | (with_reducible refine w_split (fun hb => ?_) (fun hb => ?_) <;> try simp only [go_sem, hb]) | (with_reducible refine tw_split (fun hb => ?_) (fun hb => ?_) <;> try simp only [go_sem, hb]) | (with_reducible refine draw_at 0 16 (by with_unfolding_all rfl) [(0, true, true), (1, true, true), (2, true, true), (3, true, true), (4, true, false), (5, false, false), (6, false, false), (7, false, false), (8, false, true)] (by kernel_rfl) ?_ <;> try simp only [go_sem]) | (fail))
    refine for_at (0) [0, 1, 12] (fun i f h => f 13 = (.one (.c (.int .i64 (i)))) ∧ f 12 = (.one (.c (.int .i64 (((0 : Nat) : Int))))) ∧ h = []) (GC.now ?_) ?_
    · simp only [go_sem, nc_0, true_and]
    · rintro i f h J hi hA ⟨e13, e12, rfl⟩ hJ
      simp only [go_sem] at hA
      simp only [go_sem, hA, e13, e12]
      refine c_split (fun hb => ?_) (fun hb => ?_)
      rotate_left
      · simp only [go_sem, hb, hA, e13, e12]
        obtain rfl := ge_len hb hi
        (try simp only [go_sem, hA, e13, e12]); repeat' (first | (with_reducible refine c_split (fun hb => ?_) (fun hb => ?_) <;> try simp only [go_sem, hb, hA, e13, e12]) | (with_reducible refine w_split (fun hb => ?_) (fun hb => ?_) <;> try simp only [go_sem, hb, hA, e13, e12]) | (with_reducible refine tw_split (fun hb => ?_) (fun hb => ?_) <;> try simp only [go_sem, hb, hA, e13, e12]) | (with_reducible refine draw_at 0 16 (by with_unfolding_all rfl) [(0, true, true), (1, true, true), (2, true, true), (3, true, true), (4, true, false), (5, false, false), (6, false, false), (7, false, false), (8, false, true)] (by kernel_rfl) ?_ <;> try simp only [go_sem, hA, e13, e12]) | (with_reducible refine hQ _ _ ?_ <;> simp only [Tryz.f86, go_sem, hA, e13, e12]))
        exact hk
      have := of_decide_eq_true hb
      omega
theorem c_EqualTrade0 (xs : List Trade) (K : AV → AH → Prop) (hn : xs.length ≤ 1000000000) (hk : K (.one (.c (.bool ((xs.length : Int) == 0)))) []) : ACalls Tryz.prog 87 [(.one (.im (xs.map tradeC))), (.one (.im ([])))] [] K := by
  refine acall_c Tryz.f87.results.toList mixed Tryz.func87 rfl rfl (by kernel_rfl) ?_
  intro Q hQ hQO
  simp only [go_sem]
  cases hz : ((xs.length : Int) == 0) with
  | false =>
    rw [hz] at hk
    (try simp only [go_sem, cast0, hz]); repeat' (first | (with_reducible refine c_split (fun hb => ?_) (fun hb => ?_) <;> try simp only [go_sem, hb, cast0, hz]) | (with_reducible refine w_split (fun hb => ?_) (fun hb => ?_) <;> try simp only [go_sem, hb, cast0, hz]) | (with_reducible refine tw_split (fun hb => ?_) (fun hb => ?_) <;> try simp only [go_sem, hb, cast0, hz]) | (with_reducible refine draw_at 0 16 (by with_unfolding_all rfl) [(0, true, true), (1, true, true), (2, true, true), (3, true, true), (4, true, false), (5, false, false), (6, false, false), (7, false, false), (8, false, true)] (by kernel_rfl) ?_ <;> try simp only [go_sem, cast0, hz]) | (with_reducible refine hQ _ _ ?_ <;> simp only [Tryz.f87, go_sem, cast0, hz]))
    exact hk
  | true =>
    have h0 : xs = [] := List.length_eq_zero_iff.1 (Int.ofNat_inj.1 (eq_of_beq hz))
    rw [hz] at hk
    subst h0
    (try simp only [go_sem]); repeat' (first | (with_reducible refine c_split (fun hb => ?_) (fun hb => ?_) <;> try simp only [go_sem, hb]) | (with_reducible refine w_split (fun hb => ?_) (fun hb => ?_) <;> try simp only [go_sem, hb]) | (with_reducible refine tw_split (fun hb => ?_) (fun hb => ?_) <;> try simp only [go_sem, hb]) | (with_reducible refine draw_at 0 16 (by with_unfolding_all rfl) [(0, true, true), (1, true, true), (2, true, true), (3, true, true), (4, true, false), (5, false, false), (6, false, false), (7, false, false), (8, false, true)] (by kernel_rfl) ?_ <;> try simp only [go_sem]) | (fail))
    refine for_at (0) [0, 1, 12] (fun i f h => f 13 = (.one (.c (.int .i64 (i)))) ∧ f 12 = (.one (.c (.int .i64 (((0 : Nat) : Int))))) ∧ h = []) (GC.now ?_) ?_
    · simp only [go_sem, nc_0, true_and]
    · rintro i f h J hi hA ⟨e13, e12, rfl⟩ hJ
      simp only [go_sem] at hA
      simp only [go_sem, hA, e13, e12]
      refine c_split (fun hb => ?_) (fun hb => ?_)
      rotate_left
      · simp only [go_sem, hb, hA, e13, e12]
        obtain rfl := ge_len hb hi
        (try simp only [go_sem, hA, e13, e12]); repeat' (first | (with_reducible refine c_split (fun hb => ?_) (fun hb => ?_) <;> try simp only [go_sem, hb, hA, e13, e12]) | (with_reducible refine w_split (fun hb => ?_) (fun hb => ?_) <;> try simp only [go_sem, hb, hA, e13, e12]) | (with_reducible refine tw_split (fun hb => ?_) (fun hb => ?_) <;> try simp only [go_sem, hb, hA, e13, e12]) | (with_reducible refine draw_at 0 16 (by with_unfolding_all rfl) [(0, true, true), (1, true, true), (2, true, true), (3, true, true), (4, true, false), (5, false, false), (6, false, false), (7, false, false), (8, false, true)] (by kernel_rfl) ?_ <;> try simp only [go_sem, hA, e13, e12]) | (with_reducible refine hQ _ _ ?_ <;> simp only [Tryz.f87, go_sem, hA, e13, e12]))
        exact hk
      have := of_decide_eq_true hb
      omega
def bareB (b : Books) : Bool := ((b.accounts.length : Int) == 0) && ((b.instrs.length : Int) == 0) && ((b.bals.length : Int) == 0) && ((b.lots.length : Int) == 0) && ((b.trades.length : Int) == 0) && (b.lot == 0)
theorem c_impl_BooksSame0 (b : Books) (hs : Small b) (K : AV → AH → Prop) (hk : K (.one (.c (.bool (bareB b)))) []) : ACalls Tryz.prog 35 [.agg (booksC b), .agg [.im ([]), .im ([]), .im ([]), .im ([]), .im ([]), .c (.int .i64 (0))]] [] K := by
  refine acall_c Tryz.f35.results.toList mixed Tryz.func35 rfl rfl (by kernel_rfl) ?_
  intro Q hQ hQO
  simp only [go_sem]
  (try simp only [go_sem]); repeat' (first | (with_reducible refine c_split (fun hb => ?_) (fun hb => ?_) <;> try simp only [go_sem, hb]) | (with_reducible refine w_split (fun hb => ?_) (fun hb => ?_) <;> try simp only [go_sem, hb]) | (refine call_c (c_EqualAccount0 _ _ hs.ha ?_) <;> try simp only [go_sem]) | (refine call_c (c_EqualInstr0 _ _ hs.hi ?_) <;> try simp only [go_sem]) | (refine call_c (c_EqualBal0 _ _ hs.hb ?_) <;> try simp only [go_sem]) | (refine call_c (c_EqualLot0 _ _ hs.hl ?_) <;> try simp only [go_sem]) | (refine call_c (c_EqualTrade0 _ _ hs.ht ?_) <;> try simp only [go_sem]) | (with_reducible refine hQ _ _ ?_ <;> simp only [Tryz.f35, go_sem]))
  all_goals exact kB hk (by simp only [bareB]; simp_all)
theorem bare_eq {b : Books} (h : bareB b = true) : b = ⟨[], [], [], [], [], 0⟩ := by
  obtain ⟨a, i, l, o, t, n⟩ := b
  simp only [bareB, Bool.and_eq_true, beq_iff_eq] at h
  obtain ⟨⟨⟨⟨⟨h1, h2⟩, h3⟩, h4⟩, h5⟩, h6⟩ := h
  simp only [Books.mk.injEq]
  exact ⟨List.length_eq_zero_iff.1 (Int.ofNat_inj.1 h1), List.length_eq_zero_iff.1 (Int.ofNat_inj.1 h2), List.length_eq_zero_iff.1 (Int.ofNat_inj.1 h3), List.length_eq_zero_iff.1 (Int.ofNat_inj.1 h4), List.length_eq_zero_iff.1 (Int.ofNat_inj.1 h5), h6⟩
theorem c_spec_BooksSame0 (b : Books) (hs : Small b) (K : AV → AH → Prop) (hk : K (.one (.c (.bool (bareB b)))) []) : ACalls Tryz.prog 28 [.agg (booksC b), .agg [.im ([]), .im ([]), .im ([]), .im ([]), .im ([]), .c (.int .i64 (0))]] [] K := by
  cases hz : bareB b with
  | false =>
    rw [hz] at hk
    refine acall_c Tryz.f28.results.toList mixed Tryz.func28 rfl rfl (by kernel_rfl) ?_
    intro Q hQ hQO
    simp only [go_sem]
    simp only [bareB] at hz
    cases c0 : ((b.accounts.length : Int) == 0) with
    | false =>
      (try simp only [go_sem, cast0, c0]); repeat' (first | (with_reducible refine c_split (fun hb => ?_) (fun hb => ?_) <;> try simp only [go_sem, hb, cast0, c0]) | (with_reducible refine w_split (fun hb => ?_) (fun hb => ?_) <;> try simp only [go_sem, hb, cast0, c0]) | (with_reducible refine tw_split (fun hb => ?_) (fun hb => ?_) <;> try simp only [go_sem, hb, cast0, c0]) | (with_reducible refine draw_at 0 67 (by with_unfolding_all rfl) [(0, true, true), (1, true, true), (2, true, false), (3, true, true), (4, true, false), (5, true, false), (6, true, false), (7, false, false), (8, false, false), (9, false, false), (10, false, false)] (by kernel_rfl) ?_ <;> try simp only [go_sem, cast0, c0]) | (with_reducible refine draw_at 0 85 (by with_unfolding_all rfl) [(0, true, true), (1, true, true), (2, true, false), (3, true, true), (4, true, false), (5, true, false), (6, true, false), (7, false, false), (8, false, false), (9, false, false), (10, false, false)] (by kernel_rfl) ?_ <;> try simp only [go_sem, cast0, c0]) | (with_reducible refine draw_at 0 103 (by with_unfolding_all rfl) [(0, true, true), (1, true, true), (2, true, false), (3, true, true), (4, true, false), (5, true, false), (6, true, false), (7, false, false), (8, false, false), (9, false, false), (10, false, false)] (by kernel_rfl) ?_ <;> try simp only [go_sem, cast0, c0]) | (with_reducible refine draw_at 0 121 (by with_unfolding_all rfl) [(0, true, true), (1, true, true), (2, true, false), (3, true, true), (4, true, false), (5, true, false), (6, true, false), (7, false, false), (8, false, false), (9, false, false), (10, false, false)] (by kernel_rfl) ?_ <;> try simp only [go_sem, cast0, c0]) | (with_reducible refine draw_at 0 139 (by with_unfolding_all rfl) [(0, true, true), (1, true, true), (2, true, false), (3, true, true), (4, true, false), (5, true, false), (6, true, false), (7, false, false), (8, false, false), (9, false, false), (10, false, false)] (by kernel_rfl) ?_ <;> try simp only [go_sem, cast0, c0]) | (with_reducible refine hQ _ _ ?_ <;> simp only [Tryz.f28, go_sem, cast0, c0]))
      exact hk
    | true =>
      cases c1 : ((b.instrs.length : Int) == 0) with
      | false =>
        (try simp only [go_sem, cast0, c0, c1]); repeat' (first | (with_reducible refine c_split (fun hb => ?_) (fun hb => ?_) <;> try simp only [go_sem, hb, cast0, c0, c1]) | (with_reducible refine w_split (fun hb => ?_) (fun hb => ?_) <;> try simp only [go_sem, hb, cast0, c0, c1]) | (with_reducible refine tw_split (fun hb => ?_) (fun hb => ?_) <;> try simp only [go_sem, hb, cast0, c0, c1]) | (with_reducible refine draw_at 0 67 (by with_unfolding_all rfl) [(0, true, true), (1, true, true), (2, true, false), (3, true, true), (4, true, false), (5, true, false), (6, true, false), (7, false, false), (8, false, false), (9, false, false), (10, false, false)] (by kernel_rfl) ?_ <;> try simp only [go_sem, cast0, c0, c1]) | (with_reducible refine draw_at 0 85 (by with_unfolding_all rfl) [(0, true, true), (1, true, true), (2, true, false), (3, true, true), (4, true, false), (5, true, false), (6, true, false), (7, false, false), (8, false, false), (9, false, false), (10, false, false)] (by kernel_rfl) ?_ <;> try simp only [go_sem, cast0, c0, c1]) | (with_reducible refine draw_at 0 103 (by with_unfolding_all rfl) [(0, true, true), (1, true, true), (2, true, false), (3, true, true), (4, true, false), (5, true, false), (6, true, false), (7, false, false), (8, false, false), (9, false, false), (10, false, false)] (by kernel_rfl) ?_ <;> try simp only [go_sem, cast0, c0, c1]) | (with_reducible refine draw_at 0 121 (by with_unfolding_all rfl) [(0, true, true), (1, true, true), (2, true, false), (3, true, true), (4, true, false), (5, true, false), (6, true, false), (7, false, false), (8, false, false), (9, false, false), (10, false, false)] (by kernel_rfl) ?_ <;> try simp only [go_sem, cast0, c0, c1]) | (with_reducible refine draw_at 0 139 (by with_unfolding_all rfl) [(0, true, true), (1, true, true), (2, true, false), (3, true, true), (4, true, false), (5, true, false), (6, true, false), (7, false, false), (8, false, false), (9, false, false), (10, false, false)] (by kernel_rfl) ?_ <;> try simp only [go_sem, cast0, c0, c1]) | (with_reducible refine hQ _ _ ?_ <;> simp only [Tryz.f28, go_sem, cast0, c0, c1]))
        exact hk
      | true =>
        cases c2 : ((b.bals.length : Int) == 0) with
        | false =>
          (try simp only [go_sem, cast0, c0, c1, c2]); repeat' (first | (with_reducible refine c_split (fun hb => ?_) (fun hb => ?_) <;> try simp only [go_sem, hb, cast0, c0, c1, c2]) | (with_reducible refine w_split (fun hb => ?_) (fun hb => ?_) <;> try simp only [go_sem, hb, cast0, c0, c1, c2]) | (with_reducible refine tw_split (fun hb => ?_) (fun hb => ?_) <;> try simp only [go_sem, hb, cast0, c0, c1, c2]) | (with_reducible refine draw_at 0 67 (by with_unfolding_all rfl) [(0, true, true), (1, true, true), (2, true, false), (3, true, true), (4, true, false), (5, true, false), (6, true, false), (7, false, false), (8, false, false), (9, false, false), (10, false, false)] (by kernel_rfl) ?_ <;> try simp only [go_sem, cast0, c0, c1, c2]) | (with_reducible refine draw_at 0 85 (by with_unfolding_all rfl) [(0, true, true), (1, true, true), (2, true, false), (3, true, true), (4, true, false), (5, true, false), (6, true, false), (7, false, false), (8, false, false), (9, false, false), (10, false, false)] (by kernel_rfl) ?_ <;> try simp only [go_sem, cast0, c0, c1, c2]) | (with_reducible refine draw_at 0 103 (by with_unfolding_all rfl) [(0, true, true), (1, true, true), (2, true, false), (3, true, true), (4, true, false), (5, true, false), (6, true, false), (7, false, false), (8, false, false), (9, false, false), (10, false, false)] (by kernel_rfl) ?_ <;> try simp only [go_sem, cast0, c0, c1, c2]) | (with_reducible refine draw_at 0 121 (by with_unfolding_all rfl) [(0, true, true), (1, true, true), (2, true, false), (3, true, true), (4, true, false), (5, true, false), (6, true, false), (7, false, false), (8, false, false), (9, false, false), (10, false, false)] (by kernel_rfl) ?_ <;> try simp only [go_sem, cast0, c0, c1, c2]) | (with_reducible refine draw_at 0 139 (by with_unfolding_all rfl) [(0, true, true), (1, true, true), (2, true, false), (3, true, true), (4, true, false), (5, true, false), (6, true, false), (7, false, false), (8, false, false), (9, false, false), (10, false, false)] (by kernel_rfl) ?_ <;> try simp only [go_sem, cast0, c0, c1, c2]) | (with_reducible refine hQ _ _ ?_ <;> simp only [Tryz.f28, go_sem, cast0, c0, c1, c2]))
          exact hk
        | true =>
          cases c3 : ((b.lots.length : Int) == 0) with
          | false =>
            (try simp only [go_sem, cast0, c0, c1, c2, c3]); repeat' (first | (with_reducible refine c_split (fun hb => ?_) (fun hb => ?_) <;> try simp only [go_sem, hb, cast0, c0, c1, c2, c3]) | (with_reducible refine w_split (fun hb => ?_) (fun hb => ?_) <;> try simp only [go_sem, hb, cast0, c0, c1, c2, c3]) | (with_reducible refine tw_split (fun hb => ?_) (fun hb => ?_) <;> try simp only [go_sem, hb, cast0, c0, c1, c2, c3]) | (with_reducible refine draw_at 0 67 (by with_unfolding_all rfl) [(0, true, true), (1, true, true), (2, true, false), (3, true, true), (4, true, false), (5, true, false), (6, true, false), (7, false, false), (8, false, false), (9, false, false), (10, false, false)] (by kernel_rfl) ?_ <;> try simp only [go_sem, cast0, c0, c1, c2, c3]) | (with_reducible refine draw_at 0 85 (by with_unfolding_all rfl) [(0, true, true), (1, true, true), (2, true, false), (3, true, true), (4, true, false), (5, true, false), (6, true, false), (7, false, false), (8, false, false), (9, false, false), (10, false, false)] (by kernel_rfl) ?_ <;> try simp only [go_sem, cast0, c0, c1, c2, c3]) | (with_reducible refine draw_at 0 103 (by with_unfolding_all rfl) [(0, true, true), (1, true, true), (2, true, false), (3, true, true), (4, true, false), (5, true, false), (6, true, false), (7, false, false), (8, false, false), (9, false, false), (10, false, false)] (by kernel_rfl) ?_ <;> try simp only [go_sem, cast0, c0, c1, c2, c3]) | (with_reducible refine draw_at 0 121 (by with_unfolding_all rfl) [(0, true, true), (1, true, true), (2, true, false), (3, true, true), (4, true, false), (5, true, false), (6, true, false), (7, false, false), (8, false, false), (9, false, false), (10, false, false)] (by kernel_rfl) ?_ <;> try simp only [go_sem, cast0, c0, c1, c2, c3]) | (with_reducible refine draw_at 0 139 (by with_unfolding_all rfl) [(0, true, true), (1, true, true), (2, true, false), (3, true, true), (4, true, false), (5, true, false), (6, true, false), (7, false, false), (8, false, false), (9, false, false), (10, false, false)] (by kernel_rfl) ?_ <;> try simp only [go_sem, cast0, c0, c1, c2, c3]) | (with_reducible refine hQ _ _ ?_ <;> simp only [Tryz.f28, go_sem, cast0, c0, c1, c2, c3]))
            exact hk
          | true =>
            cases c4 : ((b.trades.length : Int) == 0) with
            | false =>
              (try simp only [go_sem, cast0, c0, c1, c2, c3, c4]); repeat' (first | (with_reducible refine c_split (fun hb => ?_) (fun hb => ?_) <;> try simp only [go_sem, hb, cast0, c0, c1, c2, c3, c4]) | (with_reducible refine w_split (fun hb => ?_) (fun hb => ?_) <;> try simp only [go_sem, hb, cast0, c0, c1, c2, c3, c4]) | (with_reducible refine tw_split (fun hb => ?_) (fun hb => ?_) <;> try simp only [go_sem, hb, cast0, c0, c1, c2, c3, c4]) | (with_reducible refine draw_at 0 67 (by with_unfolding_all rfl) [(0, true, true), (1, true, true), (2, true, false), (3, true, true), (4, true, false), (5, true, false), (6, true, false), (7, false, false), (8, false, false), (9, false, false), (10, false, false)] (by kernel_rfl) ?_ <;> try simp only [go_sem, cast0, c0, c1, c2, c3, c4]) | (with_reducible refine draw_at 0 85 (by with_unfolding_all rfl) [(0, true, true), (1, true, true), (2, true, false), (3, true, true), (4, true, false), (5, true, false), (6, true, false), (7, false, false), (8, false, false), (9, false, false), (10, false, false)] (by kernel_rfl) ?_ <;> try simp only [go_sem, cast0, c0, c1, c2, c3, c4]) | (with_reducible refine draw_at 0 103 (by with_unfolding_all rfl) [(0, true, true), (1, true, true), (2, true, false), (3, true, true), (4, true, false), (5, true, false), (6, true, false), (7, false, false), (8, false, false), (9, false, false), (10, false, false)] (by kernel_rfl) ?_ <;> try simp only [go_sem, cast0, c0, c1, c2, c3, c4]) | (with_reducible refine draw_at 0 121 (by with_unfolding_all rfl) [(0, true, true), (1, true, true), (2, true, false), (3, true, true), (4, true, false), (5, true, false), (6, true, false), (7, false, false), (8, false, false), (9, false, false), (10, false, false)] (by kernel_rfl) ?_ <;> try simp only [go_sem, cast0, c0, c1, c2, c3, c4]) | (with_reducible refine draw_at 0 139 (by with_unfolding_all rfl) [(0, true, true), (1, true, true), (2, true, false), (3, true, true), (4, true, false), (5, true, false), (6, true, false), (7, false, false), (8, false, false), (9, false, false), (10, false, false)] (by kernel_rfl) ?_ <;> try simp only [go_sem, cast0, c0, c1, c2, c3, c4]) | (with_reducible refine hQ _ _ ?_ <;> simp only [Tryz.f28, go_sem, cast0, c0, c1, c2, c3, c4]))
              exact hk
            | true =>
              cases c5 : (b.lot == 0) with
              | false =>
                (try simp only [go_sem, cast0, c0, c1, c2, c3, c4, c5]); repeat' (first | (with_reducible refine c_split (fun hb => ?_) (fun hb => ?_) <;> try simp only [go_sem, hb, cast0, c0, c1, c2, c3, c4, c5]) | (with_reducible refine w_split (fun hb => ?_) (fun hb => ?_) <;> try simp only [go_sem, hb, cast0, c0, c1, c2, c3, c4, c5]) | (with_reducible refine tw_split (fun hb => ?_) (fun hb => ?_) <;> try simp only [go_sem, hb, cast0, c0, c1, c2, c3, c4, c5]) | (with_reducible refine draw_at 0 67 (by with_unfolding_all rfl) [(0, true, true), (1, true, true), (2, true, false), (3, true, true), (4, true, false), (5, true, false), (6, true, false), (7, false, false), (8, false, false), (9, false, false), (10, false, false)] (by kernel_rfl) ?_ <;> try simp only [go_sem, cast0, c0, c1, c2, c3, c4, c5]) | (with_reducible refine draw_at 0 85 (by with_unfolding_all rfl) [(0, true, true), (1, true, true), (2, true, false), (3, true, true), (4, true, false), (5, true, false), (6, true, false), (7, false, false), (8, false, false), (9, false, false), (10, false, false)] (by kernel_rfl) ?_ <;> try simp only [go_sem, cast0, c0, c1, c2, c3, c4, c5]) | (with_reducible refine draw_at 0 103 (by with_unfolding_all rfl) [(0, true, true), (1, true, true), (2, true, false), (3, true, true), (4, true, false), (5, true, false), (6, true, false), (7, false, false), (8, false, false), (9, false, false), (10, false, false)] (by kernel_rfl) ?_ <;> try simp only [go_sem, cast0, c0, c1, c2, c3, c4, c5]) | (with_reducible refine draw_at 0 121 (by with_unfolding_all rfl) [(0, true, true), (1, true, true), (2, true, false), (3, true, true), (4, true, false), (5, true, false), (6, true, false), (7, false, false), (8, false, false), (9, false, false), (10, false, false)] (by kernel_rfl) ?_ <;> try simp only [go_sem, cast0, c0, c1, c2, c3, c4, c5]) | (with_reducible refine draw_at 0 139 (by with_unfolding_all rfl) [(0, true, true), (1, true, true), (2, true, false), (3, true, true), (4, true, false), (5, true, false), (6, true, false), (7, false, false), (8, false, false), (9, false, false), (10, false, false)] (by kernel_rfl) ?_ <;> try simp only [go_sem, cast0, c0, c1, c2, c3, c4, c5]) | (with_reducible refine hQ _ _ ?_ <;> simp only [Tryz.f28, go_sem, cast0, c0, c1, c2, c3, c4, c5]))
                exact hk
              | true =>
                rw [c0, c1, c2, c3, c4, c5] at hz
                cases hz
  | true =>
    rw [hz] at hk
    have hb0 := bare_eq hz
    subst hb0
    refine acall_c Tryz.f28.results.toList mixed Tryz.func28 rfl rfl (by kernel_rfl) ?_
    intro Q hQ hQO
    simp only [go_sem]
    (try simp only [go_sem, BEq.rfl]); repeat' (first | (with_reducible refine c_split (fun hb => ?_) (fun hb => ?_) <;> try simp only [go_sem, hb, BEq.rfl]) | (with_reducible refine w_split (fun hb => ?_) (fun hb => ?_) <;> try simp only [go_sem, hb, BEq.rfl]) | (with_reducible refine tw_split (fun hb => ?_) (fun hb => ?_) <;> try simp only [go_sem, hb, BEq.rfl]) | (with_reducible refine draw_at 0 67 (by with_unfolding_all rfl) [(0, true, true), (1, true, true), (2, true, false), (3, true, true), (4, true, false), (5, true, false), (6, true, false), (7, false, false), (8, false, false), (9, false, false), (10, false, false)] (by kernel_rfl) ?_ <;> try simp only [go_sem, BEq.rfl]) | (with_reducible refine draw_at 0 85 (by with_unfolding_all rfl) [(0, true, true), (1, true, true), (2, true, false), (3, true, true), (4, true, false), (5, true, false), (6, true, false), (7, false, false), (8, false, false), (9, false, false), (10, false, false)] (by kernel_rfl) ?_ <;> try simp only [go_sem, BEq.rfl]) | (with_reducible refine draw_at 0 103 (by with_unfolding_all rfl) [(0, true, true), (1, true, true), (2, true, false), (3, true, true), (4, true, false), (5, true, false), (6, true, false), (7, false, false), (8, false, false), (9, false, false), (10, false, false)] (by kernel_rfl) ?_ <;> try simp only [go_sem, BEq.rfl]) | (with_reducible refine draw_at 0 121 (by with_unfolding_all rfl) [(0, true, true), (1, true, true), (2, true, false), (3, true, true), (4, true, false), (5, true, false), (6, true, false), (7, false, false), (8, false, false), (9, false, false), (10, false, false)] (by kernel_rfl) ?_ <;> try simp only [go_sem, BEq.rfl]) | (with_reducible refine draw_at 0 139 (by with_unfolding_all rfl) [(0, true, true), (1, true, true), (2, true, false), (3, true, true), (4, true, false), (5, true, false), (6, true, false), (7, false, false), (8, false, false), (9, false, false), (10, false, false)] (by kernel_rfl) ?_ <;> try simp only [go_sem, BEq.rfl]) | (fail))
    refine for_at (0) [2, 3] (fun i f h => f 5 = (.one (.c (.int .i64 (i)))) ∧ h = [.own 0 40 6 (some 1) [[.im ([]), .im ([]), .im ([]), .im ([]), .im ([]), .c (.int .i64 (0))]], .own 0 40 6 (some 1) [[.im ([]), .im ([]), .im ([]), .im ([]), .im ([]), .c (.int .i64 (0))]]]) (GC.now ?_) ?_
    · simp only [go_sem, nc_0, true_and]
    · rintro i f h J hi hA ⟨e5, rfl⟩ hJ
      simp only [go_sem] at hA
      simp only [go_sem, hA, e5]
      have hn0 : ¬ (decide ((i : Int) < ((0 : Nat) : Int)) = true) := fun q => by have := of_decide_eq_true q; omega
      refine c_split (fun hb => ?_) (fun hb => ?_)
      rotate_left
      · simp only [go_sem, hb, hA, e5]
        obtain rfl := ge_len hb hi
        (try simp only [go_sem, hA, e5]); repeat' (first | (with_reducible refine c_split (fun hb => ?_) (fun hb => ?_) <;> try simp only [go_sem, hb, hA, e5]) | (with_reducible refine w_split (fun hb => ?_) (fun hb => ?_) <;> try simp only [go_sem, hb, hA, e5]) | (with_reducible refine tw_split (fun hb => ?_) (fun hb => ?_) <;> try simp only [go_sem, hb, hA, e5]) | (with_reducible refine draw_at 0 67 (by with_unfolding_all rfl) [(0, true, true), (1, true, true), (2, true, false), (3, true, true), (4, true, false), (5, true, false), (6, true, false), (7, false, false), (8, false, false), (9, false, false), (10, false, false)] (by kernel_rfl) ?_ <;> try simp only [go_sem, hA, e5]) | (with_reducible refine draw_at 0 85 (by with_unfolding_all rfl) [(0, true, true), (1, true, true), (2, true, false), (3, true, true), (4, true, false), (5, true, false), (6, true, false), (7, false, false), (8, false, false), (9, false, false), (10, false, false)] (by kernel_rfl) ?_ <;> try simp only [go_sem, hA, e5]) | (with_reducible refine draw_at 0 103 (by with_unfolding_all rfl) [(0, true, true), (1, true, true), (2, true, false), (3, true, true), (4, true, false), (5, true, false), (6, true, false), (7, false, false), (8, false, false), (9, false, false), (10, false, false)] (by kernel_rfl) ?_ <;> try simp only [go_sem, hA, e5]) | (with_reducible refine draw_at 0 121 (by with_unfolding_all rfl) [(0, true, true), (1, true, true), (2, true, false), (3, true, true), (4, true, false), (5, true, false), (6, true, false), (7, false, false), (8, false, false), (9, false, false), (10, false, false)] (by kernel_rfl) ?_ <;> try simp only [go_sem, hA, e5]) | (with_reducible refine draw_at 0 139 (by with_unfolding_all rfl) [(0, true, true), (1, true, true), (2, true, false), (3, true, true), (4, true, false), (5, true, false), (6, true, false), (7, false, false), (8, false, false), (9, false, false), (10, false, false)] (by kernel_rfl) ?_ <;> try simp only [go_sem, hA, e5]) | (fail))
        have hq0 := hA
        refine for_at (0) [2, 3] (fun i f h => f 6 = (.one (.c (.int .i64 (i)))) ∧ h = [.own 0 40 6 (some 1) [[.im ([]), .im ([]), .im ([]), .im ([]), .im ([]), .c (.int .i64 (0))]], .own 0 40 6 (some 1) [[.im ([]), .im ([]), .im ([]), .im ([]), .im ([]), .c (.int .i64 (0))]]]) (GC.now ?_) ?_
        · simp only [go_sem, nc_0, true_and, hq0]
        · rintro i f h J hi hA ⟨e6, rfl⟩ hJ
          simp only [go_sem, hq0] at hA
          simp only [go_sem, hA, e6, hq0]
          try simp only [hq0] at hA
          have hn1 : ¬ (decide ((i : Int) < ((0 : Nat) : Int)) = true) := fun q => by have := of_decide_eq_true q; omega
          refine c_split (fun hb => ?_) (fun hb => ?_)
          rotate_left
          · simp only [go_sem, hb, hA, e6, hq0]
            obtain rfl := ge_len hb hi
            (try simp only [go_sem, hA, e6, hq0]); repeat' (first | (with_reducible refine c_split (fun hb => ?_) (fun hb => ?_) <;> try simp only [go_sem, hb, hA, e6, hq0]) | (with_reducible refine w_split (fun hb => ?_) (fun hb => ?_) <;> try simp only [go_sem, hb, hA, e6, hq0]) | (with_reducible refine tw_split (fun hb => ?_) (fun hb => ?_) <;> try simp only [go_sem, hb, hA, e6, hq0]) | (with_reducible refine draw_at 0 67 (by with_unfolding_all rfl) [(0, true, true), (1, true, true), (2, true, false), (3, true, true), (4, true, false), (5, true, false), (6, true, false), (7, false, false), (8, false, false), (9, false, false), (10, false, false)] (by kernel_rfl) ?_ <;> try simp only [go_sem, hA, e6, hq0]) | (with_reducible refine draw_at 0 85 (by with_unfolding_all rfl) [(0, true, true), (1, true, true), (2, true, false), (3, true, true), (4, true, false), (5, true, false), (6, true, false), (7, false, false), (8, false, false), (9, false, false), (10, false, false)] (by kernel_rfl) ?_ <;> try simp only [go_sem, hA, e6, hq0]) | (with_reducible refine draw_at 0 103 (by with_unfolding_all rfl) [(0, true, true), (1, true, true), (2, true, false), (3, true, true), (4, true, false), (5, true, false), (6, true, false), (7, false, false), (8, false, false), (9, false, false), (10, false, false)] (by kernel_rfl) ?_ <;> try simp only [go_sem, hA, e6, hq0]) | (with_reducible refine draw_at 0 121 (by with_unfolding_all rfl) [(0, true, true), (1, true, true), (2, true, false), (3, true, true), (4, true, false), (5, true, false), (6, true, false), (7, false, false), (8, false, false), (9, false, false), (10, false, false)] (by kernel_rfl) ?_ <;> try simp only [go_sem, hA, e6, hq0]) | (with_reducible refine draw_at 0 139 (by with_unfolding_all rfl) [(0, true, true), (1, true, true), (2, true, false), (3, true, true), (4, true, false), (5, true, false), (6, true, false), (7, false, false), (8, false, false), (9, false, false), (10, false, false)] (by kernel_rfl) ?_ <;> try simp only [go_sem, hA, e6, hq0]) | (fail))
            have hq1 := hA
            refine for_at (0) [2, 3] (fun i f h => f 7 = (.one (.c (.int .i64 (i)))) ∧ h = [.own 0 40 6 (some 1) [[.im ([]), .im ([]), .im ([]), .im ([]), .im ([]), .c (.int .i64 (0))]], .own 0 40 6 (some 1) [[.im ([]), .im ([]), .im ([]), .im ([]), .im ([]), .c (.int .i64 (0))]]]) (GC.now ?_) ?_
            · simp only [go_sem, nc_0, true_and, hq1]
            · rintro i f h J hi hA ⟨e7, rfl⟩ hJ
              simp only [go_sem, hq1] at hA
              simp only [go_sem, hA, e7, hq1]
              try simp only [hq1] at hA
              have hn2 : ¬ (decide ((i : Int) < ((0 : Nat) : Int)) = true) := fun q => by have := of_decide_eq_true q; omega
              refine c_split (fun hb => ?_) (fun hb => ?_)
              rotate_left
              · simp only [go_sem, hb, hA, e7, hq1]
                obtain rfl := ge_len hb hi
                (try simp only [go_sem, hA, e7, hq1]); repeat' (first | (with_reducible refine c_split (fun hb => ?_) (fun hb => ?_) <;> try simp only [go_sem, hb, hA, e7, hq1]) | (with_reducible refine w_split (fun hb => ?_) (fun hb => ?_) <;> try simp only [go_sem, hb, hA, e7, hq1]) | (with_reducible refine tw_split (fun hb => ?_) (fun hb => ?_) <;> try simp only [go_sem, hb, hA, e7, hq1]) | (with_reducible refine draw_at 0 67 (by with_unfolding_all rfl) [(0, true, true), (1, true, true), (2, true, false), (3, true, true), (4, true, false), (5, true, false), (6, true, false), (7, false, false), (8, false, false), (9, false, false), (10, false, false)] (by kernel_rfl) ?_ <;> try simp only [go_sem, hA, e7, hq1]) | (with_reducible refine draw_at 0 85 (by with_unfolding_all rfl) [(0, true, true), (1, true, true), (2, true, false), (3, true, true), (4, true, false), (5, true, false), (6, true, false), (7, false, false), (8, false, false), (9, false, false), (10, false, false)] (by kernel_rfl) ?_ <;> try simp only [go_sem, hA, e7, hq1]) | (with_reducible refine draw_at 0 103 (by with_unfolding_all rfl) [(0, true, true), (1, true, true), (2, true, false), (3, true, true), (4, true, false), (5, true, false), (6, true, false), (7, false, false), (8, false, false), (9, false, false), (10, false, false)] (by kernel_rfl) ?_ <;> try simp only [go_sem, hA, e7, hq1]) | (with_reducible refine draw_at 0 121 (by with_unfolding_all rfl) [(0, true, true), (1, true, true), (2, true, false), (3, true, true), (4, true, false), (5, true, false), (6, true, false), (7, false, false), (8, false, false), (9, false, false), (10, false, false)] (by kernel_rfl) ?_ <;> try simp only [go_sem, hA, e7, hq1]) | (with_reducible refine draw_at 0 139 (by with_unfolding_all rfl) [(0, true, true), (1, true, true), (2, true, false), (3, true, true), (4, true, false), (5, true, false), (6, true, false), (7, false, false), (8, false, false), (9, false, false), (10, false, false)] (by kernel_rfl) ?_ <;> try simp only [go_sem, hA, e7, hq1]) | (fail))
                have hq2 := hA
                refine for_at (0) [2, 3] (fun i f h => f 8 = (.one (.c (.int .i64 (i)))) ∧ h = [.own 0 40 6 (some 1) [[.im ([]), .im ([]), .im ([]), .im ([]), .im ([]), .c (.int .i64 (0))]], .own 0 40 6 (some 1) [[.im ([]), .im ([]), .im ([]), .im ([]), .im ([]), .c (.int .i64 (0))]]]) (GC.now ?_) ?_
                · simp only [go_sem, nc_0, true_and, hq2]
                · rintro i f h J hi hA ⟨e8, rfl⟩ hJ
                  simp only [go_sem, hq2] at hA
                  simp only [go_sem, hA, e8, hq2]
                  try simp only [hq2] at hA
                  have hn3 : ¬ (decide ((i : Int) < ((0 : Nat) : Int)) = true) := fun q => by have := of_decide_eq_true q; omega
                  refine c_split (fun hb => ?_) (fun hb => ?_)
                  rotate_left
                  · simp only [go_sem, hb, hA, e8, hq2]
                    obtain rfl := ge_len hb hi
                    (try simp only [go_sem, hA, e8, hq2]); repeat' (first | (with_reducible refine c_split (fun hb => ?_) (fun hb => ?_) <;> try simp only [go_sem, hb, hA, e8, hq2]) | (with_reducible refine w_split (fun hb => ?_) (fun hb => ?_) <;> try simp only [go_sem, hb, hA, e8, hq2]) | (with_reducible refine tw_split (fun hb => ?_) (fun hb => ?_) <;> try simp only [go_sem, hb, hA, e8, hq2]) | (with_reducible refine draw_at 0 67 (by with_unfolding_all rfl) [(0, true, true), (1, true, true), (2, true, false), (3, true, true), (4, true, false), (5, true, false), (6, true, false), (7, false, false), (8, false, false), (9, false, false), (10, false, false)] (by kernel_rfl) ?_ <;> try simp only [go_sem, hA, e8, hq2]) | (with_reducible refine draw_at 0 85 (by with_unfolding_all rfl) [(0, true, true), (1, true, true), (2, true, false), (3, true, true), (4, true, false), (5, true, false), (6, true, false), (7, false, false), (8, false, false), (9, false, false), (10, false, false)] (by kernel_rfl) ?_ <;> try simp only [go_sem, hA, e8, hq2]) | (with_reducible refine draw_at 0 103 (by with_unfolding_all rfl) [(0, true, true), (1, true, true), (2, true, false), (3, true, true), (4, true, false), (5, true, false), (6, true, false), (7, false, false), (8, false, false), (9, false, false), (10, false, false)] (by kernel_rfl) ?_ <;> try simp only [go_sem, hA, e8, hq2]) | (with_reducible refine draw_at 0 121 (by with_unfolding_all rfl) [(0, true, true), (1, true, true), (2, true, false), (3, true, true), (4, true, false), (5, true, false), (6, true, false), (7, false, false), (8, false, false), (9, false, false), (10, false, false)] (by kernel_rfl) ?_ <;> try simp only [go_sem, hA, e8, hq2]) | (with_reducible refine draw_at 0 139 (by with_unfolding_all rfl) [(0, true, true), (1, true, true), (2, true, false), (3, true, true), (4, true, false), (5, true, false), (6, true, false), (7, false, false), (8, false, false), (9, false, false), (10, false, false)] (by kernel_rfl) ?_ <;> try simp only [go_sem, hA, e8, hq2]) | (fail))
                    have hq3 := hA
                    refine for_at (0) [2, 3] (fun i f h => f 9 = (.one (.c (.int .i64 (i)))) ∧ h = [.own 0 40 6 (some 1) [[.im ([]), .im ([]), .im ([]), .im ([]), .im ([]), .c (.int .i64 (0))]], .own 0 40 6 (some 1) [[.im ([]), .im ([]), .im ([]), .im ([]), .im ([]), .c (.int .i64 (0))]]]) (GC.now ?_) ?_
                    · simp only [go_sem, nc_0, true_and, hq3]
                    · rintro i f h J hi hA ⟨e9, rfl⟩ hJ
                      simp only [go_sem, hq3] at hA
                      simp only [go_sem, hA, e9, hq3]
                      try simp only [hq3] at hA
                      have hn4 : ¬ (decide ((i : Int) < ((0 : Nat) : Int)) = true) := fun q => by have := of_decide_eq_true q; omega
                      refine c_split (fun hb => ?_) (fun hb => ?_)
                      rotate_left
                      · simp only [go_sem, hb, hA, e9, hq3]
                        obtain rfl := ge_len hb hi
                        (try simp only [go_sem, hA, e9, hq3]); repeat' (first | (with_reducible refine c_split (fun hb => ?_) (fun hb => ?_) <;> try simp only [go_sem, hb, hA, e9, hq3]) | (with_reducible refine w_split (fun hb => ?_) (fun hb => ?_) <;> try simp only [go_sem, hb, hA, e9, hq3]) | (with_reducible refine tw_split (fun hb => ?_) (fun hb => ?_) <;> try simp only [go_sem, hb, hA, e9, hq3]) | (with_reducible refine draw_at 0 67 (by with_unfolding_all rfl) [(0, true, true), (1, true, true), (2, true, false), (3, true, true), (4, true, false), (5, true, false), (6, true, false), (7, false, false), (8, false, false), (9, false, false), (10, false, false)] (by kernel_rfl) ?_ <;> try simp only [go_sem, hA, e9, hq3]) | (with_reducible refine draw_at 0 85 (by with_unfolding_all rfl) [(0, true, true), (1, true, true), (2, true, false), (3, true, true), (4, true, false), (5, true, false), (6, true, false), (7, false, false), (8, false, false), (9, false, false), (10, false, false)] (by kernel_rfl) ?_ <;> try simp only [go_sem, hA, e9, hq3]) | (with_reducible refine draw_at 0 103 (by with_unfolding_all rfl) [(0, true, true), (1, true, true), (2, true, false), (3, true, true), (4, true, false), (5, true, false), (6, true, false), (7, false, false), (8, false, false), (9, false, false), (10, false, false)] (by kernel_rfl) ?_ <;> try simp only [go_sem, hA, e9, hq3]) | (with_reducible refine draw_at 0 121 (by with_unfolding_all rfl) [(0, true, true), (1, true, true), (2, true, false), (3, true, true), (4, true, false), (5, true, false), (6, true, false), (7, false, false), (8, false, false), (9, false, false), (10, false, false)] (by kernel_rfl) ?_ <;> try simp only [go_sem, hA, e9, hq3]) | (with_reducible refine draw_at 0 139 (by with_unfolding_all rfl) [(0, true, true), (1, true, true), (2, true, false), (3, true, true), (4, true, false), (5, true, false), (6, true, false), (7, false, false), (8, false, false), (9, false, false), (10, false, false)] (by kernel_rfl) ?_ <;> try simp only [go_sem, hA, e9, hq3]) | (with_reducible refine hQ _ _ ?_ <;> simp only [Tryz.f28, go_sem, hA, e9, hq3]))
                        exact hk
                      exact absurd hb hn4
                  exact absurd hb hn3
              exact absurd hb hn2
          exact absurd hb hn1
      exact absurd hb hn0
theorem any_findG {α : Type} {p : α → Bool} (ns : List α) : decide (0 ≤ findG p ns) = ns.any p := by
  rcases findO_cases p ns with ⟨k, hk, e1, e2⟩ | ⟨e1, e2⟩
  · rw [e1, decide_eq_true (Int.natCast_nonneg k)]
    exact (List.any_eq_true.2 ⟨_, List.getElem_mem hk, List.find?_some e2⟩).symm
  · rw [e1]
    have := List.find?_eq_none.1 e2
    symm
    rw [show decide ((0 : Int) ≤ -1) = false from rfl, List.any_eq_false]
    exact this
def lateB (f : File) : Bool := !(decide (f.late = ⟨#[]⟩))
theorem c_EngineOk1 (f : File) (K : AV → AH → Prop) (hk : K (.one (.c (.bool (lateB f)))) []) : ACalls Tryz.prog 37 [.agg (fileC f)] [] K := by
  refine acall_c Tryz.f37.results.toList mixed Tryz.func37 rfl rfl (by kernel_rfl) ?_
  intro Q hQ hQO
  simp only [go_sem]
  (try simp only [go_sem]); repeat' (first | (with_reducible refine c_split (fun hb => ?_) (fun hb => ?_) <;> try simp only [go_sem, hb]) | (with_reducible refine w_split (fun hb => ?_) (fun hb => ?_) <;> try simp only [go_sem, hb]) | (with_reducible refine hQ _ _ ?_ <;> simp only [Tryz.f37, go_sem]))
  exact hk
theorem calK_b0 (args : List AV) (K : AV → AH → Prop) (b : Bool) (hk : K (.one (.c (.bool (b)))) []) : calK args [] K (.one (.c (.bool (b)))) [] := by
  unfold calK
  rw [if_pos ⟨rfl, rfl⟩]
  exact hk
theorem c_ContainsFile0 (xs : List File) (g : Nat) (p : File → Bool) (K : AV → AH → Prop) (hn : xs.length ≤ 1000000000)
    (hp : ∀ i (hi : i < xs.length) (K' : AV → AH → Prop), K' (.one (.c (.bool (p xs[i])))) [] → ACalls Tryz.prog g [.agg (fileC xs[i])] [] K')
    (hk : K (.one (.c (.bool (xs.any p)))) []) : ACalls Tryz.prog 36 [(.one (.im (xs.map fileC))), .one (.clo g [])] [] K := by
  refine acall_c Tryz.f36.results.toList mixed Tryz.func36 rfl rfl (by kernel_rfl) ?_
  intro Q hQ hQO
  simp only [go_sem]
  (try simp only [go_sem, any_findG]); repeat' (first | (with_reducible refine c_split (fun hb => ?_) (fun hb => ?_) <;> try simp only [go_sem, hb, any_findG]) | (with_reducible refine w_split (fun hb => ?_) (fun hb => ?_) <;> try simp only [go_sem, hb, any_findG]) | (refine call_c (c_IndexFunc xs g [] p [] _ hn (fun i hi K' hk' => .inr (.inr (.inr (.inl ⟨rfl, hp i hi _ (calK_b0 _ _ _ hk')⟩)))) ?_) <;> try simp only [go_sem, any_findG]) | (with_reducible refine hQ _ _ ?_ <;> simp only [Tryz.f36, go_sem, any_findG]))
  exact hk
def engOk (e : Eng) : Bool := diskOk e.disk && (if e.up = true then (booksOk e.books && decide (0 ≤ e.seg ∧ e.seg ≤ 19) && decide (0 ≤ e.count ∧ e.count ≤ 6)) else ((e.seg == 0) && (e.count == 0) && bareB e.books && !(e.disk.files.any lateB)))
structure SmallE (e : Eng) : Prop where
  hn : e.disk.files.length ≤ 1000000000
  hb : Small e.books
theorem c_impl_EngineOk (e : Eng) (hs : SmallE e) (K : AV → AH → Prop) (hk : K (.one (.c (.bool (engOk e)))) []) : ACalls Tryz.prog 13 [.agg (engC e)] [] K := by
  refine acall_c Tryz.f13.results.toList mixed Tryz.func13 rfl rfl (by kernel_rfl) ?_
  intro Q hQ hQO
  simp only [go_sem]
  (try simp only [go_sem]); repeat' (first | (with_reducible refine c_split (fun hb => ?_) (fun hb => ?_) <;> try simp only [go_sem, hb]) | (with_reducible refine w_split (fun hb => ?_) (fun hb => ?_) <;> try simp only [go_sem, hb]) | (refine call_c (c_impl_DiskOk e.disk hs.hn _ ?_) <;> try simp only [go_sem]) | (refine call_c (c_impl_BooksOk e.books hs.hb _ ?_) <;> try simp only [go_sem]) | (refine call_c (c_isSeg _ _ ?_) <;> try simp only [go_sem]) | (refine call_c (c_in _ _ _ _ ?_) <;> try simp only [go_sem]) | (refine call_c (c_impl_BooksSame0 e.books hs.hb _ ?_) <;> try simp only [go_sem]) | (refine call_c (c_ContainsFile0 e.disk.files _ lateB _ hs.hn (fun i _ K' hk' => c_EngineOk1 e.disk.files[i] _ hk') ?_) <;> try simp only [go_sem]) | (with_reducible refine hQ _ _ ?_ <;> simp only [Tryz.f13, go_sem]))
  all_goals exact kB hk (by simp only [engOk]; first | (simp_all; done) | (simp_all; omega))
theorem c_spec_EngineOk (e : Eng) (hs : SmallE e) (K : AV → AH → Prop) (hk : K (.one (.c (.bool (engOk e)))) []) : ACalls Tryz.prog 11 [.agg (engC e)] [] K := by
  have hsn := hs.hn
  refine acall_c Tryz.f11.results.toList mixed Tryz.func11 rfl rfl (by kernel_rfl) ?_
  intro Q hQ hQO
  simp only [go_sem]
  cases hd : diskOk e.disk with
  | false =>
    rw [engOk, hd] at hk
    (try simp only [go_sem, hd]); repeat' (first | (with_reducible refine c_split (fun hb => ?_) (fun hb => ?_) <;> try simp only [go_sem, hb, hd]) | (with_reducible refine w_split (fun hb => ?_) (fun hb => ?_) <;> try simp only [go_sem, hb, hd]) | (refine call_c (c_spec_DiskOk e.disk hsn _ ?_) <;> try simp only [go_sem, hd]) | (with_reducible refine hQ _ _ ?_ <;> simp only [Tryz.f11, go_sem, hd]))
    exact hk
  | true =>
    cases hu : e.up with
    | true =>
      (try simp only [go_sem, hd, hu]); repeat' (first | (with_reducible refine c_split (fun hb => ?_) (fun hb => ?_) <;> try simp only [go_sem, hb, hd, hu]) | (with_reducible refine w_split (fun hb => ?_) (fun hb => ?_) <;> try simp only [go_sem, hb, hd, hu]) | (refine call_c (c_spec_DiskOk e.disk hsn _ ?_) <;> try simp only [go_sem, hd, hu]) | (refine call_c (c_BooksOk e.books hs.hb _ ?_) <;> try simp only [go_sem, hd, hu]) | (refine call_c (c_l15Seg _ _ ?_) <;> try simp only [go_sem, hd, hu]) | (refine call_c (c_l1In _ _ _ _ ?_) <;> try simp only [go_sem, hd, hu]) | (with_reducible refine hQ _ _ ?_ <;> simp only [Tryz.f11, go_sem, hd, hu]))
      all_goals exact kB hk (by simp only [engOk]; first | (simp_all; done) | (simp_all; omega))
    | false =>
      (try simp only [go_sem, hd, hu]); repeat' (first | (with_reducible refine c_split (fun hb => ?_) (fun hb => ?_) <;> try simp only [go_sem, hb, hd, hu]) | (with_reducible refine w_split (fun hb => ?_) (fun hb => ?_) <;> try simp only [go_sem, hb, hd, hu]) | (refine call_c (c_spec_DiskOk e.disk hsn _ ?_) <;> try simp only [go_sem, hd, hu]) | (fail))
      refine for_at (e.disk.files.length) [1] (fun i f h => f 3 = (.one (.c (.int .i64 (i)))) ∧ h = [.own 0 57 11 (some 1) [engC e]] ∧ noneTo lateB e.disk.files i) (GC.now ?_) ?_
      · simp only [go_sem, nc_0, true_and, hu]
        exact noneTo_0 _ _
      · rintro i f h J hi hA ⟨e3, rfl, hP⟩ hJ
        simp only [go_sem, hu] at hA
        simp only [go_sem, hA, e3, hu]
        refine c_split (fun hb => ?_) (fun hb => ?_)
        rotate_left
        · simp only [go_sem, hb, hA, e3, hu]
          obtain rfl := ge_len hb hi
          have hany : e.disk.files.any lateB = false := List.any_eq_false.2 fun x hx => by
            obtain ⟨i, hi, rfl⟩ := List.mem_iff_getElem.1 hx
            have := hP i hi hi
            simp [this]
          (try simp only [go_sem, hA, e3, hu]); repeat' (first | (with_reducible refine c_split (fun hb => ?_) (fun hb => ?_) <;> try simp only [go_sem, hb, hA, e3, hu]) | (with_reducible refine w_split (fun hb => ?_) (fun hb => ?_) <;> try simp only [go_sem, hb, hA, e3, hu]) | (refine call_c (c_spec_BooksSame0 e.books hs.hb _ ?_) <;> try simp only [go_sem, hA, e3, hu]) | (with_reducible refine hQ _ _ ?_ <;> simp only [Tryz.f11, go_sem, hA, e3, hu]))
          all_goals exact kB hk (by simp only [engOk]; simp_all)
        have hi := lt_len hb
        have hw := wrap_nat i (by omega)
        have hil : (i : Int) < ((e.disk.files.length : Nat) : Int) := Int.ofNat_lt.2 hi
        have hg0 : (e.disk.files)[i]? = some ((e.disk.files)[i]) := List.getElem?_eq_getElem (by omega)
        simp only [go_sem, hb, hA, e3, hu, hg0]
        try simp only [go_sem, hA, e3, hu, hil, hg0]
        cases hl : decide (e.disk.files[i].late = ⟨#[]⟩) with
        | true =>
          (try simp only [go_sem, hA, e3, hu, hil, hg0, hl]); repeat' (first | (with_reducible refine c_split (fun hb => ?_) (fun hb => ?_) <;> try simp only [go_sem, hb, hA, e3, hu, hil, hg0, hl]) | (with_reducible refine w_split (fun hb => ?_) (fun hb => ?_) <;> try simp only [go_sem, hb, hA, e3, hu, hil, hg0, hl]) | (fail))
          refine gc_trim 1 (by decide) (by simp only [go_sem]) (by simp only [go_sem]) (hJ _ _ hi (by simp only [go_sem, hA, e3, hu]) ⟨?_, ?_, ?_⟩) <;> try simp only [go_sem, hA, e3, hu, hw]
          exact noneTo_s hP hi (by rw [lateB, hl]; rfl)
        | false =>
          have hany : e.disk.files.any lateB = true := List.any_eq_true.2 ⟨_, List.getElem_mem hi, by rw [lateB, hl]; rfl⟩
          (try simp only [go_sem, hA, e3, hu, hil, hg0, hl]); repeat' (first | (with_reducible refine c_split (fun hb => ?_) (fun hb => ?_) <;> try simp only [go_sem, hb, hA, e3, hu, hil, hg0, hl]) | (with_reducible refine w_split (fun hb => ?_) (fun hb => ?_) <;> try simp only [go_sem, hb, hA, e3, hu, hil, hg0, hl]) | (with_reducible refine hQ _ _ ?_ <;> simp only [Tryz.f11, go_sem, hA, e3, hu, hil, hg0, hl]))
          exact kB hk (by simp only [engOk]; simp_all)
end Go.Proofs.YtedkpjaojdkpcaaGreat
