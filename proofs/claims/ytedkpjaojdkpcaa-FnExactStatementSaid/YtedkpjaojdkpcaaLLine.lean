/- Line: the lines of a statement: what lots cost, the mean and what is left. Conditions: none. -/
import Derived.Test.YtedkpjaojdkpcaaLG
import Derived.Test.YtedkpjaojdkpcaaLT
import Derived.Test.YtedkpjaojdkpcaaLTrade
import Derived.Test.YtedkpjaojdkpcaaLRecM
namespace Go.Proofs.Ytedkpjaojdkpcaa
open Go.BL Go.RowKit
set_option linter.unusedVariables false
set_option linter.unusedSimpArgs false
set_option maxRecDepth 100000
attribute [local go_sem] accountC balC lotC tradeC booksC booksA
structure Line where
  instr : Int
  qty : Int
  cost : Int
  mean : Int
  left : Int
def lineC (x : Line) : List CV := [.c (.int .i64 (x.instr)), .c (.int .i64 (x.qty)), .c (.int .i64 (x.cost)), .c (.int .i64 (x.mean)), .c (.int .i64 (x.left))]
attribute [local go_sem] lineC
theorem lineC_len (x : Line) : (lineC x).length = 5 := rfl
theorem lineC_cl (x : Line) : (lineC x).all clB = true := by first | rfl | (cases x; rfl)
theorem lineC_st (x : Line) : (lineC x).all stB = true := by first | rfl | (cases x; rfl)
theorem lineC_clE (xs : List (Line)) : clE (xs.map lineC) = true := clE_map _ _ lineC_cl
theorem lineC_stL (xs : List (Line)) : stL (xs.map lineC) = true := stL_map _ _ lineC_st
theorem lineC_ltE (n : Nat) (xs : List (Line)) : ltE n (xs.map lineC) = true := lte_cl _ _ (lineC_clE xs)
theorem lineC_clz (xs : List (Line)) : (xs.map lineC).map (List.map clz) = xs.map lineC := clz_E _ (lineC_clE xs)
theorem lineC_shV (n : Nat) (xs : List (Line)) : (xs.map lineC).map (List.map (shV n)) = xs.map lineC := shV_E _ _ (lineC_clE xs)
theorem lineC_snoc (xs : List (Line)) (a0 a1 a2 a3 a4 : Int) : xs.map lineC ++ [[.c (.int .i64 (a0)), .c (.int .i64 (a1)), .c (.int .i64 (a2)), .c (.int .i64 (a3)), .c (.int .i64 (a4))]] = (xs ++ [(⟨a0, a1, a2, a3, a4⟩ : Line)]).map lineC := by rw [List.map_append]; rfl
theorem lineC_set (xs : List (Line)) (q : Nat) (a0 a1 a2 a3 a4 : Int) : (xs.map lineC).set q [.c (.int .i64 (a0)), .c (.int .i64 (a1)), .c (.int .i64 (a2)), .c (.int .i64 (a3)), .c (.int .i64 (a4))] = (xs.set q (⟨a0, a1, a2, a3, a4⟩ : Line)).map lineC := by rw [List.map_set]; rfl
theorem lineC_rep (q : Nat) (a0 a1 a2 a3 a4 : Int) : List.replicate q [.c (.int .i64 (a0)), .c (.int .i64 (a1)), .c (.int .i64 (a2)), .c (.int .i64 (a3)), .c (.int .i64 (a4))] = (List.replicate q (⟨a0, a1, a2, a3, a4⟩ : Line)).map lineC := map_rep _ _ _ _ rfl
theorem lineC_tk (xs : List (Line)) : (xs.map lineC).take xs.length = xs.map lineC := List.take_of_length_le (by simp)
theorem lineC_ks (xs : List (Line)) : ksB (5) (xs.map lineC) = true := by simp [ksB, lineC]
theorem lineC_fr (xs : List (Line)) : freeE (xs.map lineC) = true := fee_map _ _ (fun x => by first | rfl | (cases x; rfl))
attribute [go_sem] lineC_cl lineC_st lineC_clE lineC_stL lineC_ltE lineC_clz lineC_shV lineC_snoc lineC_ks lineC_tk lineC_fr lineC_set lineC_rep
instance : Inhabited Line := ⟨⟨0, 0, 0, 0, 0⟩⟩
theorem c_eqLine (x : Line) (K : AV → AH → Prop) (hk : K (.one (.c (.bool (true)))) []) : ACalls Try.prog 62 [.agg (lineC x), .agg (lineC x)] [] K := by
  refine acall_c Try.f62.results.toList mixed Try.func62 rfl rfl (by kernel_rfl) ?_
  intro Q hQ hQO
  simp only [go_sem, BEq.rfl]
  (try simp only [go_sem, BEq.rfl]); repeat' (first | (with_reducible refine c_split (fun hb => ?_) (fun hb => ?_) <;> try simp only [go_sem, hb, BEq.rfl]) | (with_reducible refine w_split (fun hb => ?_) (fun hb => ?_) <;> try simp only [go_sem, hb, BEq.rfl]) | (with_reducible refine hQ _ _ ?_ <;> simp only [Try.f62, go_sem, BEq.rfl]))
  exact hk
theorem c_eqLineS (xs : List Line) (hn : xs.length ≤ 1000000000) (K : AV → AH → Prop) (hk : K (.one (.c (.bool (true)))) []) : ACalls Try.prog 22 [(.one (.im (xs.map lineC))), (.one (.im (xs.map lineC)))] [] K := by
  refine acall_c Try.f22.results.toList mixed Try.func22 rfl rfl (by kernel_rfl) ?_
  intro Q hQ hQO
  simp only [go_sem, BEq.rfl]
  refine for_at (xs.length) [0, 1] (fun i f h => f 5 = (.one (.c (.int .i64 (i)))) ∧ h = []) (GC.now ?_) ?_
  · simp only [go_sem, nc_0, true_and, BEq.rfl]
  · rintro i f h J hi hA ⟨e5, rfl⟩ hJ
    simp only [go_sem, BEq.rfl] at hA
    simp only [go_sem, hA, e5, BEq.rfl]
    refine c_split (fun hb => ?_) (fun hb => ?_)
    rotate_left
    · simp only [go_sem, hb, hA, e5, BEq.rfl]
      obtain rfl := ge_len hb hi
      (try simp only [go_sem, hA, e5, BEq.rfl]); repeat' (first | (with_reducible refine c_split (fun hb => ?_) (fun hb => ?_) <;> try simp only [go_sem, hb, hA, e5, BEq.rfl]) | (with_reducible refine w_split (fun hb => ?_) (fun hb => ?_) <;> try simp only [go_sem, hb, hA, e5, BEq.rfl]) | (with_reducible refine tw_split (fun hb => ?_) (fun hb => ?_) <;> try simp only [go_sem, hb, hA, e5, BEq.rfl]) | (with_reducible refine draw_at 0 17 (by with_unfolding_all rfl) [(0, true, true), (1, true, true), (2, true, true), (3, true, true), (4, true, false), (5, false, false), (6, false, false), (7, false, false), (8, false, true), (9, false, true)] (by kernel_rfl) ?_ <;> try simp only [go_sem, hA, e5, BEq.rfl]) | (with_reducible refine hQ _ _ ?_ <;> simp only [Try.f22, go_sem, hA, e5, BEq.rfl]))
      exact hk
    have hi := lt_len hb
    have hw := wrap_nat i (by omega)
    have hil : (i : Int) < ((xs.length : Nat) : Int) := Int.ofNat_lt.2 hi
    have hg0 : (xs)[i]? = some ((xs)[i]) := List.getElem?_eq_getElem (by omega)
    simp only [go_sem, hb, hA, e5, BEq.rfl, hg0]
    try simp only [go_sem, hA, e5, BEq.rfl, hil, hg0]
    (try simp only [go_sem, hA, e5, BEq.rfl, hil, hg0]); repeat' (first | (with_reducible refine c_split (fun hb => ?_) (fun hb => ?_) <;> try simp only [go_sem, hb, hA, e5, BEq.rfl, hil, hg0]) | (with_reducible refine w_split (fun hb => ?_) (fun hb => ?_) <;> try simp only [go_sem, hb, hA, e5, BEq.rfl, hil, hg0]) | (with_reducible refine tw_split (fun hb => ?_) (fun hb => ?_) <;> try simp only [go_sem, hb, hA, e5, BEq.rfl, hil, hg0]) | (with_reducible refine draw_at 0 17 (by with_unfolding_all rfl) [(0, true, true), (1, true, true), (2, true, true), (3, true, true), (4, true, false), (5, false, false), (6, false, false), (7, false, false), (8, false, true), (9, false, true)] (by kernel_rfl) ?_ <;> try simp only [go_sem, hA, e5, BEq.rfl, hil, hg0]) | (refine call_c (c_eqLine _ _ ?_) <;> try simp only [go_sem, hA, e5, BEq.rfl, hil, hg0]) | (fail))
    refine GC.now (hJ _ _ hi (by simp only [go_sem, hA, e5, BEq.rfl]) ⟨?_, ?_⟩) <;> try simp only [go_sem, hA, e5, BEq.rfl, hw]
def markLine (k : Int) (i : Nat) : Line := ⟨k + 5 * i, k + 5 * i + 1, k + 5 * i + 2, k + 5 * i + 3, k + 5 * i + 4⟩
def marksLine (k : Int) (n : Nat) : List Line := (List.range n).map (markLine k)
theorem marksLine_len (k : Int) (n : Nat) : (marksLine k n).length = n := by simp [marksLine]
theorem marksLine_tk (k : Int) (n : Nat) : ((marksLine k n).map lineC).take n = (marksLine k n).map lineC := List.take_of_length_le (by simp [marksLine])
theorem c_markLineS (xs : List Line) (k : Int) (l g : Nat) (cap : Option Nat) (h0 : AH) (hl : h0[l]? = some (.own g 84 5 cap (xs.map lineC))) (hn : xs.length ≤ 1000000000) (hk0 : 0 ≤ k) (hk1 : k ≤ 1000000000000)
    (K : AV → AH → Prop) (hk : K (.one (.c (.int .i64 (k + 5 * xs.length)))) (h0.set l (.own g 84 5 cap ((marksLine k xs.length).map lineC)))) : ACalls Try.prog 23 [.one (.sl l g 0 xs.length), (.one (.c (.int .i64 (k))))] h0 K := by
  have hall : ∀ o, (h0.set l o)[l]? = some o := set_at hl
  refine acall_m Try.f23.results.toList mixed Try.func23 rfl rfl (by kernel_rfl) ?_
  intro hwf Q hQ
  simp only [go_sem, hl]
  refine for_at (xs.length) [0] (fun i f h => f 1 = (.one (.c (.int .i64 (k + 5 * i)))) ∧ f 5 = (.one (.c (.int .i64 (i)))) ∧ h = h0.set l (.own g 84 5 cap ((fillR (markLine k) xs i).map lineC))) (GC.now ?_) ?_
  · simp only [go_sem, nc_0, true_and, hall, hl]
    rw [fill_0, set_same hl]; simp
  · rintro i f h J hi hA ⟨e1, e5, rfl⟩ hJ
    simp only [go_sem, hall, hl] at hA
    simp only [go_sem, hA, e1, e5, hall, hl]
    refine c_split (fun hb => ?_) (fun hb => ?_)
    rotate_left
    · simp only [go_sem, hb, hA, e1, e5, hall, hl]
      obtain rfl := ge_len hb hi
      refine hQ (h0.set l (.own g 84 5 cap ((fillR (markLine k) xs xs.length).map lineC))) _ _ ?_; refine GC.now (ret_m (by simp only [go_sem, Try.f23, hA, e1, e5, hall, hl]; exact _root_.id rfl) (by simp only [go_sem]) (by simp) (by first | exact hwf | exact wf_set hwf (by simp only [go_sem, hA, e1, e5, hall, hl]) | exact wf_set2 hwf (by simp only [go_sem, hA, e1, e5, hall, hl]) (by simp only [go_sem, hA, e1, e5, hall, hl]) | (simp only [go_sem]; done)) (by first | exact ⟨_, _root_.id rfl⟩ | exact ⟨[], (List.append_nil _).symm⟩) ?_) <;> simp only [go_sem, hA, e1, e5, hall, hl]
      rw [fill_all]
      exact hk
    have hi := lt_len hb
    have hw := wrap_nat i (by omega)
    have hil : (i : Int) < ((xs.length : Nat) : Int) := Int.ofNat_lt.2 hi
    have hg0 : (xs)[i]? = some ((xs)[i]) := List.getElem?_eq_getElem (by omega)
    simp only [go_sem, hb, hA, e1, e5, hall, hl, hg0]
    try simp only [go_sem, hA, e1, e5, hall, hl, hil, hg0]
    have hold := fill_get (markLine k) xs i
    rw [hg0] at hold
    have hself : ∀ x, ((fillR (markLine k) xs i).set i x)[i]? = some x := set_at hold
    have hset : (fillR (markLine k) xs i).set i ⟨k + 5 * i, k + 5 * i + 1, k + 5 * i + 2, k + 5 * i + 3, k + 5 * i + 4⟩ = fillR (markLine k) xs (i + 1) := fill_set (markLine k) xs i hi _ rfl
    have w1 : wrap64 (k + 5 * (i : Int) + 1) = k + 5 * i + 1 := by unfold wrap64; omega
    have w2 : wrap64 (k + 5 * (i : Int) + 1 + 1) = k + 5 * i + 2 := by unfold wrap64; omega
    have w3 : wrap64 (k + 5 * (i : Int) + 2 + 1) = k + 5 * i + 3 := by unfold wrap64; omega
    have w4 : wrap64 (k + 5 * (i : Int) + 3 + 1) = k + 5 * i + 4 := by unfold wrap64; omega
    have w5 : wrap64 (k + 5 * (i : Int) + 4 + 1) = k + 5 * ((i + 1 : Nat) : Int) := by unfold wrap64; omega
    (try simp only [go_sem, hA, e1, e5, hall, hl, hil, hg0, hold, hself, List.set_set, w1, w2, w3, w4, w5]); repeat' (first | (with_reducible refine c_split (fun hb => ?_) (fun hb => ?_) <;> try simp only [go_sem, hb, hA, e1, e5, hall, hl, hil, hg0, hold, hself, List.set_set, w1, w2, w3, w4, w5]) | (with_reducible refine w_split (fun hb => ?_) (fun hb => ?_) <;> try simp only [go_sem, hb, hA, e1, e5, hall, hl, hil, hg0, hold, hself, List.set_set, w1, w2, w3, w4, w5]) | (fail))
    refine GC.now (hJ _ _ hi (by simp only [go_sem, hA, e1, e5, hall, hl]) ⟨?_, ?_, ?_⟩) <;> try simp only [go_sem, hA, e1, e5, hall, hl, hw, hset]
theorem c_heldLineS (n : Nat) (k : Int) (hn : n ≤ 1000000000) (hk0 : 0 ≤ k) (hk1 : k ≤ 1000000000000) (K : AV → AH → Prop) (hk : K (.one (.c (.int .i64 (k + 5 * n)))) []) : ACalls Try.prog 24 [(.one (.im ((marksLine k n).map lineC))), (.one (.c (.int .i64 (k))))] [] K := by
  have hm := marksLine_len k n
  refine acall_c Try.f24.results.toList mixed Try.func24 rfl rfl (by kernel_rfl) ?_
  intro Q hQ hQO
  simp only [go_sem, BEq.rfl]
  refine for_at (n) [0] (fun i f h => f 1 = (.one (.c (.int .i64 (k + 5 * i)))) ∧ f 5 = (.one (.c (.int .i64 (i)))) ∧ h = []) (GC.now ?_) ?_
  · simp only [go_sem, nc_0, true_and, hm]
    simp
  · rintro i f h J hi hA ⟨e1, e5, rfl⟩ hJ
    simp only [go_sem, hm] at hA
    simp only [go_sem, hA, e1, e5, hm]
    refine c_split (fun hb => ?_) (fun hb => ?_)
    rotate_left
    · simp only [go_sem, hb, hA, e1, e5, hm]
      obtain rfl := ge_len hb hi
      (try simp only [go_sem, hA, e1, e5, hm]); repeat' (first | (with_reducible refine c_split (fun hb => ?_) (fun hb => ?_) <;> try simp only [go_sem, hb, hA, e1, e5, hm]) | (with_reducible refine w_split (fun hb => ?_) (fun hb => ?_) <;> try simp only [go_sem, hb, hA, e1, e5, hm]) | (with_reducible refine hQ _ _ ?_ <;> simp only [Try.f24, go_sem, hA, e1, e5, hm]))
      exact hk
    have hi := lt_len hb
    have hw := wrap_nat i (by omega)
    have hil : (i : Int) < ((n : Nat) : Int) := Int.ofNat_lt.2 hi
    simp only [go_sem, hb, hA, e1, e5, hm]
    try simp only [go_sem, hA, e1, e5, hm, hil]
    have hg : (marksLine k n)[i]? = some (markLine k i) := by simp [marksLine, hi]
    have w1 : wrap64 (k + 5 * (i : Int) + 1) = k + 5 * i + 1 := by unfold wrap64; omega
    have w2 : wrap64 (k + 5 * (i : Int) + 1 + 1) = k + 5 * i + 2 := by unfold wrap64; omega
    have w3 : wrap64 (k + 5 * (i : Int) + 2 + 1) = k + 5 * i + 3 := by unfold wrap64; omega
    have w4 : wrap64 (k + 5 * (i : Int) + 3 + 1) = k + 5 * i + 4 := by unfold wrap64; omega
    have w5 : wrap64 (k + 5 * (i : Int) + 4 + 1) = k + 5 * ((i + 1 : Nat) : Int) := by unfold wrap64; omega
    (try simp only [go_sem, hA, e1, e5, hm, hil, hg, markLine, BEq.rfl, w1, w2, w3, w4, w5]); repeat' (first | (with_reducible refine c_split (fun hb => ?_) (fun hb => ?_) <;> try simp only [go_sem, hb, hA, e1, e5, hm, hil, hg, markLine, BEq.rfl, w1, w2, w3, w4, w5]) | (with_reducible refine w_split (fun hb => ?_) (fun hb => ?_) <;> try simp only [go_sem, hb, hA, e1, e5, hm, hil, hg, markLine, BEq.rfl, w1, w2, w3, w4, w5]) | (fail))
    refine GC.now (hJ _ _ hi (by simp only [go_sem, hA, e1, e5, hm]) ⟨?_, ?_, ?_⟩) <;> try simp only [go_sem, hA, e1, e5, hm, hw]
def divO (a b : Int) : Bool := amtOk a && amtOk b && !(b == 0)
def divV (a b : Int) : Int := if divO a b = true then (if (!(a.tmod b == 0) && !(decide (a < 0) == decide (b < 0))) = true then wrap64 (wrap64 (a.tdiv b) - 1) else wrap64 (a.tdiv b)) else 0
theorem divV_no {a b : Int} (h : divO a b = false) : divV a b = 0 := by rw [divV, h]; rfl
theorem divV_1 {a b : Int} (h : divO a b = true) (h2 : (!(a.tmod b == 0) && !(decide (a < 0) == decide (b < 0))) = true) : divV a b = wrap64 (wrap64 (a.tdiv b) - 1) := by rw [divV, if_pos h, if_pos h2]
theorem divV_2 {a b : Int} (h : divO a b = true) (h2 : (!(a.tmod b == 0) && !(decide (a < 0) == decide (b < 0))) = false) : divV a b = wrap64 (a.tdiv b) := by rw [divV, if_pos h, if_neg (by rw [h2]; decide)]
theorem c_impl_DivFloor (a b : Int) (K : AV → AH → Prop) (hk : K (.tup [(.one (.c (.int .i64 (divV a b)))), (.one (.c (.bool (divO a b))))]) []) : ACalls Try.prog 61 [(.one (.c (.int .i64 (a)))), (.one (.c (.int .i64 (b))))] [] K := by
  refine acall_c Try.f61.results.toList mixed Try.func61 rfl rfl (by kernel_rfl) ?_
  intro Q hQ hQO
  simp only [go_sem]
  cases o1 : amtOk a with
  | false =>
    have h : divO a b = false := by rw [divO, o1]; rfl
    rw [divV_no h, h] at hk
    (try simp only [go_sem, o1]); repeat' (first | (with_reducible refine c_split (fun hb => ?_) (fun hb => ?_) <;> try simp only [go_sem, hb, o1]) | (with_reducible refine w_split (fun hb => ?_) (fun hb => ?_) <;> try simp only [go_sem, hb, o1]) | (refine call_c (c_impl_AmountOk _ _ ?_) <;> try simp only [go_sem, o1]) | (with_reducible refine hQ _ _ ?_ <;> simp only [Try.f61, go_sem, o1]))
    exact hk
  | true =>
    cases o2 : amtOk b with
    | false =>
      have h : divO a b = false := by rw [divO, o1, o2]; rfl
      rw [divV_no h, h] at hk
      (try simp only [go_sem, o1, o2]); repeat' (first | (with_reducible refine c_split (fun hb => ?_) (fun hb => ?_) <;> try simp only [go_sem, hb, o1, o2]) | (with_reducible refine w_split (fun hb => ?_) (fun hb => ?_) <;> try simp only [go_sem, hb, o1, o2]) | (refine call_c (c_impl_AmountOk _ _ ?_) <;> try simp only [go_sem, o1, o2]) | (with_reducible refine hQ _ _ ?_ <;> simp only [Try.f61, go_sem, o1, o2]))
      exact hk
    | true =>
      cases o3 : (b == 0) with
      | true =>
        have h : divO a b = false := by rw [divO, o1, o2, o3]; rfl
        rw [divV_no h, h] at hk
        (try simp only [go_sem, o1, o2, o3]); repeat' (first | (with_reducible refine c_split (fun hb => ?_) (fun hb => ?_) <;> try simp only [go_sem, hb, o1, o2, o3]) | (with_reducible refine w_split (fun hb => ?_) (fun hb => ?_) <;> try simp only [go_sem, hb, o1, o2, o3]) | (refine call_c (c_impl_AmountOk _ _ ?_) <;> try simp only [go_sem, o1, o2, o3]) | (with_reducible refine hQ _ _ ?_ <;> simp only [Try.f61, go_sem, o1, o2, o3]))
        exact hk
      | false =>
        have h : divO a b = true := by rw [divO, o1, o2, o3]; rfl
        have hne : b ≠ 0 := by simpa using o3
        cases q1 : (a.tmod b == 0) with
        | true =>
          rw [divV_2 h (by rw [q1]; rfl), h] at hk
          (try simp only [go_sem, o1, o2, o3, q1, hne, ne_eq, not_false_eq_true, b_quo, b_rem]); repeat' (first | (with_reducible refine c_split (fun hb => ?_) (fun hb => ?_) <;> try simp only [go_sem, hb, o1, o2, o3, q1, hne, ne_eq, not_false_eq_true, b_quo, b_rem]) | (with_reducible refine w_split (fun hb => ?_) (fun hb => ?_) <;> try simp only [go_sem, hb, o1, o2, o3, q1, hne, ne_eq, not_false_eq_true, b_quo, b_rem]) | (refine call_c (c_impl_AmountOk _ _ ?_) <;> try simp only [go_sem, o1, o2, o3, q1, hne, ne_eq, not_false_eq_true, b_quo, b_rem]) | (with_reducible refine hQ _ _ ?_ <;> simp only [Try.f61, go_sem, o1, o2, o3, q1, hne, ne_eq, not_false_eq_true, b_quo, b_rem]))
          exact hk
        | false =>
          cases q2 : (decide (a < 0) == decide (b < 0)) with
          | true =>
            rw [divV_2 h (by rw [q1, q2]; rfl), h] at hk
            (try simp only [go_sem, o1, o2, o3, q1, q2, hne, ne_eq, not_false_eq_true, b_quo, b_rem]); repeat' (first | (with_reducible refine c_split (fun hb => ?_) (fun hb => ?_) <;> try simp only [go_sem, hb, o1, o2, o3, q1, q2, hne, ne_eq, not_false_eq_true, b_quo, b_rem]) | (with_reducible refine w_split (fun hb => ?_) (fun hb => ?_) <;> try simp only [go_sem, hb, o1, o2, o3, q1, q2, hne, ne_eq, not_false_eq_true, b_quo, b_rem]) | (refine call_c (c_impl_AmountOk _ _ ?_) <;> try simp only [go_sem, o1, o2, o3, q1, q2, hne, ne_eq, not_false_eq_true, b_quo, b_rem]) | (with_reducible refine hQ _ _ ?_ <;> simp only [Try.f61, go_sem, o1, o2, o3, q1, q2, hne, ne_eq, not_false_eq_true, b_quo, b_rem]))
            exact hk
          | false =>
            rw [divV_1 h (by rw [q1, q2]; rfl), h] at hk
            (try simp only [go_sem, o1, o2, o3, q1, q2, hne, ne_eq, not_false_eq_true, b_quo, b_rem]); repeat' (first | (with_reducible refine c_split (fun hb => ?_) (fun hb => ?_) <;> try simp only [go_sem, hb, o1, o2, o3, q1, q2, hne, ne_eq, not_false_eq_true, b_quo, b_rem]) | (with_reducible refine w_split (fun hb => ?_) (fun hb => ?_) <;> try simp only [go_sem, hb, o1, o2, o3, q1, q2, hne, ne_eq, not_false_eq_true, b_quo, b_rem]) | (refine call_c (c_impl_AmountOk _ _ ?_) <;> try simp only [go_sem, o1, o2, o3, q1, q2, hne, ne_eq, not_false_eq_true, b_quo, b_rem]) | (with_reducible refine hQ _ _ ?_ <;> simp only [Try.f61, go_sem, o1, o2, o3, q1, q2, hne, ne_eq, not_false_eq_true, b_quo, b_rem]))
            exact hk
theorem c_spec_DivFloor (a b : Int) (K : AV → AH → Prop) (hk : K (.tup [(.one (.c (.int .i64 (divV a b)))), (.one (.c (.bool (divO a b))))]) []) : ACalls Try.prog 59 [(.one (.c (.int .i64 (a)))), (.one (.c (.int .i64 (b))))] [] K := by
  refine acall_c Try.f59.results.toList mixed Try.func59 rfl rfl (by kernel_rfl) ?_
  intro Q hQ hQO
  simp only [go_sem]
  cases o1 : amtOk a with
  | false =>
    have h : divO a b = false := by rw [divO, o1]; rfl
    rw [divV_no h, h] at hk
    (try simp only [go_sem, o1]); repeat' (first | (with_reducible refine c_split (fun hb => ?_) (fun hb => ?_) <;> try simp only [go_sem, hb, o1]) | (with_reducible refine w_split (fun hb => ?_) (fun hb => ?_) <;> try simp only [go_sem, hb, o1]) | (refine call_c (c_spec_AmountOk _ _ ?_) <;> try simp only [go_sem, o1]) | (with_reducible refine hQ _ _ ?_ <;> simp only [Try.f59, go_sem, o1]))
    exact hk
  | true =>
    cases o2 : amtOk b with
    | false =>
      have h : divO a b = false := by rw [divO, o1, o2]; rfl
      rw [divV_no h, h] at hk
      (try simp only [go_sem, o1, o2]); repeat' (first | (with_reducible refine c_split (fun hb => ?_) (fun hb => ?_) <;> try simp only [go_sem, hb, o1, o2]) | (with_reducible refine w_split (fun hb => ?_) (fun hb => ?_) <;> try simp only [go_sem, hb, o1, o2]) | (refine call_c (c_spec_AmountOk _ _ ?_) <;> try simp only [go_sem, o1, o2]) | (with_reducible refine hQ _ _ ?_ <;> simp only [Try.f59, go_sem, o1, o2]))
      exact hk
    | true =>
      cases o3 : (b == 0) with
      | true =>
        have h : divO a b = false := by rw [divO, o1, o2, o3]; rfl
        rw [divV_no h, h] at hk
        (try simp only [go_sem, o1, o2, o3]); repeat' (first | (with_reducible refine c_split (fun hb => ?_) (fun hb => ?_) <;> try simp only [go_sem, hb, o1, o2, o3]) | (with_reducible refine w_split (fun hb => ?_) (fun hb => ?_) <;> try simp only [go_sem, hb, o1, o2, o3]) | (refine call_c (c_spec_AmountOk _ _ ?_) <;> try simp only [go_sem, o1, o2, o3]) | (with_reducible refine hQ _ _ ?_ <;> simp only [Try.f59, go_sem, o1, o2, o3]))
        exact hk
      | false =>
        have h : divO a b = true := by rw [divO, o1, o2, o3]; rfl
        have hne : b ≠ 0 := by simpa using o3
        cases q1 : (a.tmod b == 0) with
        | true =>
          rw [divV_2 h (by rw [q1]; rfl), h] at hk
          (try simp only [go_sem, o1, o2, o3, q1, hne, ne_eq, not_false_eq_true, b_quo, b_rem]); repeat' (first | (with_reducible refine c_split (fun hb => ?_) (fun hb => ?_) <;> try simp only [go_sem, hb, o1, o2, o3, q1, hne, ne_eq, not_false_eq_true, b_quo, b_rem]) | (with_reducible refine w_split (fun hb => ?_) (fun hb => ?_) <;> try simp only [go_sem, hb, o1, o2, o3, q1, hne, ne_eq, not_false_eq_true, b_quo, b_rem]) | (refine call_c (c_spec_AmountOk _ _ ?_) <;> try simp only [go_sem, o1, o2, o3, q1, hne, ne_eq, not_false_eq_true, b_quo, b_rem]) | (with_reducible refine hQ _ _ ?_ <;> simp only [Try.f59, go_sem, o1, o2, o3, q1, hne, ne_eq, not_false_eq_true, b_quo, b_rem]))
          exact hk
        | false =>
          cases q2 : (decide (a < 0) == decide (b < 0)) with
          | true =>
            rw [divV_2 h (by rw [q1, q2]; rfl), h] at hk
            (try simp only [go_sem, o1, o2, o3, q1, q2, hne, ne_eq, not_false_eq_true, b_quo, b_rem]); repeat' (first | (with_reducible refine c_split (fun hb => ?_) (fun hb => ?_) <;> try simp only [go_sem, hb, o1, o2, o3, q1, q2, hne, ne_eq, not_false_eq_true, b_quo, b_rem]) | (with_reducible refine w_split (fun hb => ?_) (fun hb => ?_) <;> try simp only [go_sem, hb, o1, o2, o3, q1, q2, hne, ne_eq, not_false_eq_true, b_quo, b_rem]) | (refine call_c (c_spec_AmountOk _ _ ?_) <;> try simp only [go_sem, o1, o2, o3, q1, q2, hne, ne_eq, not_false_eq_true, b_quo, b_rem]) | (with_reducible refine hQ _ _ ?_ <;> simp only [Try.f59, go_sem, o1, o2, o3, q1, q2, hne, ne_eq, not_false_eq_true, b_quo, b_rem]))
            exact hk
          | false =>
            rw [divV_1 h (by rw [q1, q2]; rfl), h] at hk
            (try simp only [go_sem, o1, o2, o3, q1, q2, hne, ne_eq, not_false_eq_true, b_quo, b_rem]); repeat' (first | (with_reducible refine c_split (fun hb => ?_) (fun hb => ?_) <;> try simp only [go_sem, hb, o1, o2, o3, q1, q2, hne, ne_eq, not_false_eq_true, b_quo, b_rem]) | (with_reducible refine w_split (fun hb => ?_) (fun hb => ?_) <;> try simp only [go_sem, hb, o1, o2, o3, q1, q2, hne, ne_eq, not_false_eq_true, b_quo, b_rem]) | (refine call_c (c_spec_AmountOk _ _ ?_) <;> try simp only [go_sem, o1, o2, o3, q1, q2, hne, ne_eq, not_false_eq_true, b_quo, b_rem]) | (with_reducible refine hQ _ _ ?_ <;> simp only [Try.f59, go_sem, o1, o2, o3, q1, q2, hne, ne_eq, not_false_eq_true, b_quo, b_rem]))
            exact hk
theorem c_impl_LotsOf (xs : List Lot) (a n : Int) (hn : xs.length ≤ 1000000000) (hok : lotsOk xs = true) (K : AV → AH → Prop) (hk : K (.one (.im ((ownL xs a n).map lotC))) []) : ACalls Try.prog 93 [(.one (.im (xs.map lotC))), (.one (.c (.int .i64 (a)))), (.one (.c (.int .i64 (n))))] [] K := by
  refine acall_c Try.f93.results.toList mixed Try.func93 rfl rfl (by kernel_rfl) ?_
  intro Q hQ hQO
  simp only [go_sem]
  (try simp only [go_sem, hok]); repeat' (first | (with_reducible refine c_split (fun hb => ?_) (fun hb => ?_) <;> try simp only [go_sem, hb, hok]) | (with_reducible refine w_split (fun hb => ?_) (fun hb => ?_) <;> try simp only [go_sem, hb, hok]) | (refine call_c (c_impl_LotsOk xs hn _ ?_) <;> try simp only [go_sem, hok]) | (refine call_c (c_lotsOf xs a n hn _ ?_) <;> try simp only [go_sem, hok]) | (with_reducible refine hQ _ _ ?_ <;> simp only [Try.f93, go_sem, hok]))
  exact hk
theorem c_impl_LotsCost (xs : List Lot) (a n : Int) (hn : xs.length ≤ 1000000000) (hok : lotsOk xs = true) (K : AV → AH → Prop) (hk : K (.one (.c (.int .i64 (sumC (ownL xs a n))))) []) : ACalls Try.prog 60 [(.one (.im (xs.map lotC))), (.one (.c (.int .i64 (a)))), (.one (.c (.int .i64 (n))))] [] K := by
  refine acall_c Try.f60.results.toList mixed Try.func60 rfl rfl (by kernel_rfl) ?_
  intro Q hQ hQO
  simp only [go_sem]
  (try simp only [go_sem]); repeat' (first | (with_reducible refine c_split (fun hb => ?_) (fun hb => ?_) <;> try simp only [go_sem, hb]) | (with_reducible refine w_split (fun hb => ?_) (fun hb => ?_) <;> try simp only [go_sem, hb]) | (refine call_c (c_impl_LotsOf xs a n hn hok _ ?_) <;> try simp only [go_sem]) | (refine call_c (c_sumLots _ ((lots_fine hok).own a n) _ ?_) <;> try simp only [go_sem]) | (with_reducible refine hQ _ _ ?_ <;> simp only [Try.f60, go_sem]))
  exact hk
theorem c_l5Cost (xs : List Lot) (h : Fine xs) (K : AV → AH → Prop) (hk : K (.one (.c (.int .i64 (sumC xs)))) []) : ACalls Try.prog 58 [(.one (.im (xs.map lotC)))] [] K := by
  have hn : xs.length ≤ 1000000000 := by have := h.2; omega
  refine acall_c Try.f58.results.toList mixed Try.func58 rfl rfl (by kernel_rfl) ?_
  intro Q hQ hQO
  simp only [go_sem]
  refine for_at (xs.length) [0] (fun i f h => f 3 = (.one (.c (.int .i64 (sumC (xs.take i))))) ∧ f 4 = (.one (.c (.int .i64 (i)))) ∧ h = []) (GC.now ?_) ?_
  · simp only [go_sem, nc_0, true_and]
    rfl
  · rintro i f h J hi hA ⟨e3, e4, rfl⟩ hJ
    simp only [go_sem] at hA
    simp only [go_sem, hA, e3, e4]
    refine c_split (fun hb => ?_) (fun hb => ?_)
    rotate_left
    · simp only [go_sem, hb, hA, e3, e4]
      obtain rfl := ge_len hb hi
      (try simp only [go_sem, hA, e3, e4, List.take_length]); repeat' (first | (with_reducible refine c_split (fun hb => ?_) (fun hb => ?_) <;> try simp only [go_sem, hb, hA, e3, e4, List.take_length]) | (with_reducible refine w_split (fun hb => ?_) (fun hb => ?_) <;> try simp only [go_sem, hb, hA, e3, e4, List.take_length]) | (with_reducible refine hQ _ _ ?_ <;> simp only [Try.f58, go_sem, hA, e3, e4, List.take_length]))
      exact hk
    have hi := lt_len hb
    have hw := wrap_nat i (by omega)
    have hil : (i : Int) < ((xs.length : Nat) : Int) := Int.ofNat_lt.2 hi
    have hg0 : (xs)[i]? = some ((xs)[i]) := List.getElem?_eq_getElem (by omega)
    simp only [go_sem, hb, hA, e3, e4, hg0]
    try simp only [go_sem, hA, e3, e4, hil, hg0]
    obtain ⟨s1, s2⟩ := sumQ_s xs i hi
    obtain ⟨w1, w2⟩ := sums_w h hi
    (try simp only [go_sem, hA, e3, e4, hil, hg0, w1, w2]); repeat' (first | (with_reducible refine c_split (fun hb => ?_) (fun hb => ?_) <;> try simp only [go_sem, hb, hA, e3, e4, hil, hg0, w1, w2]) | (with_reducible refine w_split (fun hb => ?_) (fun hb => ?_) <;> try simp only [go_sem, hb, hA, e3, e4, hil, hg0, w1, w2]) | (fail))
    refine gc_trim 0 (by decide) (by simp only [go_sem]) (by simp only [go_sem]) (hJ _ _ hi (by simp only [go_sem, hA, e3, e4]) ⟨?_, ?_, ?_⟩) <;> try simp only [go_sem, hA, e3, e4, hw, s2]
end Go.Proofs.Ytedkpjaojdkpcaa
