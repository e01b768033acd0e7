/- Pack: books as numbers, numbers as bytes, a save as a text. Conditions: none. -/
import Derived.Test.YtedkpjaojdkpcaaGreatLG
import Derived.Test.YtedkpjaojdkpcaaGreatLT
import Derived.Test.YtedkpjaojdkpcaaGreatLTrade
import Derived.Test.YtedkpjaojdkpcaaGreatLSeal
namespace Go.Proofs.YtedkpjaojdkpcaaGreat
open Go.BL Go.RowKit
set_option linter.unusedVariables false
set_option linter.unusedSimpArgs false
set_option maxRecDepth 100000
attribute [local go_sem] accountC balC lotC tradeC booksC intC byteC
def accN (x : Account) : List Int := [x.no, x.kind]
def balN (x : Bal) : List Int := [x.account, x.instr, wrap64 (x.amount + 1000000000000000)]
def lotN (x : Lot) : List Int := [x.account, x.instr, x.no, x.qty, x.cost]
def trdN (x : Trade) : List Int := [x.no, x.buyer, x.seller, x.paper, x.qty, x.cash, x.price, x.state]
def numsK {α : Type} (pre : List Int) (f : α → List Int) (xs : List α) (j : Nat) : List Int := pre ++ (xs.take j).flatMap f
theorem numsK_0 {α : Type} (pre : List Int) (f : α → List Int) (xs : List α) : numsK pre f xs 0 = pre := by simp [numsK]
theorem numsK_s {α : Type} (pre : List Int) (f : α → List Int) (xs : List α) (j : Nat) (hj : j < xs.length) : numsK pre f xs (j + 1) = numsK pre f xs j ++ f xs[j] := by
  rw [numsK, List.take_succ_eq_append_getElem hj, List.flatMap_append, numsK, List.append_assoc]; simp
theorem numsK_len {α : Type} (pre : List Int) (f : α → List Int) (xs : List α) (w : Nat) (hf : ∀ x, (f x).length = w) : ∀ j, (numsK pre f xs j).length ≤ pre.length + w * xs.length
  | 0 => by rw [numsK_0]; omega
  | j + 1 => by
    rw [numsK, List.length_append, List.length_flatMap]
    have : ∀ ys : List α, (ys.map fun x => (f x).length).sum = w * ys.length := by
      intro ys
      induction ys with
      | nil => simp
      | cons y r ih => rw [List.map_cons, List.sum_cons, ih, hf, List.length_cons, Nat.mul_add]; omega
    rw [this]
    have h2 : w * (xs.take (j + 1)).length ≤ w * xs.length := Nat.mul_le_mul_left _ (by rw [List.length_take]; omega)
    omega
theorem num_room {s : List Int} (h : s.length ≤ 100000000) {x : List (List CV)} (hx : x.length ≤ 8) : ((s.map intC).length + x.length) * 8 ≤ 140737488355328 := by rw [List.length_map]; omega
def preN0 (b : Books) : List Int := [(b.accounts.length : Int)]
def preN1 (b : Books) : List Int := numsK (preN0 b) accN b.accounts b.accounts.length ++ [(b.instrs.length : Int)]
def preN2 (b : Books) : List Int := numsK (preN1 b) accN b.instrs b.instrs.length ++ [(b.bals.length : Int)]
def preN3 (b : Books) : List Int := numsK (preN2 b) balN b.bals b.bals.length ++ [(b.lots.length : Int)]
def preN4 (b : Books) : List Int := numsK (preN3 b) lotN b.lots b.lots.length ++ [(b.trades.length : Int)]
def booksN (b : Books) : List Int := numsK (preN4 b) trdN b.trades b.trades.length ++ [b.lot]
theorem pre_len {b : Books} (h : booksOk b = true) : (preN0 b).length ≤ 2000 ∧ (preN1 b).length ≤ 2000 ∧ (preN2 b).length ≤ 2000 ∧ (preN3 b).length ≤ 2000 ∧ (preN4 b).length ≤ 2000 ∧ (booksN b).length ≤ 2000 ∧ (∀ j, (numsK (preN0 b) accN b.accounts j).length ≤ 2000) ∧ (∀ j, (numsK (preN1 b) accN b.instrs j).length ≤ 2000) ∧ (∀ j, (numsK (preN2 b) balN b.bals j).length ≤ 2000) ∧ (∀ j, (numsK (preN3 b) lotN b.lots j).length ≤ 2000) ∧ (∀ j, (numsK (preN4 b) trdN b.trades j).length ≤ 2000) := by
  obtain ⟨p1, p2, p3, p4, p5⟩ := booksOk_parts h
  have q1 := okL_len p1
  have q2 := okL_len p2
  have q3 := (balsOk_amt p3).2
  have q4 : b.lots.length ≤ 120 := by
    rw [lotsOk, Bool.and_eq_true] at p4
    have := okL_len p4.1
    omega
  have q5 := okL_len p5
  have l0 : (preN0 b).length = 1 := rfl
  have k0 := numsK_len (preN0 b) accN b.accounts 2 (fun _ => rfl)
  have l1 : (preN1 b).length = (numsK (preN0 b) accN b.accounts b.accounts.length).length + 1 := by rw [preN1, List.length_append]; rfl
  have m0 := k0 b.accounts.length
  have k1 := numsK_len (preN1 b) accN b.instrs 2 (fun _ => rfl)
  have l2 : (preN2 b).length = (numsK (preN1 b) accN b.instrs b.instrs.length).length + 1 := by rw [preN2, List.length_append]; rfl
  have m1 := k1 b.instrs.length
  have k2 := numsK_len (preN2 b) balN b.bals 3 (fun _ => rfl)
  have l3 : (preN3 b).length = (numsK (preN2 b) balN b.bals b.bals.length).length + 1 := by rw [preN3, List.length_append]; rfl
  have m2 := k2 b.bals.length
  have k3 := numsK_len (preN3 b) lotN b.lots 5 (fun _ => rfl)
  have l4 : (preN4 b).length = (numsK (preN3 b) lotN b.lots b.lots.length).length + 1 := by rw [preN4, List.length_append]; rfl
  have m3 := k3 b.lots.length
  have k4 := numsK_len (preN4 b) trdN b.trades 8 (fun _ => rfl)
  have m4 := k4 b.trades.length
  have l5 : (booksN b).length = (numsK (preN4 b) trdN b.trades b.trades.length).length + 1 := by rw [booksN, List.length_append]; rfl
  refine ⟨by omega, by omega, by omega, by omega, by omega, by omega, ?_, ?_, ?_, ?_, ?_⟩
  · intro j; have := k0 j; omega
  · intro j; have := k1 j; omega
  · intro j; have := k2 j; omega
  · intro j; have := k3 j; omega
  · intro j; have := k4 j; omega
theorem wide_amt {n : Int} (h : amtOk n = true) : wrap64 (n + 1000000000000000) = n + 1000000000000000 := by
  have := of_decide_eq_true h
  exact wrap_id _ (by omega) (by omega)
theorem c_l13Nums (b : Books) (hs : Small b) (hok : booksOk b = true) (K : AV → AH → Prop) (hk : K (.one (.im ((booksN b).map intC))) []) : ACalls Tryz.prog 45 [.agg (booksC b)] [] K := by
  have lens := (pre_len hok).2.2.2.2.2.2
  have l0 : b.accounts.length ≤ 1000000000 := hs.ha
  have l1 : b.instrs.length ≤ 1000000000 := hs.hi
  have l2 : b.bals.length ≤ 1000000000 := hs.hb
  have l3 : b.lots.length ≤ 1000000000 := hs.hl
  have l4 : b.trades.length ≤ 1000000000 := hs.ht
  refine acall_c Tryz.f45.results.toList mixed Tryz.func45 rfl rfl (by kernel_rfl) ?_
  intro Q hQ hQO
  simp only [go_sem]
  (try simp only [go_sem]); repeat' (first | (with_reducible refine c_split (fun hb => ?_) (fun hb => ?_) <;> try simp only [go_sem, hb]) | (with_reducible refine w_split (fun hb => ?_) (fun hb => ?_) <;> try simp only [go_sem, hb]) | (with_reducible refine tw_split (fun hb => ?_) (fun hb => ?_) <;> try simp only [go_sem, hb]) | (with_reducible refine draw_at 0 22 (by with_unfolding_all rfl) [(0, true, true), (1, true, true), (2, true, true), (3, true, false), (4, true, true), (5, true, false), (6, true, false), (7, true, false), (8, true, false), (9, false, false), (10, false, false), (11, false, false), (12, false, false), (13, false, false), (14, false, false), (15, false, true)] (by kernel_rfl) ?_ <;> try simp only [go_sem]) | (with_reducible refine draw_at 0 50 (by with_unfolding_all rfl) [(0, true, true), (1, true, true), (2, true, true), (3, true, false), (4, true, true), (5, true, false), (6, true, false), (7, true, false), (8, true, false), (9, false, false), (10, false, false), (11, false, false), (12, false, false), (13, false, false), (14, false, false), (15, false, true)] (by kernel_rfl) ?_ <;> try simp only [go_sem]) | (with_reducible refine draw_at 0 78 (by with_unfolding_all rfl) [(0, true, true), (1, true, true), (2, true, true), (3, true, false), (4, true, true), (5, true, false), (6, true, false), (7, true, false), (8, true, false), (9, true, false), (10, true, false), (11, true, false), (12, true, false), (13, true, false), (14, true, false), (15, false, false), (16, false, false), (17, false, false), (18, false, false), (19, false, false), (20, false, false), (21, false, false), (22, false, true)] (by kernel_rfl) ?_ <;> try simp only [go_sem]) | (fail))
  have z0 := lens.1
  refine while_at (α := Nat × Nat × Option Nat) (fun ⟨j0, g0, c0⟩ => b.accounts.length - j0) [1] (fun ⟨j0, g0, c0⟩ f h => f 4 = (.one (.c (.int .i64 ((j0 : Int))))) ∧ f 3 = .one (.sl 1 g0 0 (numsK (preN0 b) accN b.accounts j0).length) ∧ h = [.own 0 40 6 (some 1) [booksC b], .own g0 3 1 c0 ((numsK (preN0 b) accN b.accounts j0).map intC)] ∧ j0 ≤ b.accounts.length) (0, 0, some 1) (GC.now ?_) ?_
  · simp only [go_sem, nc_0, true_and]
    rw [numsK_0]; exact ⟨rfl, rfl, Nat.zero_le _⟩
  · rintro ⟨j0, g0, c0⟩ f h J hA ⟨e4, e3, rfl, hP⟩ hJ
    simp only [go_sem] at hA
    try dsimp only at hJ
    simp only [go_sem, hA, e4, e3]
    have hr := fun (x : List (List CV)) hx => num_room (x := x) (Nat.le_trans (z0 j0) (by decide : 2000 ≤ 100000000)) hx
    by_cases hj : j0 < b.accounts.length
    · have hdl : decide ((j0 : Int) < (b.accounts.length : Int)) = true := decide_eq_true (Int.ofNat_lt.2 hj)
      have hg2 : b.accounts[j0]? = some b.accounts[j0] := List.getElem?_eq_getElem hj
      have hil2 : (j0 : Int) < (b.accounts.length : Int) := Int.ofNat_lt.2 hj
      have hsn := numsK_s (preN0 b) accN b.accounts j0 hj
      rw [accN] at hsn
      have hw : wrap64 ((j0 : Int) + 1) = ((j0 + 1 : Nat) : Int) := wrap_nat j0 (Nat.lt_of_lt_of_le hj (Nat.le_trans l0 (by decide)))
      have hdec : b.accounts.length - (j0 + 1) < b.accounts.length - j0 := Nat.sub_lt_sub_left hj (Nat.lt_succ_self j0)
      (try simp only [go_sem, hA, e4, e3, hdl, hg2, hil2]); repeat' (first | (with_reducible refine c_split (fun hb => ?_) (fun hb => ?_) <;> try simp only [go_sem, hb, hA, e4, e3, hdl, hg2, hil2]) | (with_reducible refine w_split (fun hb => ?_) (fun hb => ?_) <;> try simp only [go_sem, hb, hA, e4, e3, hdl, hg2, hil2]) | (with_reducible refine tw_split (fun hb => ?_) (fun hb => ?_) <;> try simp only [go_sem, hb, hA, e4, e3, hdl, hg2, hil2]) | (with_reducible refine draw_at 0 22 (by with_unfolding_all rfl) [(0, true, true), (1, true, true), (2, true, true), (3, true, false), (4, true, true), (5, true, false), (6, true, false), (7, true, false), (8, true, false), (9, false, false), (10, false, false), (11, false, false), (12, false, false), (13, false, false), (14, false, false), (15, false, true)] (by kernel_rfl) ?_ <;> try simp only [go_sem, hA, e4, e3, hdl, hg2, hil2]) | (with_reducible refine draw_at 0 50 (by with_unfolding_all rfl) [(0, true, true), (1, true, true), (2, true, true), (3, true, false), (4, true, true), (5, true, false), (6, true, false), (7, true, false), (8, true, false), (9, false, false), (10, false, false), (11, false, false), (12, false, false), (13, false, false), (14, false, false), (15, false, true)] (by kernel_rfl) ?_ <;> try simp only [go_sem, hA, e4, e3, hdl, hg2, hil2]) | (with_reducible refine draw_at 0 78 (by with_unfolding_all rfl) [(0, true, true), (1, true, true), (2, true, true), (3, true, false), (4, true, true), (5, true, false), (6, true, false), (7, true, false), (8, true, false), (9, true, false), (10, true, false), (11, true, false), (12, true, false), (13, true, false), (14, true, false), (15, false, false), (16, false, false), (17, false, false), (18, false, false), (19, false, false), (20, false, false), (21, false, false), (22, false, true)] (by kernel_rfl) ?_ <;> try simp only [go_sem, hA, e4, e3, hdl, hg2, hil2]) | (fail))
      refine ap_end rfl (List.length_map ..).symm (by exact hr _ (Nat.le_of_ble_eq_true rfl)) ?_
      simp only [go_sem, hA, e4, e3]
      (try simp only [go_sem, hA, e4, e3]); repeat' (first | (with_reducible refine c_split (fun hb => ?_) (fun hb => ?_) <;> try simp only [go_sem, hb, hA, e4, e3]) | (with_reducible refine w_split (fun hb => ?_) (fun hb => ?_) <;> try simp only [go_sem, hb, hA, e4, e3]) | (with_reducible refine tw_split (fun hb => ?_) (fun hb => ?_) <;> try simp only [go_sem, hb, hA, e4, e3]) | (with_reducible refine draw_at 0 22 (by with_unfolding_all rfl) [(0, true, true), (1, true, true), (2, true, true), (3, true, false), (4, true, true), (5, true, false), (6, true, false), (7, true, false), (8, true, false), (9, false, false), (10, false, false), (11, false, false), (12, false, false), (13, false, false), (14, false, false), (15, false, true)] (by kernel_rfl) ?_ <;> try simp only [go_sem, hA, e4, e3]) | (with_reducible refine draw_at 0 50 (by with_unfolding_all rfl) [(0, true, true), (1, true, true), (2, true, true), (3, true, false), (4, true, true), (5, true, false), (6, true, false), (7, true, false), (8, true, false), (9, false, false), (10, false, false), (11, false, false), (12, false, false), (13, false, false), (14, false, false), (15, false, true)] (by kernel_rfl) ?_ <;> try simp only [go_sem, hA, e4, e3]) | (with_reducible refine draw_at 0 78 (by with_unfolding_all rfl) [(0, true, true), (1, true, true), (2, true, true), (3, true, false), (4, true, true), (5, true, false), (6, true, false), (7, true, false), (8, true, false), (9, true, false), (10, true, false), (11, true, false), (12, true, false), (13, true, false), (14, true, false), (15, false, false), (16, false, false), (17, false, false), (18, false, false), (19, false, false), (20, false, false), (21, false, false), (22, false, true)] (by kernel_rfl) ?_ <;> try simp only [go_sem, hA, e4, e3]) | (fail))
      refine gc_trim 2 (by decide) (by simp only [go_sem]) (by simp only [go_sem, hw, hsn, List.map_append, List.map_cons, List.map_nil]) (hJ (j0 + 1, g0 + 1, none) _ _ (by exact hdec) (by simp only [go_sem, hA, e4, e3]) ⟨?_, ?_, ?_, ?_⟩) <;> try simp only [go_sem, hA, e4, e3, hw, hsn, List.map_append, List.map_cons, List.map_nil]
      exact hj
    · have hjl : j0 = b.accounts.length := Nat.le_antisymm hP (Nat.le_of_not_lt hj)
      have hdl : decide ((j0 : Int) < (b.accounts.length : Int)) = false := decide_eq_false (fun q => hj (Int.ofNat_lt.1 q))
      (try simp only [go_sem, hA, e4, e3, hdl]); repeat' (first | (with_reducible refine c_split (fun hb => ?_) (fun hb => ?_) <;> try simp only [go_sem, hb, hA, e4, e3, hdl]) | (with_reducible refine w_split (fun hb => ?_) (fun hb => ?_) <;> try simp only [go_sem, hb, hA, e4, e3, hdl]) | (with_reducible refine tw_split (fun hb => ?_) (fun hb => ?_) <;> try simp only [go_sem, hb, hA, e4, e3, hdl]) | (with_reducible refine draw_at 0 22 (by with_unfolding_all rfl) [(0, true, true), (1, true, true), (2, true, true), (3, true, false), (4, true, true), (5, true, false), (6, true, false), (7, true, false), (8, true, false), (9, false, false), (10, false, false), (11, false, false), (12, false, false), (13, false, false), (14, false, false), (15, false, true)] (by kernel_rfl) ?_ <;> try simp only [go_sem, hA, e4, e3, hdl]) | (with_reducible refine draw_at 0 50 (by with_unfolding_all rfl) [(0, true, true), (1, true, true), (2, true, true), (3, true, false), (4, true, true), (5, true, false), (6, true, false), (7, true, false), (8, true, false), (9, false, false), (10, false, false), (11, false, false), (12, false, false), (13, false, false), (14, false, false), (15, false, true)] (by kernel_rfl) ?_ <;> try simp only [go_sem, hA, e4, e3, hdl]) | (with_reducible refine draw_at 0 78 (by with_unfolding_all rfl) [(0, true, true), (1, true, true), (2, true, true), (3, true, false), (4, true, true), (5, true, false), (6, true, false), (7, true, false), (8, true, false), (9, true, false), (10, true, false), (11, true, false), (12, true, false), (13, true, false), (14, true, false), (15, false, false), (16, false, false), (17, false, false), (18, false, false), (19, false, false), (20, false, false), (21, false, false), (22, false, true)] (by kernel_rfl) ?_ <;> try simp only [go_sem, hA, e4, e3, hdl]) | (fail))
      refine ap_end rfl (List.length_map ..).symm (by exact hr _ (Nat.le_of_ble_eq_true rfl)) ?_
      simp only [go_sem, hA, e4, e3]
      have hp1 : preN1 b = numsK (preN0 b) accN b.accounts j0 ++ [(b.instrs.length : Int)] := by rw [preN1, hjl]
      (try simp only [go_sem, hA, e4, e3]); repeat' (first | (with_reducible refine c_split (fun hb => ?_) (fun hb => ?_) <;> try simp only [go_sem, hb, hA, e4, e3]) | (with_reducible refine w_split (fun hb => ?_) (fun hb => ?_) <;> try simp only [go_sem, hb, hA, e4, e3]) | (with_reducible refine tw_split (fun hb => ?_) (fun hb => ?_) <;> try simp only [go_sem, hb, hA, e4, e3]) | (with_reducible refine draw_at 0 22 (by with_unfolding_all rfl) [(0, true, true), (1, true, true), (2, true, true), (3, true, false), (4, true, true), (5, true, false), (6, true, false), (7, true, false), (8, true, false), (9, false, false), (10, false, false), (11, false, false), (12, false, false), (13, false, false), (14, false, false), (15, false, true)] (by kernel_rfl) ?_ <;> try simp only [go_sem, hA, e4, e3]) | (with_reducible refine draw_at 0 50 (by with_unfolding_all rfl) [(0, true, true), (1, true, true), (2, true, true), (3, true, false), (4, true, true), (5, true, false), (6, true, false), (7, true, false), (8, true, false), (9, false, false), (10, false, false), (11, false, false), (12, false, false), (13, false, false), (14, false, false), (15, false, true)] (by kernel_rfl) ?_ <;> try simp only [go_sem, hA, e4, e3]) | (with_reducible refine draw_at 0 78 (by with_unfolding_all rfl) [(0, true, true), (1, true, true), (2, true, true), (3, true, false), (4, true, true), (5, true, false), (6, true, false), (7, true, false), (8, true, false), (9, true, false), (10, true, false), (11, true, false), (12, true, false), (13, true, false), (14, true, false), (15, false, false), (16, false, false), (17, false, false), (18, false, false), (19, false, false), (20, false, false), (21, false, false), (22, false, true)] (by kernel_rfl) ?_ <;> try simp only [go_sem, hA, e4, e3]) | (fail))
      have hq0 := hA
      clear hJ hA hj hdl hr
      have z1 := lens.2.1
      refine while_at (α := Nat × Nat × Option Nat) (fun ⟨j1, g1, c1⟩ => b.instrs.length - j1) [1] (fun ⟨j1, g1, c1⟩ f h => f 5 = (.one (.c (.int .i64 ((j1 : Int))))) ∧ f 3 = .one (.sl 1 g1 0 (numsK (preN1 b) accN b.instrs j1).length) ∧ h = [.own 0 40 6 (some 1) [booksC b], .own g1 3 1 c1 ((numsK (preN1 b) accN b.instrs j1).map intC), .own 0 3 1 (some 1) [[.c (.int .i64 ((b.instrs.length : Int)))]]] ∧ j1 ≤ b.instrs.length) (0, g0 + 1, none) (GC.now ?_) ?_
      · simp only [go_sem, nc_0, true_and, hq0]
        rw [numsK_0, hp1]; exact ⟨by rw [List.length_append]; rfl, by first | (rw [List.map_append]; done) | (rw [List.map_append]; rfl), Nat.zero_le _⟩
      · rintro ⟨j1, g1, c1⟩ f h J hA ⟨e5, e3, rfl, hP⟩ hJ
        simp only [go_sem, hq0] at hA
        try dsimp only at hJ
        simp only [go_sem, hA, e5, e3, hq0]
        try simp only [hq0] at hA
        have hr := fun (x : List (List CV)) hx => num_room (x := x) (Nat.le_trans (z1 j1) (by decide : 2000 ≤ 100000000)) hx
        by_cases hj : j1 < b.instrs.length
        · have hdl : decide ((j1 : Int) < (b.instrs.length : Int)) = true := decide_eq_true (Int.ofNat_lt.2 hj)
          have hg2 : b.instrs[j1]? = some b.instrs[j1] := List.getElem?_eq_getElem hj
          have hil2 : (j1 : Int) < (b.instrs.length : Int) := Int.ofNat_lt.2 hj
          have hsn := numsK_s (preN1 b) accN b.instrs j1 hj
          rw [accN] at hsn
          have hw : wrap64 ((j1 : Int) + 1) = ((j1 + 1 : Nat) : Int) := wrap_nat j1 (Nat.lt_of_lt_of_le hj (Nat.le_trans l1 (by decide)))
          have hdec : b.instrs.length - (j1 + 1) < b.instrs.length - j1 := Nat.sub_lt_sub_left hj (Nat.lt_succ_self j1)
          (try simp only [go_sem, hA, e5, e3, hq0, hdl, hg2, hil2]); repeat' (first | (with_reducible refine c_split (fun hb => ?_) (fun hb => ?_) <;> try simp only [go_sem, hb, hA, e5, e3, hq0, hdl, hg2, hil2]) | (with_reducible refine w_split (fun hb => ?_) (fun hb => ?_) <;> try simp only [go_sem, hb, hA, e5, e3, hq0, hdl, hg2, hil2]) | (with_reducible refine tw_split (fun hb => ?_) (fun hb => ?_) <;> try simp only [go_sem, hb, hA, e5, e3, hq0, hdl, hg2, hil2]) | (with_reducible refine draw_at 0 22 (by with_unfolding_all rfl) [(0, true, true), (1, true, true), (2, true, true), (3, true, false), (4, true, true), (5, true, false), (6, true, false), (7, true, false), (8, true, false), (9, false, false), (10, false, false), (11, false, false), (12, false, false), (13, false, false), (14, false, false), (15, false, true)] (by kernel_rfl) ?_ <;> try simp only [go_sem, hA, e5, e3, hq0, hdl, hg2, hil2]) | (with_reducible refine draw_at 0 50 (by with_unfolding_all rfl) [(0, true, true), (1, true, true), (2, true, true), (3, true, false), (4, true, true), (5, true, false), (6, true, false), (7, true, false), (8, true, false), (9, false, false), (10, false, false), (11, false, false), (12, false, false), (13, false, false), (14, false, false), (15, false, true)] (by kernel_rfl) ?_ <;> try simp only [go_sem, hA, e5, e3, hq0, hdl, hg2, hil2]) | (with_reducible refine draw_at 0 78 (by with_unfolding_all rfl) [(0, true, true), (1, true, true), (2, true, true), (3, true, false), (4, true, true), (5, true, false), (6, true, false), (7, true, false), (8, true, false), (9, true, false), (10, true, false), (11, true, false), (12, true, false), (13, true, false), (14, true, false), (15, false, false), (16, false, false), (17, false, false), (18, false, false), (19, false, false), (20, false, false), (21, false, false), (22, false, true)] (by kernel_rfl) ?_ <;> try simp only [go_sem, hA, e5, e3, hq0, hdl, hg2, hil2]) | (fail))
          refine ap_end rfl (List.length_map ..).symm (by exact hr _ (Nat.le_of_ble_eq_true rfl)) ?_
          simp only [go_sem, hA, e5, e3, hq0]
          (try simp only [go_sem, hA, e5, e3, hq0]); repeat' (first | (with_reducible refine c_split (fun hb => ?_) (fun hb => ?_) <;> try simp only [go_sem, hb, hA, e5, e3, hq0]) | (with_reducible refine w_split (fun hb => ?_) (fun hb => ?_) <;> try simp only [go_sem, hb, hA, e5, e3, hq0]) | (with_reducible refine tw_split (fun hb => ?_) (fun hb => ?_) <;> try simp only [go_sem, hb, hA, e5, e3, hq0]) | (with_reducible refine draw_at 0 22 (by with_unfolding_all rfl) [(0, true, true), (1, true, true), (2, true, true), (3, true, false), (4, true, true), (5, true, false), (6, true, false), (7, true, false), (8, true, false), (9, false, false), (10, false, false), (11, false, false), (12, false, false), (13, false, false), (14, false, false), (15, false, true)] (by kernel_rfl) ?_ <;> try simp only [go_sem, hA, e5, e3, hq0]) | (with_reducible refine draw_at 0 50 (by with_unfolding_all rfl) [(0, true, true), (1, true, true), (2, true, true), (3, true, false), (4, true, true), (5, true, false), (6, true, false), (7, true, false), (8, true, false), (9, false, false), (10, false, false), (11, false, false), (12, false, false), (13, false, false), (14, false, false), (15, false, true)] (by kernel_rfl) ?_ <;> try simp only [go_sem, hA, e5, e3, hq0]) | (with_reducible refine draw_at 0 78 (by with_unfolding_all rfl) [(0, true, true), (1, true, true), (2, true, true), (3, true, false), (4, true, true), (5, true, false), (6, true, false), (7, true, false), (8, true, false), (9, true, false), (10, true, false), (11, true, false), (12, true, false), (13, true, false), (14, true, false), (15, false, false), (16, false, false), (17, false, false), (18, false, false), (19, false, false), (20, false, false), (21, false, false), (22, false, true)] (by kernel_rfl) ?_ <;> try simp only [go_sem, hA, e5, e3, hq0]) | (fail))
          refine gc_trim 3 (by decide) (by simp only [go_sem]) (by simp only [go_sem, hw, hsn, List.map_append, List.map_cons, List.map_nil]) (hJ (j1 + 1, g1 + 1, none) _ _ (by exact hdec) (by simp only [go_sem, hA, e5, e3, hq0]) ⟨?_, ?_, ?_, ?_⟩) <;> try simp only [go_sem, hA, e5, e3, hq0, hw, hsn, List.map_append, List.map_cons, List.map_nil]
          exact hj
        · have hjl : j1 = b.instrs.length := Nat.le_antisymm hP (Nat.le_of_not_lt hj)
          have hdl : decide ((j1 : Int) < (b.instrs.length : Int)) = false := decide_eq_false (fun q => hj (Int.ofNat_lt.1 q))
          (try simp only [go_sem, hA, e5, e3, hq0, hdl]); repeat' (first | (with_reducible refine c_split (fun hb => ?_) (fun hb => ?_) <;> try simp only [go_sem, hb, hA, e5, e3, hq0, hdl]) | (with_reducible refine w_split (fun hb => ?_) (fun hb => ?_) <;> try simp only [go_sem, hb, hA, e5, e3, hq0, hdl]) | (with_reducible refine tw_split (fun hb => ?_) (fun hb => ?_) <;> try simp only [go_sem, hb, hA, e5, e3, hq0, hdl]) | (with_reducible refine draw_at 0 22 (by with_unfolding_all rfl) [(0, true, true), (1, true, true), (2, true, true), (3, true, false), (4, true, true), (5, true, false), (6, true, false), (7, true, false), (8, true, false), (9, false, false), (10, false, false), (11, false, false), (12, false, false), (13, false, false), (14, false, false), (15, false, true)] (by kernel_rfl) ?_ <;> try simp only [go_sem, hA, e5, e3, hq0, hdl]) | (with_reducible refine draw_at 0 50 (by with_unfolding_all rfl) [(0, true, true), (1, true, true), (2, true, true), (3, true, false), (4, true, true), (5, true, false), (6, true, false), (7, true, false), (8, true, false), (9, false, false), (10, false, false), (11, false, false), (12, false, false), (13, false, false), (14, false, false), (15, false, true)] (by kernel_rfl) ?_ <;> try simp only [go_sem, hA, e5, e3, hq0, hdl]) | (with_reducible refine draw_at 0 78 (by with_unfolding_all rfl) [(0, true, true), (1, true, true), (2, true, true), (3, true, false), (4, true, true), (5, true, false), (6, true, false), (7, true, false), (8, true, false), (9, true, false), (10, true, false), (11, true, false), (12, true, false), (13, true, false), (14, true, false), (15, false, false), (16, false, false), (17, false, false), (18, false, false), (19, false, false), (20, false, false), (21, false, false), (22, false, true)] (by kernel_rfl) ?_ <;> try simp only [go_sem, hA, e5, e3, hq0, hdl]) | (fail))
          refine ap_end rfl (List.length_map ..).symm (by exact hr _ (Nat.le_of_ble_eq_true rfl)) ?_
          simp only [go_sem, hA, e5, e3, hq0]
          have hp2 : preN2 b = numsK (preN1 b) accN b.instrs j1 ++ [(b.bals.length : Int)] := by rw [preN2, hjl]
          (try simp only [go_sem, hA, e5, e3, hq0]); repeat' (first | (with_reducible refine c_split (fun hb => ?_) (fun hb => ?_) <;> try simp only [go_sem, hb, hA, e5, e3, hq0]) | (with_reducible refine w_split (fun hb => ?_) (fun hb => ?_) <;> try simp only [go_sem, hb, hA, e5, e3, hq0]) | (with_reducible refine tw_split (fun hb => ?_) (fun hb => ?_) <;> try simp only [go_sem, hb, hA, e5, e3, hq0]) | (with_reducible refine draw_at 0 22 (by with_unfolding_all rfl) [(0, true, true), (1, true, true), (2, true, true), (3, true, false), (4, true, true), (5, true, false), (6, true, false), (7, true, false), (8, true, false), (9, false, false), (10, false, false), (11, false, false), (12, false, false), (13, false, false), (14, false, false), (15, false, true)] (by kernel_rfl) ?_ <;> try simp only [go_sem, hA, e5, e3, hq0]) | (with_reducible refine draw_at 0 50 (by with_unfolding_all rfl) [(0, true, true), (1, true, true), (2, true, true), (3, true, false), (4, true, true), (5, true, false), (6, true, false), (7, true, false), (8, true, false), (9, false, false), (10, false, false), (11, false, false), (12, false, false), (13, false, false), (14, false, false), (15, false, true)] (by kernel_rfl) ?_ <;> try simp only [go_sem, hA, e5, e3, hq0]) | (with_reducible refine draw_at 0 78 (by with_unfolding_all rfl) [(0, true, true), (1, true, true), (2, true, true), (3, true, false), (4, true, true), (5, true, false), (6, true, false), (7, true, false), (8, true, false), (9, true, false), (10, true, false), (11, true, false), (12, true, false), (13, true, false), (14, true, false), (15, false, false), (16, false, false), (17, false, false), (18, false, false), (19, false, false), (20, false, false), (21, false, false), (22, false, true)] (by kernel_rfl) ?_ <;> try simp only [go_sem, hA, e5, e3, hq0]) | (fail))
          have hq1 := hA
          clear hJ hA hj hdl hr
          have z2 := lens.2.2.1
          refine while_at (α := Nat × Nat × Option Nat) (fun ⟨j2, g2, c2⟩ => b.bals.length - j2) [1] (fun ⟨j2, g2, c2⟩ f h => f 6 = (.one (.c (.int .i64 ((j2 : Int))))) ∧ f 3 = .one (.sl 1 g2 0 (numsK (preN2 b) balN b.bals j2).length) ∧ h = [.own 0 40 6 (some 1) [booksC b], .own g2 3 1 c2 ((numsK (preN2 b) balN b.bals j2).map intC), .own 0 3 1 (some 1) [[.c (.int .i64 ((b.instrs.length : Int)))]], .own 0 3 1 (some 1) [[.c (.int .i64 ((b.bals.length : Int)))]]] ∧ j2 ≤ b.bals.length) (0, g1 + 1, none) (GC.now ?_) ?_
          · simp only [go_sem, nc_0, true_and, hq1]
            rw [numsK_0, hp2]; exact ⟨by rw [List.length_append]; rfl, by first | (rw [List.map_append]; done) | (rw [List.map_append]; rfl), Nat.zero_le _⟩
          · rintro ⟨j2, g2, c2⟩ f h J hA ⟨e6, e3, rfl, hP⟩ hJ
            simp only [go_sem, hq1] at hA
            try dsimp only at hJ
            simp only [go_sem, hA, e6, e3, hq1]
            try simp only [hq1] at hA
            have hr := fun (x : List (List CV)) hx => num_room (x := x) (Nat.le_trans (z2 j2) (by decide : 2000 ≤ 100000000)) hx
            by_cases hj : j2 < b.bals.length
            · have hdl : decide ((j2 : Int) < (b.bals.length : Int)) = true := decide_eq_true (Int.ofNat_lt.2 hj)
              have hg2 : b.bals[j2]? = some b.bals[j2] := List.getElem?_eq_getElem hj
              have hil2 : (j2 : Int) < (b.bals.length : Int) := Int.ofNat_lt.2 hj
              have hsn := numsK_s (preN2 b) balN b.bals j2 hj
              rw [balN] at hsn
              have hw : wrap64 ((j2 : Int) + 1) = ((j2 + 1 : Nat) : Int) := wrap_nat j2 (Nat.lt_of_lt_of_le hj (Nat.le_trans l2 (by decide)))
              have hdec : b.bals.length - (j2 + 1) < b.bals.length - j2 := Nat.sub_lt_sub_left hj (Nat.lt_succ_self j2)
              (try simp only [go_sem, hA, e6, e3, hq1, hdl, hg2, hil2]); repeat' (first | (with_reducible refine c_split (fun hb => ?_) (fun hb => ?_) <;> try simp only [go_sem, hb, hA, e6, e3, hq1, hdl, hg2, hil2]) | (with_reducible refine w_split (fun hb => ?_) (fun hb => ?_) <;> try simp only [go_sem, hb, hA, e6, e3, hq1, hdl, hg2, hil2]) | (with_reducible refine tw_split (fun hb => ?_) (fun hb => ?_) <;> try simp only [go_sem, hb, hA, e6, e3, hq1, hdl, hg2, hil2]) | (with_reducible refine draw_at 0 22 (by with_unfolding_all rfl) [(0, true, true), (1, true, true), (2, true, true), (3, true, false), (4, true, true), (5, true, false), (6, true, false), (7, true, false), (8, true, false), (9, false, false), (10, false, false), (11, false, false), (12, false, false), (13, false, false), (14, false, false), (15, false, true)] (by kernel_rfl) ?_ <;> try simp only [go_sem, hA, e6, e3, hq1, hdl, hg2, hil2]) | (with_reducible refine draw_at 0 50 (by with_unfolding_all rfl) [(0, true, true), (1, true, true), (2, true, true), (3, true, false), (4, true, true), (5, true, false), (6, true, false), (7, true, false), (8, true, false), (9, false, false), (10, false, false), (11, false, false), (12, false, false), (13, false, false), (14, false, false), (15, false, true)] (by kernel_rfl) ?_ <;> try simp only [go_sem, hA, e6, e3, hq1, hdl, hg2, hil2]) | (with_reducible refine draw_at 0 78 (by with_unfolding_all rfl) [(0, true, true), (1, true, true), (2, true, true), (3, true, false), (4, true, true), (5, true, false), (6, true, false), (7, true, false), (8, true, false), (9, true, false), (10, true, false), (11, true, false), (12, true, false), (13, true, false), (14, true, false), (15, false, false), (16, false, false), (17, false, false), (18, false, false), (19, false, false), (20, false, false), (21, false, false), (22, false, true)] (by kernel_rfl) ?_ <;> try simp only [go_sem, hA, e6, e3, hq1, hdl, hg2, hil2]) | (fail))
              refine ap_end rfl (List.length_map ..).symm (by exact hr _ (Nat.le_of_ble_eq_true rfl)) ?_
              simp only [go_sem, hA, e6, e3, hq1]
              (try simp only [go_sem, hA, e6, e3, hq1]); repeat' (first | (with_reducible refine c_split (fun hb => ?_) (fun hb => ?_) <;> try simp only [go_sem, hb, hA, e6, e3, hq1]) | (with_reducible refine w_split (fun hb => ?_) (fun hb => ?_) <;> try simp only [go_sem, hb, hA, e6, e3, hq1]) | (with_reducible refine tw_split (fun hb => ?_) (fun hb => ?_) <;> try simp only [go_sem, hb, hA, e6, e3, hq1]) | (with_reducible refine draw_at 0 22 (by with_unfolding_all rfl) [(0, true, true), (1, true, true), (2, true, true), (3, true, false), (4, true, true), (5, true, false), (6, true, false), (7, true, false), (8, true, false), (9, false, false), (10, false, false), (11, false, false), (12, false, false), (13, false, false), (14, false, false), (15, false, true)] (by kernel_rfl) ?_ <;> try simp only [go_sem, hA, e6, e3, hq1]) | (with_reducible refine draw_at 0 50 (by with_unfolding_all rfl) [(0, true, true), (1, true, true), (2, true, true), (3, true, false), (4, true, true), (5, true, false), (6, true, false), (7, true, false), (8, true, false), (9, false, false), (10, false, false), (11, false, false), (12, false, false), (13, false, false), (14, false, false), (15, false, true)] (by kernel_rfl) ?_ <;> try simp only [go_sem, hA, e6, e3, hq1]) | (with_reducible refine draw_at 0 78 (by with_unfolding_all rfl) [(0, true, true), (1, true, true), (2, true, true), (3, true, false), (4, true, true), (5, true, false), (6, true, false), (7, true, false), (8, true, false), (9, true, false), (10, true, false), (11, true, false), (12, true, false), (13, true, false), (14, true, false), (15, false, false), (16, false, false), (17, false, false), (18, false, false), (19, false, false), (20, false, false), (21, false, false), (22, false, true)] (by kernel_rfl) ?_ <;> try simp only [go_sem, hA, e6, e3, hq1]) | (fail))
              refine gc_trim 4 (by decide) (by simp only [go_sem]) (by simp only [go_sem, hw, hsn, List.map_append, List.map_cons, List.map_nil]) (hJ (j2 + 1, g2 + 1, none) _ _ (by exact hdec) (by simp only [go_sem, hA, e6, e3, hq1]) ⟨?_, ?_, ?_, ?_⟩) <;> try simp only [go_sem, hA, e6, e3, hq1, hw, hsn, List.map_append, List.map_cons, List.map_nil]
              exact hj
            · have hjl : j2 = b.bals.length := Nat.le_antisymm hP (Nat.le_of_not_lt hj)
              have hdl : decide ((j2 : Int) < (b.bals.length : Int)) = false := decide_eq_false (fun q => hj (Int.ofNat_lt.1 q))
              (try simp only [go_sem, hA, e6, e3, hq1, hdl]); repeat' (first | (with_reducible refine c_split (fun hb => ?_) (fun hb => ?_) <;> try simp only [go_sem, hb, hA, e6, e3, hq1, hdl]) | (with_reducible refine w_split (fun hb => ?_) (fun hb => ?_) <;> try simp only [go_sem, hb, hA, e6, e3, hq1, hdl]) | (with_reducible refine tw_split (fun hb => ?_) (fun hb => ?_) <;> try simp only [go_sem, hb, hA, e6, e3, hq1, hdl]) | (with_reducible refine draw_at 0 22 (by with_unfolding_all rfl) [(0, true, true), (1, true, true), (2, true, true), (3, true, false), (4, true, true), (5, true, false), (6, true, false), (7, true, false), (8, true, false), (9, false, false), (10, false, false), (11, false, false), (12, false, false), (13, false, false), (14, false, false), (15, false, true)] (by kernel_rfl) ?_ <;> try simp only [go_sem, hA, e6, e3, hq1, hdl]) | (with_reducible refine draw_at 0 50 (by with_unfolding_all rfl) [(0, true, true), (1, true, true), (2, true, true), (3, true, false), (4, true, true), (5, true, false), (6, true, false), (7, true, false), (8, true, false), (9, false, false), (10, false, false), (11, false, false), (12, false, false), (13, false, false), (14, false, false), (15, false, true)] (by kernel_rfl) ?_ <;> try simp only [go_sem, hA, e6, e3, hq1, hdl]) | (with_reducible refine draw_at 0 78 (by with_unfolding_all rfl) [(0, true, true), (1, true, true), (2, true, true), (3, true, false), (4, true, true), (5, true, false), (6, true, false), (7, true, false), (8, true, false), (9, true, false), (10, true, false), (11, true, false), (12, true, false), (13, true, false), (14, true, false), (15, false, false), (16, false, false), (17, false, false), (18, false, false), (19, false, false), (20, false, false), (21, false, false), (22, false, true)] (by kernel_rfl) ?_ <;> try simp only [go_sem, hA, e6, e3, hq1, hdl]) | (fail))
              refine ap_end rfl (List.length_map ..).symm (by exact hr _ (Nat.le_of_ble_eq_true rfl)) ?_
              simp only [go_sem, hA, e6, e3, hq1]
              have hp3 : preN3 b = numsK (preN2 b) balN b.bals j2 ++ [(b.lots.length : Int)] := by rw [preN3, hjl]
              (try simp only [go_sem, hA, e6, e3, hq1]); repeat' (first | (with_reducible refine c_split (fun hb => ?_) (fun hb => ?_) <;> try simp only [go_sem, hb, hA, e6, e3, hq1]) | (with_reducible refine w_split (fun hb => ?_) (fun hb => ?_) <;> try simp only [go_sem, hb, hA, e6, e3, hq1]) | (with_reducible refine tw_split (fun hb => ?_) (fun hb => ?_) <;> try simp only [go_sem, hb, hA, e6, e3, hq1]) | (with_reducible refine draw_at 0 22 (by with_unfolding_all rfl) [(0, true, true), (1, true, true), (2, true, true), (3, true, false), (4, true, true), (5, true, false), (6, true, false), (7, true, false), (8, true, false), (9, false, false), (10, false, false), (11, false, false), (12, false, false), (13, false, false), (14, false, false), (15, false, true)] (by kernel_rfl) ?_ <;> try simp only [go_sem, hA, e6, e3, hq1]) | (with_reducible refine draw_at 0 50 (by with_unfolding_all rfl) [(0, true, true), (1, true, true), (2, true, true), (3, true, false), (4, true, true), (5, true, false), (6, true, false), (7, true, false), (8, true, false), (9, false, false), (10, false, false), (11, false, false), (12, false, false), (13, false, false), (14, false, false), (15, false, true)] (by kernel_rfl) ?_ <;> try simp only [go_sem, hA, e6, e3, hq1]) | (with_reducible refine draw_at 0 78 (by with_unfolding_all rfl) [(0, true, true), (1, true, true), (2, true, true), (3, true, false), (4, true, true), (5, true, false), (6, true, false), (7, true, false), (8, true, false), (9, true, false), (10, true, false), (11, true, false), (12, true, false), (13, true, false), (14, true, false), (15, false, false), (16, false, false), (17, false, false), (18, false, false), (19, false, false), (20, false, false), (21, false, false), (22, false, true)] (by kernel_rfl) ?_ <;> try simp only [go_sem, hA, e6, e3, hq1]) | (fail))
              have hq2 := hA
              clear hJ hA hj hdl hr
              have z3 := lens.2.2.2.1
              refine while_at (α := Nat × Nat × Option Nat) (fun ⟨j3, g3, c3⟩ => b.lots.length - j3) [1] (fun ⟨j3, g3, c3⟩ f h => f 7 = (.one (.c (.int .i64 ((j3 : Int))))) ∧ f 3 = .one (.sl 1 g3 0 (numsK (preN3 b) lotN b.lots j3).length) ∧ h = [.own 0 40 6 (some 1) [booksC b], .own g3 3 1 c3 ((numsK (preN3 b) lotN b.lots j3).map intC), .own 0 3 1 (some 1) [[.c (.int .i64 ((b.instrs.length : Int)))]], .own 0 3 1 (some 1) [[.c (.int .i64 ((b.bals.length : Int)))]], .own 0 3 1 (some 1) [[.c (.int .i64 ((b.lots.length : Int)))]]] ∧ j3 ≤ b.lots.length) (0, g2 + 1, none) (GC.now ?_) ?_
              · simp only [go_sem, nc_0, true_and, hq2]
                rw [numsK_0, hp3]; exact ⟨by rw [List.length_append]; rfl, by first | (rw [List.map_append]; done) | (rw [List.map_append]; rfl), Nat.zero_le _⟩
              · rintro ⟨j3, g3, c3⟩ f h J hA ⟨e7, e3, rfl, hP⟩ hJ
                simp only [go_sem, hq2] at hA
                try dsimp only at hJ
                simp only [go_sem, hA, e7, e3, hq2]
                try simp only [hq2] at hA
                have hr := fun (x : List (List CV)) hx => num_room (x := x) (Nat.le_trans (z3 j3) (by decide : 2000 ≤ 100000000)) hx
                by_cases hj : j3 < b.lots.length
                · have hdl : decide ((j3 : Int) < (b.lots.length : Int)) = true := decide_eq_true (Int.ofNat_lt.2 hj)
                  have hg2 : b.lots[j3]? = some b.lots[j3] := List.getElem?_eq_getElem hj
                  have hil2 : (j3 : Int) < (b.lots.length : Int) := Int.ofNat_lt.2 hj
                  have hsn := numsK_s (preN3 b) lotN b.lots j3 hj
                  rw [lotN] at hsn
                  have hw : wrap64 ((j3 : Int) + 1) = ((j3 + 1 : Nat) : Int) := wrap_nat j3 (Nat.lt_of_lt_of_le hj (Nat.le_trans l3 (by decide)))
                  have hdec : b.lots.length - (j3 + 1) < b.lots.length - j3 := Nat.sub_lt_sub_left hj (Nat.lt_succ_self j3)
                  (try simp only [go_sem, hA, e7, e3, hq2, hdl, hg2, hil2]); repeat' (first | (with_reducible refine c_split (fun hb => ?_) (fun hb => ?_) <;> try simp only [go_sem, hb, hA, e7, e3, hq2, hdl, hg2, hil2]) | (with_reducible refine w_split (fun hb => ?_) (fun hb => ?_) <;> try simp only [go_sem, hb, hA, e7, e3, hq2, hdl, hg2, hil2]) | (with_reducible refine tw_split (fun hb => ?_) (fun hb => ?_) <;> try simp only [go_sem, hb, hA, e7, e3, hq2, hdl, hg2, hil2]) | (with_reducible refine draw_at 0 22 (by with_unfolding_all rfl) [(0, true, true), (1, true, true), (2, true, true), (3, true, false), (4, true, true), (5, true, false), (6, true, false), (7, true, false), (8, true, false), (9, false, false), (10, false, false), (11, false, false), (12, false, false), (13, false, false), (14, false, false), (15, false, true)] (by kernel_rfl) ?_ <;> try simp only [go_sem, hA, e7, e3, hq2, hdl, hg2, hil2]) | (with_reducible refine draw_at 0 50 (by with_unfolding_all rfl) [(0, true, true), (1, true, true), (2, true, true), (3, true, false), (4, true, true), (5, true, false), (6, true, false), (7, true, false), (8, true, false), (9, false, false), (10, false, false), (11, false, false), (12, false, false), (13, false, false), (14, false, false), (15, false, true)] (by kernel_rfl) ?_ <;> try simp only [go_sem, hA, e7, e3, hq2, hdl, hg2, hil2]) | (with_reducible refine draw_at 0 78 (by with_unfolding_all rfl) [(0, true, true), (1, true, true), (2, true, true), (3, true, false), (4, true, true), (5, true, false), (6, true, false), (7, true, false), (8, true, false), (9, true, false), (10, true, false), (11, true, false), (12, true, false), (13, true, false), (14, true, false), (15, false, false), (16, false, false), (17, false, false), (18, false, false), (19, false, false), (20, false, false), (21, false, false), (22, false, true)] (by kernel_rfl) ?_ <;> try simp only [go_sem, hA, e7, e3, hq2, hdl, hg2, hil2]) | (fail))
                  refine ap_end rfl (List.length_map ..).symm (by exact hr _ (Nat.le_of_ble_eq_true rfl)) ?_
                  simp only [go_sem, hA, e7, e3, hq2]
                  (try simp only [go_sem, hA, e7, e3, hq2]); repeat' (first | (with_reducible refine c_split (fun hb => ?_) (fun hb => ?_) <;> try simp only [go_sem, hb, hA, e7, e3, hq2]) | (with_reducible refine w_split (fun hb => ?_) (fun hb => ?_) <;> try simp only [go_sem, hb, hA, e7, e3, hq2]) | (with_reducible refine tw_split (fun hb => ?_) (fun hb => ?_) <;> try simp only [go_sem, hb, hA, e7, e3, hq2]) | (with_reducible refine draw_at 0 22 (by with_unfolding_all rfl) [(0, true, true), (1, true, true), (2, true, true), (3, true, false), (4, true, true), (5, true, false), (6, true, false), (7, true, false), (8, true, false), (9, false, false), (10, false, false), (11, false, false), (12, false, false), (13, false, false), (14, false, false), (15, false, true)] (by kernel_rfl) ?_ <;> try simp only [go_sem, hA, e7, e3, hq2]) | (with_reducible refine draw_at 0 50 (by with_unfolding_all rfl) [(0, true, true), (1, true, true), (2, true, true), (3, true, false), (4, true, true), (5, true, false), (6, true, false), (7, true, false), (8, true, false), (9, false, false), (10, false, false), (11, false, false), (12, false, false), (13, false, false), (14, false, false), (15, false, true)] (by kernel_rfl) ?_ <;> try simp only [go_sem, hA, e7, e3, hq2]) | (with_reducible refine draw_at 0 78 (by with_unfolding_all rfl) [(0, true, true), (1, true, true), (2, true, true), (3, true, false), (4, true, true), (5, true, false), (6, true, false), (7, true, false), (8, true, false), (9, true, false), (10, true, false), (11, true, false), (12, true, false), (13, true, false), (14, true, false), (15, false, false), (16, false, false), (17, false, false), (18, false, false), (19, false, false), (20, false, false), (21, false, false), (22, false, true)] (by kernel_rfl) ?_ <;> try simp only [go_sem, hA, e7, e3, hq2]) | (fail))
                  refine gc_trim 5 (by decide) (by simp only [go_sem]) (by simp only [go_sem, hw, hsn, List.map_append, List.map_cons, List.map_nil]) (hJ (j3 + 1, g3 + 1, none) _ _ (by exact hdec) (by simp only [go_sem, hA, e7, e3, hq2]) ⟨?_, ?_, ?_, ?_⟩) <;> try simp only [go_sem, hA, e7, e3, hq2, hw, hsn, List.map_append, List.map_cons, List.map_nil]
                  exact hj
                · have hjl : j3 = b.lots.length := Nat.le_antisymm hP (Nat.le_of_not_lt hj)
                  have hdl : decide ((j3 : Int) < (b.lots.length : Int)) = false := decide_eq_false (fun q => hj (Int.ofNat_lt.1 q))
                  (try simp only [go_sem, hA, e7, e3, hq2, hdl]); repeat' (first | (with_reducible refine c_split (fun hb => ?_) (fun hb => ?_) <;> try simp only [go_sem, hb, hA, e7, e3, hq2, hdl]) | (with_reducible refine w_split (fun hb => ?_) (fun hb => ?_) <;> try simp only [go_sem, hb, hA, e7, e3, hq2, hdl]) | (with_reducible refine tw_split (fun hb => ?_) (fun hb => ?_) <;> try simp only [go_sem, hb, hA, e7, e3, hq2, hdl]) | (with_reducible refine draw_at 0 22 (by with_unfolding_all rfl) [(0, true, true), (1, true, true), (2, true, true), (3, true, false), (4, true, true), (5, true, false), (6, true, false), (7, true, false), (8, true, false), (9, false, false), (10, false, false), (11, false, false), (12, false, false), (13, false, false), (14, false, false), (15, false, true)] (by kernel_rfl) ?_ <;> try simp only [go_sem, hA, e7, e3, hq2, hdl]) | (with_reducible refine draw_at 0 50 (by with_unfolding_all rfl) [(0, true, true), (1, true, true), (2, true, true), (3, true, false), (4, true, true), (5, true, false), (6, true, false), (7, true, false), (8, true, false), (9, false, false), (10, false, false), (11, false, false), (12, false, false), (13, false, false), (14, false, false), (15, false, true)] (by kernel_rfl) ?_ <;> try simp only [go_sem, hA, e7, e3, hq2, hdl]) | (with_reducible refine draw_at 0 78 (by with_unfolding_all rfl) [(0, true, true), (1, true, true), (2, true, true), (3, true, false), (4, true, true), (5, true, false), (6, true, false), (7, true, false), (8, true, false), (9, true, false), (10, true, false), (11, true, false), (12, true, false), (13, true, false), (14, true, false), (15, false, false), (16, false, false), (17, false, false), (18, false, false), (19, false, false), (20, false, false), (21, false, false), (22, false, true)] (by kernel_rfl) ?_ <;> try simp only [go_sem, hA, e7, e3, hq2, hdl]) | (fail))
                  refine ap_end rfl (List.length_map ..).symm (by exact hr _ (Nat.le_of_ble_eq_true rfl)) ?_
                  simp only [go_sem, hA, e7, e3, hq2]
                  have hp4 : preN4 b = numsK (preN3 b) lotN b.lots j3 ++ [(b.trades.length : Int)] := by rw [preN4, hjl]
                  (try simp only [go_sem, hA, e7, e3, hq2]); repeat' (first | (with_reducible refine c_split (fun hb => ?_) (fun hb => ?_) <;> try simp only [go_sem, hb, hA, e7, e3, hq2]) | (with_reducible refine w_split (fun hb => ?_) (fun hb => ?_) <;> try simp only [go_sem, hb, hA, e7, e3, hq2]) | (with_reducible refine tw_split (fun hb => ?_) (fun hb => ?_) <;> try simp only [go_sem, hb, hA, e7, e3, hq2]) | (with_reducible refine draw_at 0 22 (by with_unfolding_all rfl) [(0, true, true), (1, true, true), (2, true, true), (3, true, false), (4, true, true), (5, true, false), (6, true, false), (7, true, false), (8, true, false), (9, false, false), (10, false, false), (11, false, false), (12, false, false), (13, false, false), (14, false, false), (15, false, true)] (by kernel_rfl) ?_ <;> try simp only [go_sem, hA, e7, e3, hq2]) | (with_reducible refine draw_at 0 50 (by with_unfolding_all rfl) [(0, true, true), (1, true, true), (2, true, true), (3, true, false), (4, true, true), (5, true, false), (6, true, false), (7, true, false), (8, true, false), (9, false, false), (10, false, false), (11, false, false), (12, false, false), (13, false, false), (14, false, false), (15, false, true)] (by kernel_rfl) ?_ <;> try simp only [go_sem, hA, e7, e3, hq2]) | (with_reducible refine draw_at 0 78 (by with_unfolding_all rfl) [(0, true, true), (1, true, true), (2, true, true), (3, true, false), (4, true, true), (5, true, false), (6, true, false), (7, true, false), (8, true, false), (9, true, false), (10, true, false), (11, true, false), (12, true, false), (13, true, false), (14, true, false), (15, false, false), (16, false, false), (17, false, false), (18, false, false), (19, false, false), (20, false, false), (21, false, false), (22, false, true)] (by kernel_rfl) ?_ <;> try simp only [go_sem, hA, e7, e3, hq2]) | (fail))
                  have hq3 := hA
                  clear hJ hA hj hdl hr
                  have z4 := lens.2.2.2.2
                  refine while_at (α := Nat × Nat × Option Nat) (fun ⟨j4, g4, c4⟩ => b.trades.length - j4) [1] (fun ⟨j4, g4, c4⟩ f h => f 9 = (.one (.c (.int .i64 ((j4 : Int))))) ∧ f 3 = .one (.sl 1 g4 0 (numsK (preN4 b) trdN b.trades j4).length) ∧ h = [.own 0 40 6 (some 1) [booksC b], .own g4 3 1 c4 ((numsK (preN4 b) trdN b.trades j4).map intC), .own 0 3 1 (some 1) [[.c (.int .i64 ((b.instrs.length : Int)))]], .own 0 3 1 (some 1) [[.c (.int .i64 ((b.bals.length : Int)))]], .own 0 3 1 (some 1) [[.c (.int .i64 ((b.lots.length : Int)))]], .own 0 3 1 (some 1) [[.c (.int .i64 ((b.trades.length : Int)))]]] ∧ j4 ≤ b.trades.length) (0, g3 + 1, none) (GC.now ?_) ?_
                  · simp only [go_sem, nc_0, true_and, hq3]
                    rw [numsK_0, hp4]; exact ⟨by rw [List.length_append]; rfl, by first | (rw [List.map_append]; done) | (rw [List.map_append]; rfl), Nat.zero_le _⟩
                  · rintro ⟨j4, g4, c4⟩ f h J hA ⟨e9, e3, rfl, hP⟩ hJ
                    simp only [go_sem, hq3] at hA
                    try dsimp only at hJ
                    simp only [go_sem, hA, e9, e3, hq3]
                    try simp only [hq3] at hA
                    have hr := fun (x : List (List CV)) hx => num_room (x := x) (Nat.le_trans (z4 j4) (by decide : 2000 ≤ 100000000)) hx
                    by_cases hj : j4 < b.trades.length
                    · have hdl : decide ((j4 : Int) < (b.trades.length : Int)) = true := decide_eq_true (Int.ofNat_lt.2 hj)
                      have hg2 : b.trades[j4]? = some b.trades[j4] := List.getElem?_eq_getElem hj
                      have hil2 : (j4 : Int) < (b.trades.length : Int) := Int.ofNat_lt.2 hj
                      have hsn := numsK_s (preN4 b) trdN b.trades j4 hj
                      rw [trdN] at hsn
                      have hw : wrap64 ((j4 : Int) + 1) = ((j4 + 1 : Nat) : Int) := wrap_nat j4 (Nat.lt_of_lt_of_le hj (Nat.le_trans l4 (by decide)))
                      have hdec : b.trades.length - (j4 + 1) < b.trades.length - j4 := Nat.sub_lt_sub_left hj (Nat.lt_succ_self j4)
                      (try simp only [go_sem, hA, e9, e3, hq3, hdl, hg2, hil2]); repeat' (first | (with_reducible refine c_split (fun hb => ?_) (fun hb => ?_) <;> try simp only [go_sem, hb, hA, e9, e3, hq3, hdl, hg2, hil2]) | (with_reducible refine w_split (fun hb => ?_) (fun hb => ?_) <;> try simp only [go_sem, hb, hA, e9, e3, hq3, hdl, hg2, hil2]) | (with_reducible refine tw_split (fun hb => ?_) (fun hb => ?_) <;> try simp only [go_sem, hb, hA, e9, e3, hq3, hdl, hg2, hil2]) | (with_reducible refine draw_at 0 22 (by with_unfolding_all rfl) [(0, true, true), (1, true, true), (2, true, true), (3, true, false), (4, true, true), (5, true, false), (6, true, false), (7, true, false), (8, true, false), (9, false, false), (10, false, false), (11, false, false), (12, false, false), (13, false, false), (14, false, false), (15, false, true)] (by kernel_rfl) ?_ <;> try simp only [go_sem, hA, e9, e3, hq3, hdl, hg2, hil2]) | (with_reducible refine draw_at 0 50 (by with_unfolding_all rfl) [(0, true, true), (1, true, true), (2, true, true), (3, true, false), (4, true, true), (5, true, false), (6, true, false), (7, true, false), (8, true, false), (9, false, false), (10, false, false), (11, false, false), (12, false, false), (13, false, false), (14, false, false), (15, false, true)] (by kernel_rfl) ?_ <;> try simp only [go_sem, hA, e9, e3, hq3, hdl, hg2, hil2]) | (with_reducible refine draw_at 0 78 (by with_unfolding_all rfl) [(0, true, true), (1, true, true), (2, true, true), (3, true, false), (4, true, true), (5, true, false), (6, true, false), (7, true, false), (8, true, false), (9, true, false), (10, true, false), (11, true, false), (12, true, false), (13, true, false), (14, true, false), (15, false, false), (16, false, false), (17, false, false), (18, false, false), (19, false, false), (20, false, false), (21, false, false), (22, false, true)] (by kernel_rfl) ?_ <;> try simp only [go_sem, hA, e9, e3, hq3, hdl, hg2, hil2]) | (fail))
                      refine ap_end rfl (List.length_map ..).symm (by exact hr _ (Nat.le_of_ble_eq_true rfl)) ?_
                      simp only [go_sem, hA, e9, e3, hq3]
                      (try simp only [go_sem, hA, e9, e3, hq3]); repeat' (first | (with_reducible refine c_split (fun hb => ?_) (fun hb => ?_) <;> try simp only [go_sem, hb, hA, e9, e3, hq3]) | (with_reducible refine w_split (fun hb => ?_) (fun hb => ?_) <;> try simp only [go_sem, hb, hA, e9, e3, hq3]) | (with_reducible refine tw_split (fun hb => ?_) (fun hb => ?_) <;> try simp only [go_sem, hb, hA, e9, e3, hq3]) | (with_reducible refine draw_at 0 22 (by with_unfolding_all rfl) [(0, true, true), (1, true, true), (2, true, true), (3, true, false), (4, true, true), (5, true, false), (6, true, false), (7, true, false), (8, true, false), (9, false, false), (10, false, false), (11, false, false), (12, false, false), (13, false, false), (14, false, false), (15, false, true)] (by kernel_rfl) ?_ <;> try simp only [go_sem, hA, e9, e3, hq3]) | (with_reducible refine draw_at 0 50 (by with_unfolding_all rfl) [(0, true, true), (1, true, true), (2, true, true), (3, true, false), (4, true, true), (5, true, false), (6, true, false), (7, true, false), (8, true, false), (9, false, false), (10, false, false), (11, false, false), (12, false, false), (13, false, false), (14, false, false), (15, false, true)] (by kernel_rfl) ?_ <;> try simp only [go_sem, hA, e9, e3, hq3]) | (with_reducible refine draw_at 0 78 (by with_unfolding_all rfl) [(0, true, true), (1, true, true), (2, true, true), (3, true, false), (4, true, true), (5, true, false), (6, true, false), (7, true, false), (8, true, false), (9, true, false), (10, true, false), (11, true, false), (12, true, false), (13, true, false), (14, true, false), (15, false, false), (16, false, false), (17, false, false), (18, false, false), (19, false, false), (20, false, false), (21, false, false), (22, false, true)] (by kernel_rfl) ?_ <;> try simp only [go_sem, hA, e9, e3, hq3]) | (fail))
                      refine gc_trim 6 (by decide) (by simp only [go_sem]) (by simp only [go_sem, hw, hsn, List.map_append, List.map_cons, List.map_nil]) (hJ (j4 + 1, g4 + 1, none) _ _ (by exact hdec) (by simp only [go_sem, hA, e9, e3, hq3]) ⟨?_, ?_, ?_, ?_⟩) <;> try simp only [go_sem, hA, e9, e3, hq3, hw, hsn, List.map_append, List.map_cons, List.map_nil]
                      exact hj
                    · have hjl : j4 = b.trades.length := Nat.le_antisymm hP (Nat.le_of_not_lt hj)
                      have hdl : decide ((j4 : Int) < (b.trades.length : Int)) = false := decide_eq_false (fun q => hj (Int.ofNat_lt.1 q))
                      (try simp only [go_sem, hA, e9, e3, hq3, hdl]); repeat' (first | (with_reducible refine c_split (fun hb => ?_) (fun hb => ?_) <;> try simp only [go_sem, hb, hA, e9, e3, hq3, hdl]) | (with_reducible refine w_split (fun hb => ?_) (fun hb => ?_) <;> try simp only [go_sem, hb, hA, e9, e3, hq3, hdl]) | (with_reducible refine tw_split (fun hb => ?_) (fun hb => ?_) <;> try simp only [go_sem, hb, hA, e9, e3, hq3, hdl]) | (with_reducible refine draw_at 0 22 (by with_unfolding_all rfl) [(0, true, true), (1, true, true), (2, true, true), (3, true, false), (4, true, true), (5, true, false), (6, true, false), (7, true, false), (8, true, false), (9, false, false), (10, false, false), (11, false, false), (12, false, false), (13, false, false), (14, false, false), (15, false, true)] (by kernel_rfl) ?_ <;> try simp only [go_sem, hA, e9, e3, hq3, hdl]) | (with_reducible refine draw_at 0 50 (by with_unfolding_all rfl) [(0, true, true), (1, true, true), (2, true, true), (3, true, false), (4, true, true), (5, true, false), (6, true, false), (7, true, false), (8, true, false), (9, false, false), (10, false, false), (11, false, false), (12, false, false), (13, false, false), (14, false, false), (15, false, true)] (by kernel_rfl) ?_ <;> try simp only [go_sem, hA, e9, e3, hq3, hdl]) | (with_reducible refine draw_at 0 78 (by with_unfolding_all rfl) [(0, true, true), (1, true, true), (2, true, true), (3, true, false), (4, true, true), (5, true, false), (6, true, false), (7, true, false), (8, true, false), (9, true, false), (10, true, false), (11, true, false), (12, true, false), (13, true, false), (14, true, false), (15, false, false), (16, false, false), (17, false, false), (18, false, false), (19, false, false), (20, false, false), (21, false, false), (22, false, true)] (by kernel_rfl) ?_ <;> try simp only [go_sem, hA, e9, e3, hq3, hdl]) | (fail))
                      refine ap_end rfl (List.length_map ..).symm (by exact hr _ (Nat.le_of_ble_eq_true rfl)) ?_
                      simp only [go_sem, hA, e9, e3, hq3]
                      have hp5 : booksN b = numsK (preN4 b) trdN b.trades j4 ++ [b.lot] := by rw [booksN, hjl]
                      rw [hp5] at hk
                      have htk : ∀ x : Int, List.take ((numsK (preN4 b) trdN b.trades j4).length + 1) (List.map intC (numsK (preN4 b) trdN b.trades j4 ++ [x])) = List.map intC (numsK (preN4 b) trdN b.trades j4 ++ [x]) := fun x => List.take_of_length_le (by simp)
                      (try simp only [go_sem, hA, e9, e3, hq3, htk]); repeat' (first | (with_reducible refine c_split (fun hb => ?_) (fun hb => ?_) <;> try simp only [go_sem, hb, hA, e9, e3, hq3, htk]) | (with_reducible refine w_split (fun hb => ?_) (fun hb => ?_) <;> try simp only [go_sem, hb, hA, e9, e3, hq3, htk]) | (with_reducible refine tw_split (fun hb => ?_) (fun hb => ?_) <;> try simp only [go_sem, hb, hA, e9, e3, hq3, htk]) | (with_reducible refine draw_at 0 22 (by with_unfolding_all rfl) [(0, true, true), (1, true, true), (2, true, true), (3, true, false), (4, true, true), (5, true, false), (6, true, false), (7, true, false), (8, true, false), (9, false, false), (10, false, false), (11, false, false), (12, false, false), (13, false, false), (14, false, false), (15, false, true)] (by kernel_rfl) ?_ <;> try simp only [go_sem, hA, e9, e3, hq3, htk]) | (with_reducible refine draw_at 0 50 (by with_unfolding_all rfl) [(0, true, true), (1, true, true), (2, true, true), (3, true, false), (4, true, true), (5, true, false), (6, true, false), (7, true, false), (8, true, false), (9, false, false), (10, false, false), (11, false, false), (12, false, false), (13, false, false), (14, false, false), (15, false, true)] (by kernel_rfl) ?_ <;> try simp only [go_sem, hA, e9, e3, hq3, htk]) | (with_reducible refine draw_at 0 78 (by with_unfolding_all rfl) [(0, true, true), (1, true, true), (2, true, true), (3, true, false), (4, true, true), (5, true, false), (6, true, false), (7, true, false), (8, true, false), (9, true, false), (10, true, false), (11, true, false), (12, true, false), (13, true, false), (14, true, false), (15, false, false), (16, false, false), (17, false, false), (18, false, false), (19, false, false), (20, false, false), (21, false, false), (22, false, true)] (by kernel_rfl) ?_ <;> try simp only [go_sem, hA, e9, e3, hq3, htk]) | (with_reducible refine hQ _ _ ?_ <;> simp only [Tryz.f45, go_sem, hA, e9, e3, hq3, htk]))
                      exact hk
def putNums (ns : List Int) : List UInt8 := if ns.any (fun n => decide (n < 0)) = true then [] else ns.flatMap putNum
theorem any_find {p : Int → Bool} (ns : List Int) : decide (0 ≤ findG p ns) = ns.any p := by
  rcases findO_cases p ns with ⟨k, hk, e1, e2⟩ | ⟨e1, e2⟩
  · rw [e1, decide_eq_true (Int.natCast_nonneg k)]
    exact (List.any_eq_true.2 ⟨_, List.getElem_mem hk, List.find?_some e2⟩).symm
  · rw [e1]
    have := List.find?_eq_none.1 e2
    symm
    rw [show decide ((0 : Int) ≤ -1) = false from rfl, List.any_eq_false]
    exact this
theorem c_IndexFuncInt (fs : List Int) (g : Nat) (caps : List Nat) (p : Int → Bool) (h0 : AH) (K : AV → AH → Prop) (hn : fs.length ≤ 1000000000)
    (hp : ∀ i (hi : i < fs.length) (K' : AV → AH → Prop), K' (.one (.c (.bool (p fs[i])))) h0 → callA Tryz.prog g ([(.one (.c (.int .i64 (fs[i]))))] ++ caps.map fun l => .one (.pt l 0 0 0)) h0 K')
    (hk : K (.one (.c (.int .i64 (findG p fs)))) h0) : ACalls Tryz.prog 132 [(.one (.im (fs.map intC))), .one (.clo g caps)] h0 K := by
  refine acall_m Tryz.f132.results.toList mixed Tryz.func132 rfl rfl (by kernel_rfl) ?_
  intro hwf Q hQ
  simp only [go_sem, ca_clos]
  refine for_at (fs.length) [0, 1, 7] (fun i f h => f 8 = (.one (.c (.int .i64 (i)))) ∧ f 7 = (.one (.c (.int .i64 (fs.length)))) ∧ h = h0 ∧ noneTo p fs i) (GC.now ?_) ?_
  · simp only [go_sem, nc_0, true_and, ca_clos]
    exact noneTo_0 p fs
  · rintro i f h J hi hA ⟨e8, e7, rfl, hP⟩ hJ
    simp only [go_sem, ca_clos] at hA
    simp only [go_sem, hA, e8, e7, ca_clos]
    refine c_split (fun hb => ?_) (fun hb => ?_)
    rotate_left
    · simp only [go_sem, hb, hA, e8, e7, ca_clos]
      obtain rfl := ge_len hb hi
      refine hQ (h) _ _ ?_; refine GC.now (ret_m (by simp only [go_sem, Tryz.f132, hA, e8, e7, ca_clos]; exact _root_.id rfl) (by simp only [go_sem]) (by simp) (by first | exact hwf | exact wf_set hwf (by simp only [go_sem, hA, e8, e7, ca_clos]) | exact wf_set2 hwf (by simp only [go_sem, hA, e8, e7, ca_clos]) (by simp only [go_sem, hA, e8, e7, ca_clos]) | (simp only [go_sem]; done)) (by first | exact ⟨_, _root_.id rfl⟩ | exact ⟨[], (List.append_nil _).symm⟩) ?_) <;> simp only [go_sem, hA, e8, e7, ca_clos]
      rw [findG_no hP] at hk
      exact hk
    have hi := lt_len hb
    have hw := wrap_nat i (by omega)
    have hil : (i : Int) < ((fs.length : Nat) : Int) := Int.ofNat_lt.2 hi
    have hg0 : (fs)[i]? = some ((fs)[i]) := List.getElem?_eq_getElem (by omega)
    simp only [go_sem, hb, hA, e8, e7, ca_clos, hg0]
    try simp only [go_sem, hA, e8, e7, ca_clos, hil, hg0]
    refine hp i hi _ ?_
    simp only [go_sem, hA, e8, e7, ca_clos, hil, hg0]
    (try simp only [go_sem, hA, e8, e7, ca_clos, hil, hg0]); repeat' (first | (with_reducible refine c_split (fun hb => ?_) (fun hb => ?_) <;> try simp only [go_sem, hb, hA, e8, e7, ca_clos, hil, hg0]) | (with_reducible refine w_split (fun hb => ?_) (fun hb => ?_) <;> try simp only [go_sem, hb, hA, e8, e7, ca_clos, hil, hg0]) | (fail))
    · refine hQ (h) _ _ ?_; refine GC.now (ret_m (by simp only [go_sem, Tryz.f132, hA, e8, e7, ca_clos, hil, hg0]; exact _root_.id rfl) (by simp only [go_sem]) (by simp) (by first | exact hwf | exact wf_set hwf (by simp only [go_sem, hA, e8, e7, ca_clos, hil, hg0]) | exact wf_set2 hwf (by simp only [go_sem, hA, e8, e7, ca_clos, hil, hg0]) (by simp only [go_sem, hA, e8, e7, ca_clos, hil, hg0]) | (simp only [go_sem]; done)) (by first | exact ⟨_, _root_.id rfl⟩ | exact ⟨[], (List.append_nil _).symm⟩) ?_) <;> simp only [go_sem, hA, e8, e7, ca_clos, hil, hg0]
      rw [findG_of hP hi hb] at hk
      exact hk
    · refine GC.now (hJ _ _ hi (by simp only [go_sem, hA, e8, e7, ca_clos]) ⟨?_, ?_, ?_, ?_⟩) <;> try simp only [go_sem, hA, e8, e7, ca_clos, hw]
      exact noneTo_s hP hi hb
theorem c_impl_PutNums1 (n : Int) (K : AV → AH → Prop) (hk : K (.one (.c (.bool (decide (n < 0))))) []) : ACalls Tryz.prog 96 [(.one (.c (.int .i64 (n))))] [] K := by
  refine acall_c Tryz.f96.results.toList mixed Tryz.func96 rfl rfl (by kernel_rfl) ?_
  intro Q hQ hQO
  simp only [go_sem]
  (try simp only [go_sem]); repeat' (first | (with_reducible refine c_split (fun hb => ?_) (fun hb => ?_) <;> try simp only [go_sem, hb]) | (with_reducible refine w_split (fun hb => ?_) (fun hb => ?_) <;> try simp only [go_sem, hb]) | (with_reducible refine hQ _ _ ?_ <;> simp only [Tryz.f96, go_sem]))
  exact hk
theorem calK_b (args : List AV) (K : AV → AH → Prop) (b : Bool) (hk : K (.one (.c (.bool (b)))) []) : calK args [] K (.one (.c (.bool (b)))) [] := by
  unfold calK
  rw [if_pos ⟨rfl, rfl⟩]
  exact hk
theorem c_ContainsInt (xs : List Int) (g : Nat) (p : Int → Bool) (K : AV → AH → Prop) (hn : xs.length ≤ 1000000000)
    (hp : ∀ i (hi : i < xs.length) (K' : AV → AH → Prop), K' (.one (.c (.bool (p xs[i])))) [] → ACalls Tryz.prog g [(.one (.c (.int .i64 (xs[i]))))] [] K')
    (hk : K (.one (.c (.bool (decide (0 ≤ findG p xs))))) []) : ACalls Tryz.prog 95 [(.one (.im (xs.map intC))), .one (.clo g [])] [] K := by
  refine acall_c Tryz.f95.results.toList mixed Tryz.func95 rfl rfl (by kernel_rfl) ?_
  intro Q hQ hQO
  simp only [go_sem]
  (try simp only [go_sem]); repeat' (first | (with_reducible refine c_split (fun hb => ?_) (fun hb => ?_) <;> try simp only [go_sem, hb]) | (with_reducible refine w_split (fun hb => ?_) (fun hb => ?_) <;> try simp only [go_sem, hb]) | (refine call_c (c_IndexFuncInt xs g [] p [] _ hn (fun i hi K' hk' => .inr (.inr (.inr (.inl ⟨rfl, hp i hi _ (calK_b _ _ _ hk')⟩)))) ?_) <;> try simp only [go_sem]) | (with_reducible refine hQ _ _ ?_ <;> simp only [Tryz.f95, go_sem]))
  exact hk
theorem putN_le10 {n : Int} (h : n < 9223372036854775808) : (putNum n).length ≤ 10 := by
  by_cases hn : n < 0
  · rw [putNum, if_pos hn]; exact Nat.zero_le _
  · obtain ⟨m, rfl⟩ : ∃ m : Nat, n = m := ⟨n.toNat, by omega⟩
    exact putNum_le m (by omega)
def putTo (ns : List Int) (j : Nat) : List UInt8 := (ns.take j).flatMap putNum
theorem putTo_s (ns : List Int) (j : Nat) (hj : j < ns.length) : putTo ns (j + 1) = putTo ns j ++ putNum ns[j] := by
  rw [putTo, List.take_succ_eq_append_getElem hj, List.flatMap_append, putTo]; simp
theorem putTo_len {ns : List Int} (hb : ∀ n ∈ ns, n < 9223372036854775808) : ∀ j, j ≤ ns.length → (putTo ns j).length ≤ 10 * j
  | 0, _ => by simp [putTo]
  | j + 1, hj => by
    have ih := putTo_len hb j (by omega)
    have := putN_le10 (hb _ (List.getElem_mem (show j < ns.length by omega)))
    rw [putTo_s ns j (by omega), List.length_append]; omega
theorem put_room {bs ds : List UInt8} {j : Nat} (h : bs.length ≤ 10 * j) (hj : j ≤ 1000000) (h2 : ds.length ≤ 10) : ((bs.map byteC).length + (ds.map byteC).length) * 1 ≤ 140737488355328 := by rw [List.length_map, List.length_map]; omega
theorem put_all (ns : List Int) (h : ns.any (fun n => decide (n < 0)) = false) : putNums ns = putTo ns ns.length := by rw [putNums, h, if_neg (by decide), putTo, List.take_length]
theorem c_spec_PutNum_im (x : Int) (hx : x < 9223372036854775808) (K : AV → AH → Prop) (hk : K (.one (.im ((putNum x).map byteC))) []) : ACalls Tryz.prog 19 [(.one (.c (.int .i64 (x))))] [] K := acall_im (c_spec_PutNum x hx _ (im_row _ hk))
theorem c_impl_PutNums (ns : List Int) (hn : ns.length ≤ 1000000) (hb : ∀ n ∈ ns, n < 9223372036854775808) (K : AV → AH → Prop) (hk : K (.one (.im ((putNums ns).map byteC))) []) : ACalls Tryz.prog 52 [(.one (.im (ns.map intC)))] [] K := by
  have hn9 : ns.length ≤ 1000000000 := Nat.le_trans hn (by decide)
  refine acall_c Tryz.f52.results.toList mixed Tryz.func52 rfl rfl (by kernel_rfl) ?_
  intro Q hQ hQO
  simp only [go_sem]
  cases hc : ns.any (fun n => decide (n < 0)) with
  | true =>
    rw [putNums, hc, if_pos rfl] at hk
    (try simp only [go_sem, any_find, hc]); repeat' (first | (with_reducible refine c_split (fun hb => ?_) (fun hb => ?_) <;> try simp only [go_sem, hb, any_find, hc]) | (with_reducible refine w_split (fun hb => ?_) (fun hb => ?_) <;> try simp only [go_sem, hb, any_find, hc]) | (refine call_c (c_ContainsInt ns _ (fun n => decide (n < 0)) _ hn9 (fun i _ K' hk' => c_impl_PutNums1 ns[i] _ hk') ?_) <;> try simp only [go_sem, any_find, hc]) | (with_reducible refine hQ _ _ ?_ <;> simp only [Tryz.f52, go_sem, any_find, hc]))
    exact hk
  | false =>
    rw [put_all ns hc] at hk
    (try simp only [go_sem, any_find, hc]); repeat' (first | (with_reducible refine c_split (fun hb => ?_) (fun hb => ?_) <;> try simp only [go_sem, hb, any_find, hc]) | (with_reducible refine w_split (fun hb => ?_) (fun hb => ?_) <;> try simp only [go_sem, hb, any_find, hc]) | (refine call_c (c_ContainsInt ns _ (fun n => decide (n < 0)) _ hn9 (fun i _ K' hk' => c_impl_PutNums1 ns[i] _ hk') ?_) <;> try simp only [go_sem, any_find, hc]) | (fail))
    refine while_at (α := Nat × Nat × Option Nat) (fun ⟨j, g, cap⟩ => ns.length - j) [9, 10] (fun ⟨j, g, cap⟩ f h => f 11 = (.one (.c (.int .i64 ((j : Int))))) ∧ f 3 = .one (.sl 0 g 0 (putTo ns j).length) ∧ h = [.own g 5 1 cap ((putTo ns j).map byteC)] ∧ j ≤ ns.length) (0, 0, some 0) (GC.now ?_) ?_
    · simp only [go_sem, nc_0, true_and]
      exact ⟨rfl, rfl, Nat.zero_le _⟩
    · rintro ⟨j, g, cap⟩ f h J hA ⟨e11, e3, rfl, hP⟩ hJ
      simp only [go_sem] at hA
      try dsimp only at hJ
      simp only [go_sem, hA, e11, e3]
      by_cases hj : j < ns.length
      · have hdl : decide ((j : Int) < (ns.length : Int)) = true := decide_eq_true (Int.ofNat_lt.2 hj)
        have hg2 : ns[j]? = some ns[j] := List.getElem?_eq_getElem hj
        have hil2 : (j : Int) < (ns.length : Int) := Int.ofNat_lt.2 hj
        have hsn := putTo_s ns j hj
        have hw : wrap64 ((j : Int) + 1) = ((j + 1 : Nat) : Int) := wrap_nat j (Nat.lt_of_lt_of_le hj (Nat.le_trans hn (by decide)))
        have hdec : ns.length - (j + 1) < ns.length - j := Nat.sub_lt_sub_left hj (Nat.lt_succ_self j)
        have hx := hb _ (List.getElem_mem hj)
        have hr := put_room (putTo_len hb j hP) (Nat.le_trans hP hn) (putN_le10 hx)
        (try simp only [go_sem, hA, e11, e3, hdl, hg2, hil2]); repeat' (first | (with_reducible refine c_split (fun hb => ?_) (fun hb => ?_) <;> try simp only [go_sem, hb, hA, e11, e3, hdl, hg2, hil2]) | (with_reducible refine w_split (fun hb => ?_) (fun hb => ?_) <;> try simp only [go_sem, hb, hA, e11, e3, hdl, hg2, hil2]) | (refine call_c (c_impl_PutNum_im _ hx _ ?_) <;> try simp only [go_sem, hA, e11, e3, hdl, hg2, hil2]) | (fail))
        refine ap_end rfl (List.length_map ..).symm hr ?_
        simp only [go_sem, hA, e11, e3]
        (try simp only [go_sem, hA, e11, e3]); repeat' (first | (with_reducible refine c_split (fun hb => ?_) (fun hb => ?_) <;> try simp only [go_sem, hb, hA, e11, e3]) | (with_reducible refine w_split (fun hb => ?_) (fun hb => ?_) <;> try simp only [go_sem, hb, hA, e11, e3]) | (fail))
        refine gc_trim 1 (by decide) (by simp only [go_sem]) (by simp only [go_sem, hw, hsn, List.map_append, List.length_append]) (hJ (j + 1, g + 1, none) _ _ (by exact hdec) (by simp only [go_sem, hA, e11, e3]) ⟨?_, ?_, ?_, ?_⟩) <;> try simp only [go_sem, hA, e11, e3, hw, hsn, List.map_append, List.length_append]
        exact hj
      · have hjl : j = ns.length := Nat.le_antisymm hP (Nat.le_of_not_lt hj)
        have hdl : decide ((j : Int) < (ns.length : Int)) = false := decide_eq_false (fun q => hj (Int.ofNat_lt.1 q))
        rw [← hjl] at hk
        (try simp only [go_sem, hA, e11, e3, hdl]); repeat' (first | (with_reducible refine c_split (fun hb => ?_) (fun hb => ?_) <;> try simp only [go_sem, hb, hA, e11, e3, hdl]) | (with_reducible refine w_split (fun hb => ?_) (fun hb => ?_) <;> try simp only [go_sem, hb, hA, e11, e3, hdl]) | (with_reducible refine hQ _ _ ?_ <;> simp only [Tryz.f52, go_sem, hA, e11, e3, hdl]))
        exact hk
theorem c_spec_PutNums (ns : List Int) (hn : ns.length ≤ 1000000) (hb : ∀ n ∈ ns, n < 9223372036854775808) (K : AV → AH → Prop) (hk : K (.one (.im ((putNums ns).map byteC))) []) : ACalls Tryz.prog 44 [(.one (.im (ns.map intC)))] [] K := by
  refine acall_c Tryz.f44.results.toList mixed Tryz.func44 rfl rfl (by kernel_rfl) ?_
  intro Q hQ hQO
  simp only [go_sem]
  (try simp only [go_sem]); repeat' (first | (with_reducible refine c_split (fun hb => ?_) (fun hb => ?_) <;> try simp only [go_sem, hb]) | (with_reducible refine w_split (fun hb => ?_) (fun hb => ?_) <;> try simp only [go_sem, hb]) | (fail))
  refine while_at (α := Nat × Nat × Option Nat) (fun ⟨j, g, cap⟩ => ns.length - j) [0] (fun ⟨j, g, cap⟩ f h => f 4 = (.one (.c (.int .i64 ((j : Int))))) ∧ f 3 = .one (.sl 0 g 0 (putTo ns j).length) ∧ h = [.own g 5 1 cap ((putTo ns j).map byteC)] ∧ j ≤ ns.length ∧ noneTo (fun n => decide (n < 0)) ns j) (0, 0, some 0) (GC.now ?_) ?_
  · simp only [go_sem, nc_0, true_and]
    exact ⟨rfl, rfl, Nat.zero_le _, noneTo_0 _ _⟩
  · rintro ⟨j, g, cap⟩ f h J hA ⟨e4, e3, rfl, hP⟩ hJ
    simp only [go_sem] at hA
    try dsimp only at hJ
    simp only [go_sem, hA, e4, e3]
    obtain ⟨hP1, hP2⟩ := hP
    by_cases hj : j < ns.length
    · have hdl : decide ((j : Int) < (ns.length : Int)) = true := decide_eq_true (Int.ofNat_lt.2 hj)
      have hg2 : ns[j]? = some ns[j] := List.getElem?_eq_getElem hj
      have hil2 : (j : Int) < (ns.length : Int) := Int.ofNat_lt.2 hj
      have hsn := putTo_s ns j hj
      have hw : wrap64 ((j : Int) + 1) = ((j + 1 : Nat) : Int) := wrap_nat j (Nat.lt_of_lt_of_le hj (Nat.le_trans hn (by decide)))
      have hdec : ns.length - (j + 1) < ns.length - j := Nat.sub_lt_sub_left hj (Nat.lt_succ_self j)
      have hx := hb _ (List.getElem_mem hj)
      have hr := put_room (putTo_len hb j hP1) (Nat.le_trans hP1 hn) (putN_le10 hx)
      cases hc : decide (ns[j] < 0) with
      | true =>
        have hany : ns.any (fun n => decide (n < 0)) = true := List.any_eq_true.2 ⟨_, List.getElem_mem hj, hc⟩
        rw [putNums, if_pos hany] at hk
        (try simp only [go_sem, hA, e4, e3, hdl, hg2, hil2, hc]); repeat' (first | (with_reducible refine c_split (fun hb => ?_) (fun hb => ?_) <;> try simp only [go_sem, hb, hA, e4, e3, hdl, hg2, hil2, hc]) | (with_reducible refine w_split (fun hb => ?_) (fun hb => ?_) <;> try simp only [go_sem, hb, hA, e4, e3, hdl, hg2, hil2, hc]) | (with_reducible refine hQ _ _ ?_ <;> simp only [Tryz.f44, go_sem, hA, e4, e3, hdl, hg2, hil2, hc]))
        exact hk
      | false =>
        (try simp only [go_sem, hA, e4, e3, hdl, hg2, hil2, hc]); repeat' (first | (with_reducible refine c_split (fun hb => ?_) (fun hb => ?_) <;> try simp only [go_sem, hb, hA, e4, e3, hdl, hg2, hil2, hc]) | (with_reducible refine w_split (fun hb => ?_) (fun hb => ?_) <;> try simp only [go_sem, hb, hA, e4, e3, hdl, hg2, hil2, hc]) | (refine call_c (c_spec_PutNum_im _ hx _ ?_) <;> try simp only [go_sem, hA, e4, e3, hdl, hg2, hil2, hc]) | (fail))
        refine ap_end rfl (List.length_map ..).symm hr ?_
        simp only [go_sem, hA, e4, e3]
        (try simp only [go_sem, hA, e4, e3]); repeat' (first | (with_reducible refine c_split (fun hb => ?_) (fun hb => ?_) <;> try simp only [go_sem, hb, hA, e4, e3]) | (with_reducible refine w_split (fun hb => ?_) (fun hb => ?_) <;> try simp only [go_sem, hb, hA, e4, e3]) | (fail))
        refine gc_trim 1 (by decide) (by simp only [go_sem]) (by simp only [go_sem, hw, hsn, List.map_append, List.length_append]) (hJ (j + 1, g + 1, none) _ _ (by exact hdec) (by simp only [go_sem, hA, e4, e3]) ⟨?_, ?_, ?_, ?_⟩) <;> try simp only [go_sem, hA, e4, e3, hw, hsn, List.map_append, List.length_append]
        exact ⟨hj, noneTo_s hP2 hj hc⟩
    · have hjl : j = ns.length := Nat.le_antisymm hP1 (Nat.le_of_not_lt hj)
      have hdl : decide ((j : Int) < (ns.length : Int)) = false := decide_eq_false (fun q => hj (Int.ofNat_lt.1 q))
      subst hjl
      have hany : ns.any (fun n => decide (n < 0)) = false := List.any_eq_false.2 fun x hx => by
        obtain ⟨i, hi, rfl⟩ := List.mem_iff_getElem.1 hx
        have := hP2 i hi hi
        simpa using this
      rw [put_all ns hany] at hk
      (try simp only [go_sem, hA, e4, e3, hdl]); repeat' (first | (with_reducible refine c_split (fun hb => ?_) (fun hb => ?_) <;> try simp only [go_sem, hb, hA, e4, e3, hdl]) | (with_reducible refine w_split (fun hb => ?_) (fun hb => ?_) <;> try simp only [go_sem, hb, hA, e4, e3, hdl]) | (with_reducible refine hQ _ _ ?_ <;> simp only [Tryz.f44, go_sem, hA, e4, e3, hdl]))
      exact hk
theorem numsK_mem {α : Type} {pre : List Int} {f : α → List Int} {xs : List α} {j : Nat} {n : Int} (h : n ∈ numsK pre f xs j) : n ∈ pre ∨ ∃ x ∈ xs, n ∈ f x := by
  rw [numsK, List.mem_append, List.mem_flatMap] at h
  rcases h with h | ⟨x, hx, h⟩
  · exact .inl h
  · exact .inr ⟨x, List.mem_of_mem_take hx, h⟩
theorem wrap_lt (a : Int) : wrap64 a < 9223372036854775808 := by unfold wrap64; omega
theorem books_lt {b : Books} (h : booksOk b = true) : ∀ n ∈ booksN b, n < 9223372036854775808 := by
  obtain ⟨p1, p2, p3, p4, p5⟩ := booksOk_parts h
  have q1 := okL_len p1
  have q2 := okL_len p2
  have q3 := (balsOk_amt p3).2
  rw [lotsOk, Bool.and_eq_true] at p4
  have q4 := okL_len p4.1
  have q5 := okL_len p5
  have p6 : 0 ≤ b.lot ∧ b.lot ≤ 1000000000 := by
    simp only [booksOk, listsOk, Bool.and_eq_true] at h
    exact of_decide_eq_true h.1.1.1.2
  intro n hn
  rw [booksN, List.mem_append] at hn
  rcases hn with hn | hn
  · rcases numsK_mem hn with hn | ⟨x, hx, hn⟩
    · rw [preN4, List.mem_append] at hn
      rcases hn with hn | hn
      · rcases numsK_mem hn with hn | ⟨x, hx, hn⟩
        · rw [preN3, List.mem_append] at hn
          rcases hn with hn | hn
          · rcases numsK_mem hn with hn | ⟨x, hx, hn⟩
            · rw [preN2, List.mem_append] at hn
              rcases hn with hn | hn
              · rcases numsK_mem hn with hn | ⟨x, hx, hn⟩
                · rw [preN1, List.mem_append] at hn
                  rcases hn with hn | hn
                  · rcases numsK_mem hn with hn | ⟨x, hx, hn⟩
                    · simp only [preN0, List.mem_singleton] at hn; omega
                    · have q := okL_p p1 hx
                      simp only [accP, noOk, Bool.and_eq_true, decide_eq_true_eq] at q
                      simp only [accN, List.mem_cons, List.not_mem_nil, or_false] at hn
                      omega
                  · simp only [List.mem_singleton] at hn; omega
                · have q := okL_p p2 hx
                  simp only [insP, noOk, Bool.and_eq_true, decide_eq_true_eq] at q
                  simp only [accN, List.mem_cons, List.not_mem_nil, or_false] at hn
                  omega
              · simp only [List.mem_singleton] at hn; omega
            · have q := okL_p p3 hx
              have hw := wrap_lt (x.amount + 1000000000000000)
              simp only [balP, noOk, Bool.and_eq_true, decide_eq_true_eq] at q
              simp only [balN, List.mem_cons, List.not_mem_nil, or_false] at hn
              omega
          · simp only [List.mem_singleton] at hn; omega
        · have q := okL_p p4.1 hx
          simp only [lotP, noOk, Bool.and_eq_true, decide_eq_true_eq] at q
          simp only [lotN, List.mem_cons, List.not_mem_nil, or_false] at hn
          omega
      · simp only [List.mem_singleton] at hn; omega
    · have q := okL_p p5 hx
      simp only [trP, noOk, Bool.and_eq_true, decide_eq_true_eq] at q
      simp only [trdN, List.mem_cons, List.not_mem_nil, or_false] at hn
      omega
  · simp only [List.mem_singleton] at hn; omega
def packS (b : Books) : List UInt8 := putNums (booksN b)
theorem packS_len {b : Books} (h : booksOk b = true) : (packS b).length ≤ 20000 := by
  unfold packS putNums
  split
  · exact Nat.zero_le _
  · have h1 := putTo_len (books_lt h) (booksN b).length (Nat.le_refl _)
    have h2 := (pre_len h).2.2.2.2.2.1
    rw [putTo, List.take_length] at h1
    omega
theorem c_spec_BooksPack (b : Books) (hs : Small b) (K : AV → AH → Prop) (hk : K (.tup [(.one (.im ((if booksOk b = true then packS b else []).map byteC))), (.one (.c (.bool (booksOk b))))]) []) : ACalls Tryz.prog 16 [.agg (booksC b)] [] K := by
  refine acall_c Tryz.f16.results.toList mixed Tryz.func16 rfl rfl (by kernel_rfl) ?_
  intro Q hQ hQO
  simp only [go_sem]
  cases hok : booksOk b with
  | false =>
    rw [hok, if_neg (by decide)] at hk
    (try simp only [go_sem, hok]); repeat' (first | (with_reducible refine c_split (fun hb => ?_) (fun hb => ?_) <;> try simp only [go_sem, hb, hok]) | (with_reducible refine w_split (fun hb => ?_) (fun hb => ?_) <;> try simp only [go_sem, hb, hok]) | (refine call_c (c_BooksOk b hs _ ?_) <;> try simp only [go_sem, hok]) | (with_reducible refine hQ _ _ ?_ <;> simp only [Tryz.f16, go_sem, hok]))
    exact hk
  | true =>
    rw [hok, if_pos rfl] at hk
    (try simp only [go_sem, hok]); repeat' (first | (with_reducible refine c_split (fun hb => ?_) (fun hb => ?_) <;> try simp only [go_sem, hb, hok]) | (with_reducible refine w_split (fun hb => ?_) (fun hb => ?_) <;> try simp only [go_sem, hb, hok]) | (refine call_c (c_BooksOk b hs _ ?_) <;> try simp only [go_sem, hok]) | (refine call_c (c_l13Nums b hs hok _ ?_) <;> try simp only [go_sem, hok]) | (refine call_c (c_spec_PutNums (booksN b) (Nat.le_trans (pre_len hok).2.2.2.2.2.1 (by decide)) (books_lt hok) _ ?_) <;> try simp only [go_sem, hok]) | (with_reducible refine hQ _ _ ?_ <;> simp only [Tryz.f16, go_sem, hok]))
    exact hk
theorem c_impl_BooksPack (b : Books) (hs : Small b) (K : AV → AH → Prop) (hk : K (.tup [(.one (.im ((if booksOk b = true then packS b else []).map byteC))), (.one (.c (.bool (booksOk b))))]) []) : ACalls Tryz.prog 21 [.agg (booksC b)] [] K := by
  refine acall_c Tryz.f21.results.toList mixed Tryz.func21 rfl rfl (by kernel_rfl) ?_
  intro Q hQ hQO
  simp only [go_sem]
  cases hok : booksOk b with
  | false =>
    rw [hok, if_neg (by decide)] at hk
    (try simp only [go_sem, hok]); repeat' (first | (with_reducible refine c_split (fun hb => ?_) (fun hb => ?_) <;> try simp only [go_sem, hb, hok]) | (with_reducible refine w_split (fun hb => ?_) (fun hb => ?_) <;> try simp only [go_sem, hb, hok]) | (refine call_c (c_impl_BooksOk b hs _ ?_) <;> try simp only [go_sem, hok]) | (with_reducible refine hQ _ _ ?_ <;> simp only [Tryz.f21, go_sem, hok]))
    exact hk
  | true =>
    rw [hok, if_pos rfl, packS] at hk
    have cP := fun K' hk' => c_impl_PutNums (booksN b) (Nat.le_trans (pre_len hok).2.2.2.2.2.1 (by decide)) (books_lt hok) K' hk'
    have lens := (pre_len hok).2.2.2.2.2.2
    have l0 : b.accounts.length ≤ 1000000000 := hs.ha
    have l1 : b.instrs.length ≤ 1000000000 := hs.hi
    have l2 : b.bals.length ≤ 1000000000 := hs.hb
    have l3 : b.lots.length ≤ 1000000000 := hs.hl
    have l4 : b.trades.length ≤ 1000000000 := hs.ht
    (try simp only [go_sem, hok]); repeat' (first | (with_reducible refine c_split (fun hb => ?_) (fun hb => ?_) <;> try simp only [go_sem, hb, hok]) | (with_reducible refine w_split (fun hb => ?_) (fun hb => ?_) <;> try simp only [go_sem, hb, hok]) | (refine call_c (c_impl_BooksOk b hs _ ?_) <;> try simp only [go_sem, hok]) | (fail))
    have z0 := lens.1
    refine while_at (α := Nat × Nat × Option Nat) (fun ⟨j0, g0, c0⟩ => b.accounts.length - j0) [1, 23, 24] (fun ⟨j0, g0, c0⟩ f h => f 25 = (.one (.c (.int .i64 ((j0 : Int))))) ∧ f 4 = .one (.sl 1 g0 0 (numsK (preN0 b) accN b.accounts j0).length) ∧ h = [.own 0 40 6 (some 1) [booksC b], .own g0 3 1 c0 ((numsK (preN0 b) accN b.accounts j0).map intC)] ∧ j0 ≤ b.accounts.length) (0, 0, some 1) (GC.now ?_) ?_
    · simp only [go_sem, nc_0, true_and]
      rw [numsK_0]; exact ⟨rfl, rfl, Nat.zero_le _⟩
    · rintro ⟨j0, g0, c0⟩ f h J hA ⟨e25, e4, rfl, hP⟩ hJ
      simp only [go_sem] at hA
      try dsimp only at hJ
      simp only [go_sem, hA, e25, e4]
      have hr := fun (x : List (List CV)) hx => num_room (x := x) (Nat.le_trans (z0 j0) (by decide : 2000 ≤ 100000000)) hx
      by_cases hj : j0 < b.accounts.length
      · have hdl : decide ((j0 : Int) < (b.accounts.length : Int)) = true := decide_eq_true (Int.ofNat_lt.2 hj)
        have hg2 : b.accounts[j0]? = some b.accounts[j0] := List.getElem?_eq_getElem hj
        have hil2 : (j0 : Int) < (b.accounts.length : Int) := Int.ofNat_lt.2 hj
        have hsn := numsK_s (preN0 b) accN b.accounts j0 hj
        rw [accN] at hsn
        have hw : wrap64 ((j0 : Int) + 1) = ((j0 + 1 : Nat) : Int) := wrap_nat j0 (Nat.lt_of_lt_of_le hj (Nat.le_trans l0 (by decide)))
        have hdec : b.accounts.length - (j0 + 1) < b.accounts.length - j0 := Nat.sub_lt_sub_left hj (Nat.lt_succ_self j0)
        (try simp only [go_sem, hA, e25, e4, hdl, hg2, hil2]); repeat' (first | (with_reducible refine c_split (fun hb => ?_) (fun hb => ?_) <;> try simp only [go_sem, hb, hA, e25, e4, hdl, hg2, hil2]) | (with_reducible refine w_split (fun hb => ?_) (fun hb => ?_) <;> try simp only [go_sem, hb, hA, e25, e4, hdl, hg2, hil2]) | (fail))
        refine ap_end rfl (List.length_map ..).symm (by exact hr _ (Nat.le_of_ble_eq_true rfl)) ?_
        simp only [go_sem, hA, e25, e4]
        (try simp only [go_sem, hA, e25, e4]); repeat' (first | (with_reducible refine c_split (fun hb => ?_) (fun hb => ?_) <;> try simp only [go_sem, hb, hA, e25, e4]) | (with_reducible refine w_split (fun hb => ?_) (fun hb => ?_) <;> try simp only [go_sem, hb, hA, e25, e4]) | (fail))
        refine gc_trim 2 (by decide) (by simp only [go_sem]) (by simp only [go_sem, hw, hsn, List.map_append, List.map_cons, List.map_nil]) (hJ (j0 + 1, g0 + 1, none) _ _ (by exact hdec) (by simp only [go_sem, hA, e25, e4]) ⟨?_, ?_, ?_, ?_⟩) <;> try simp only [go_sem, hA, e25, e4, hw, hsn, List.map_append, List.map_cons, List.map_nil]
        exact hj
      · have hjl : j0 = b.accounts.length := Nat.le_antisymm hP (Nat.le_of_not_lt hj)
        have hdl : decide ((j0 : Int) < (b.accounts.length : Int)) = false := decide_eq_false (fun q => hj (Int.ofNat_lt.1 q))
        (try simp only [go_sem, hA, e25, e4, hdl]); repeat' (first | (with_reducible refine c_split (fun hb => ?_) (fun hb => ?_) <;> try simp only [go_sem, hb, hA, e25, e4, hdl]) | (with_reducible refine w_split (fun hb => ?_) (fun hb => ?_) <;> try simp only [go_sem, hb, hA, e25, e4, hdl]) | (fail))
        refine ap_end rfl (List.length_map ..).symm (by exact hr _ (Nat.le_of_ble_eq_true rfl)) ?_
        simp only [go_sem, hA, e25, e4]
        have hp1 : preN1 b = numsK (preN0 b) accN b.accounts j0 ++ [(b.instrs.length : Int)] := by rw [preN1, hjl]
        (try simp only [go_sem, hA, e25, e4]); repeat' (first | (with_reducible refine c_split (fun hb => ?_) (fun hb => ?_) <;> try simp only [go_sem, hb, hA, e25, e4]) | (with_reducible refine w_split (fun hb => ?_) (fun hb => ?_) <;> try simp only [go_sem, hb, hA, e25, e4]) | (fail))
        have hq0 := hA
        clear hJ hA hj hdl hr
        have z1 := lens.2.1
        refine while_at (α := Nat × Nat × Option Nat) (fun ⟨j1, g1, c1⟩ => b.instrs.length - j1) [1, 44, 45] (fun ⟨j1, g1, c1⟩ f h => f 46 = (.one (.c (.int .i64 ((j1 : Int))))) ∧ f 4 = .one (.sl 1 g1 0 (numsK (preN1 b) accN b.instrs j1).length) ∧ h = [.own 0 40 6 (some 1) [booksC b], .own g1 3 1 c1 ((numsK (preN1 b) accN b.instrs j1).map intC), .own 0 3 1 (some 1) [[.c (.int .i64 ((b.instrs.length : Int)))]]] ∧ j1 ≤ b.instrs.length) (0, g0 + 1, none) (GC.now ?_) ?_
        · simp only [go_sem, nc_0, true_and, hq0]
          rw [numsK_0, hp1]; exact ⟨by rw [List.length_append]; rfl, by first | (rw [List.map_append]; done) | (rw [List.map_append]; rfl), Nat.zero_le _⟩
        · rintro ⟨j1, g1, c1⟩ f h J hA ⟨e46, e4, rfl, hP⟩ hJ
          simp only [go_sem, hq0] at hA
          try dsimp only at hJ
          simp only [go_sem, hA, e46, e4, hq0]
          try simp only [hq0] at hA
          have hr := fun (x : List (List CV)) hx => num_room (x := x) (Nat.le_trans (z1 j1) (by decide : 2000 ≤ 100000000)) hx
          by_cases hj : j1 < b.instrs.length
          · have hdl : decide ((j1 : Int) < (b.instrs.length : Int)) = true := decide_eq_true (Int.ofNat_lt.2 hj)
            have hg2 : b.instrs[j1]? = some b.instrs[j1] := List.getElem?_eq_getElem hj
            have hil2 : (j1 : Int) < (b.instrs.length : Int) := Int.ofNat_lt.2 hj
            have hsn := numsK_s (preN1 b) accN b.instrs j1 hj
            rw [accN] at hsn
            have hw : wrap64 ((j1 : Int) + 1) = ((j1 + 1 : Nat) : Int) := wrap_nat j1 (Nat.lt_of_lt_of_le hj (Nat.le_trans l1 (by decide)))
            have hdec : b.instrs.length - (j1 + 1) < b.instrs.length - j1 := Nat.sub_lt_sub_left hj (Nat.lt_succ_self j1)
            (try simp only [go_sem, hA, e46, e4, hq0, hdl, hg2, hil2]); repeat' (first | (with_reducible refine c_split (fun hb => ?_) (fun hb => ?_) <;> try simp only [go_sem, hb, hA, e46, e4, hq0, hdl, hg2, hil2]) | (with_reducible refine w_split (fun hb => ?_) (fun hb => ?_) <;> try simp only [go_sem, hb, hA, e46, e4, hq0, hdl, hg2, hil2]) | (fail))
            refine ap_end rfl (List.length_map ..).symm (by exact hr _ (Nat.le_of_ble_eq_true rfl)) ?_
            simp only [go_sem, hA, e46, e4, hq0]
            (try simp only [go_sem, hA, e46, e4, hq0]); repeat' (first | (with_reducible refine c_split (fun hb => ?_) (fun hb => ?_) <;> try simp only [go_sem, hb, hA, e46, e4, hq0]) | (with_reducible refine w_split (fun hb => ?_) (fun hb => ?_) <;> try simp only [go_sem, hb, hA, e46, e4, hq0]) | (fail))
            refine gc_trim 3 (by decide) (by simp only [go_sem]) (by simp only [go_sem, hw, hsn, List.map_append, List.map_cons, List.map_nil]) (hJ (j1 + 1, g1 + 1, none) _ _ (by exact hdec) (by simp only [go_sem, hA, e46, e4, hq0]) ⟨?_, ?_, ?_, ?_⟩) <;> try simp only [go_sem, hA, e46, e4, hq0, hw, hsn, List.map_append, List.map_cons, List.map_nil]
            exact hj
          · have hjl : j1 = b.instrs.length := Nat.le_antisymm hP (Nat.le_of_not_lt hj)
            have hdl : decide ((j1 : Int) < (b.instrs.length : Int)) = false := decide_eq_false (fun q => hj (Int.ofNat_lt.1 q))
            (try simp only [go_sem, hA, e46, e4, hq0, hdl]); repeat' (first | (with_reducible refine c_split (fun hb => ?_) (fun hb => ?_) <;> try simp only [go_sem, hb, hA, e46, e4, hq0, hdl]) | (with_reducible refine w_split (fun hb => ?_) (fun hb => ?_) <;> try simp only [go_sem, hb, hA, e46, e4, hq0, hdl]) | (fail))
            refine ap_end rfl (List.length_map ..).symm (by exact hr _ (Nat.le_of_ble_eq_true rfl)) ?_
            simp only [go_sem, hA, e46, e4, hq0]
            have hp2 : preN2 b = numsK (preN1 b) accN b.instrs j1 ++ [(b.bals.length : Int)] := by rw [preN2, hjl]
            (try simp only [go_sem, hA, e46, e4, hq0]); repeat' (first | (with_reducible refine c_split (fun hb => ?_) (fun hb => ?_) <;> try simp only [go_sem, hb, hA, e46, e4, hq0]) | (with_reducible refine w_split (fun hb => ?_) (fun hb => ?_) <;> try simp only [go_sem, hb, hA, e46, e4, hq0]) | (fail))
            have hq1 := hA
            clear hJ hA hj hdl hr
            have z2 := lens.2.2.1
            refine while_at (α := Nat × Nat × Option Nat) (fun ⟨j2, g2, c2⟩ => b.bals.length - j2) [1, 65, 66] (fun ⟨j2, g2, c2⟩ f h => f 67 = (.one (.c (.int .i64 ((j2 : Int))))) ∧ f 4 = .one (.sl 1 g2 0 (numsK (preN2 b) balN b.bals j2).length) ∧ h = [.own 0 40 6 (some 1) [booksC b], .own g2 3 1 c2 ((numsK (preN2 b) balN b.bals j2).map intC), .own 0 3 1 (some 1) [[.c (.int .i64 ((b.instrs.length : Int)))]], .own 0 3 1 (some 1) [[.c (.int .i64 ((b.bals.length : Int)))]]] ∧ j2 ≤ b.bals.length) (0, g1 + 1, none) (GC.now ?_) ?_
            · simp only [go_sem, nc_0, true_and, hq1]
              rw [numsK_0, hp2]; exact ⟨by rw [List.length_append]; rfl, by first | (rw [List.map_append]; done) | (rw [List.map_append]; rfl), Nat.zero_le _⟩
            · rintro ⟨j2, g2, c2⟩ f h J hA ⟨e67, e4, rfl, hP⟩ hJ
              simp only [go_sem, hq1] at hA
              try dsimp only at hJ
              simp only [go_sem, hA, e67, e4, hq1]
              try simp only [hq1] at hA
              have hr := fun (x : List (List CV)) hx => num_room (x := x) (Nat.le_trans (z2 j2) (by decide : 2000 ≤ 100000000)) hx
              by_cases hj : j2 < b.bals.length
              · have hdl : decide ((j2 : Int) < (b.bals.length : Int)) = true := decide_eq_true (Int.ofNat_lt.2 hj)
                have hg2 : b.bals[j2]? = some b.bals[j2] := List.getElem?_eq_getElem hj
                have hil2 : (j2 : Int) < (b.bals.length : Int) := Int.ofNat_lt.2 hj
                have hsn := numsK_s (preN2 b) balN b.bals j2 hj
                rw [balN] at hsn
                have hw : wrap64 ((j2 : Int) + 1) = ((j2 + 1 : Nat) : Int) := wrap_nat j2 (Nat.lt_of_lt_of_le hj (Nat.le_trans l2 (by decide)))
                have hdec : b.bals.length - (j2 + 1) < b.bals.length - j2 := Nat.sub_lt_sub_left hj (Nat.lt_succ_self j2)
                (try simp only [go_sem, hA, e67, e4, hq1, hdl, hg2, hil2]); repeat' (first | (with_reducible refine c_split (fun hb => ?_) (fun hb => ?_) <;> try simp only [go_sem, hb, hA, e67, e4, hq1, hdl, hg2, hil2]) | (with_reducible refine w_split (fun hb => ?_) (fun hb => ?_) <;> try simp only [go_sem, hb, hA, e67, e4, hq1, hdl, hg2, hil2]) | (fail))
                refine ap_end rfl (List.length_map ..).symm (by exact hr _ (Nat.le_of_ble_eq_true rfl)) ?_
                simp only [go_sem, hA, e67, e4, hq1]
                (try simp only [go_sem, hA, e67, e4, hq1]); repeat' (first | (with_reducible refine c_split (fun hb => ?_) (fun hb => ?_) <;> try simp only [go_sem, hb, hA, e67, e4, hq1]) | (with_reducible refine w_split (fun hb => ?_) (fun hb => ?_) <;> try simp only [go_sem, hb, hA, e67, e4, hq1]) | (fail))
                refine gc_trim 4 (by decide) (by simp only [go_sem]) (by simp only [go_sem, hw, hsn, List.map_append, List.map_cons, List.map_nil]) (hJ (j2 + 1, g2 + 1, none) _ _ (by exact hdec) (by simp only [go_sem, hA, e67, e4, hq1]) ⟨?_, ?_, ?_, ?_⟩) <;> try simp only [go_sem, hA, e67, e4, hq1, hw, hsn, List.map_append, List.map_cons, List.map_nil]
                exact hj
              · have hjl : j2 = b.bals.length := Nat.le_antisymm hP (Nat.le_of_not_lt hj)
                have hdl : decide ((j2 : Int) < (b.bals.length : Int)) = false := decide_eq_false (fun q => hj (Int.ofNat_lt.1 q))
                (try simp only [go_sem, hA, e67, e4, hq1, hdl]); repeat' (first | (with_reducible refine c_split (fun hb => ?_) (fun hb => ?_) <;> try simp only [go_sem, hb, hA, e67, e4, hq1, hdl]) | (with_reducible refine w_split (fun hb => ?_) (fun hb => ?_) <;> try simp only [go_sem, hb, hA, e67, e4, hq1, hdl]) | (fail))
                refine ap_end rfl (List.length_map ..).symm (by exact hr _ (Nat.le_of_ble_eq_true rfl)) ?_
                simp only [go_sem, hA, e67, e4, hq1]
                have hp3 : preN3 b = numsK (preN2 b) balN b.bals j2 ++ [(b.lots.length : Int)] := by rw [preN3, hjl]
                (try simp only [go_sem, hA, e67, e4, hq1]); repeat' (first | (with_reducible refine c_split (fun hb => ?_) (fun hb => ?_) <;> try simp only [go_sem, hb, hA, e67, e4, hq1]) | (with_reducible refine w_split (fun hb => ?_) (fun hb => ?_) <;> try simp only [go_sem, hb, hA, e67, e4, hq1]) | (fail))
                have hq2 := hA
                clear hJ hA hj hdl hr
                have z3 := lens.2.2.2.1
                refine while_at (α := Nat × Nat × Option Nat) (fun ⟨j3, g3, c3⟩ => b.lots.length - j3) [1, 89, 90] (fun ⟨j3, g3, c3⟩ f h => f 91 = (.one (.c (.int .i64 ((j3 : Int))))) ∧ f 4 = .one (.sl 1 g3 0 (numsK (preN3 b) lotN b.lots j3).length) ∧ h = [.own 0 40 6 (some 1) [booksC b], .own g3 3 1 c3 ((numsK (preN3 b) lotN b.lots j3).map intC), .own 0 3 1 (some 1) [[.c (.int .i64 ((b.instrs.length : Int)))]], .own 0 3 1 (some 1) [[.c (.int .i64 ((b.bals.length : Int)))]], .own 0 3 1 (some 1) [[.c (.int .i64 ((b.lots.length : Int)))]]] ∧ j3 ≤ b.lots.length) (0, g2 + 1, none) (GC.now ?_) ?_
                · simp only [go_sem, nc_0, true_and, hq2]
                  rw [numsK_0, hp3]; exact ⟨by rw [List.length_append]; rfl, by first | (rw [List.map_append]; done) | (rw [List.map_append]; rfl), Nat.zero_le _⟩
                · rintro ⟨j3, g3, c3⟩ f h J hA ⟨e91, e4, rfl, hP⟩ hJ
                  simp only [go_sem, hq2] at hA
                  try dsimp only at hJ
                  simp only [go_sem, hA, e91, e4, hq2]
                  try simp only [hq2] at hA
                  have hr := fun (x : List (List CV)) hx => num_room (x := x) (Nat.le_trans (z3 j3) (by decide : 2000 ≤ 100000000)) hx
                  by_cases hj : j3 < b.lots.length
                  · have hdl : decide ((j3 : Int) < (b.lots.length : Int)) = true := decide_eq_true (Int.ofNat_lt.2 hj)
                    have hg2 : b.lots[j3]? = some b.lots[j3] := List.getElem?_eq_getElem hj
                    have hil2 : (j3 : Int) < (b.lots.length : Int) := Int.ofNat_lt.2 hj
                    have hsn := numsK_s (preN3 b) lotN b.lots j3 hj
                    rw [lotN] at hsn
                    have hw : wrap64 ((j3 : Int) + 1) = ((j3 + 1 : Nat) : Int) := wrap_nat j3 (Nat.lt_of_lt_of_le hj (Nat.le_trans l3 (by decide)))
                    have hdec : b.lots.length - (j3 + 1) < b.lots.length - j3 := Nat.sub_lt_sub_left hj (Nat.lt_succ_self j3)
                    (try simp only [go_sem, hA, e91, e4, hq2, hdl, hg2, hil2]); repeat' (first | (with_reducible refine c_split (fun hb => ?_) (fun hb => ?_) <;> try simp only [go_sem, hb, hA, e91, e4, hq2, hdl, hg2, hil2]) | (with_reducible refine w_split (fun hb => ?_) (fun hb => ?_) <;> try simp only [go_sem, hb, hA, e91, e4, hq2, hdl, hg2, hil2]) | (fail))
                    refine ap_end rfl (List.length_map ..).symm (by exact hr _ (Nat.le_of_ble_eq_true rfl)) ?_
                    simp only [go_sem, hA, e91, e4, hq2]
                    (try simp only [go_sem, hA, e91, e4, hq2]); repeat' (first | (with_reducible refine c_split (fun hb => ?_) (fun hb => ?_) <;> try simp only [go_sem, hb, hA, e91, e4, hq2]) | (with_reducible refine w_split (fun hb => ?_) (fun hb => ?_) <;> try simp only [go_sem, hb, hA, e91, e4, hq2]) | (fail))
                    refine gc_trim 5 (by decide) (by simp only [go_sem]) (by simp only [go_sem, hw, hsn, List.map_append, List.map_cons, List.map_nil]) (hJ (j3 + 1, g3 + 1, none) _ _ (by exact hdec) (by simp only [go_sem, hA, e91, e4, hq2]) ⟨?_, ?_, ?_, ?_⟩) <;> try simp only [go_sem, hA, e91, e4, hq2, hw, hsn, List.map_append, List.map_cons, List.map_nil]
                    exact hj
                  · have hjl : j3 = b.lots.length := Nat.le_antisymm hP (Nat.le_of_not_lt hj)
                    have hdl : decide ((j3 : Int) < (b.lots.length : Int)) = false := decide_eq_false (fun q => hj (Int.ofNat_lt.1 q))
                    (try simp only [go_sem, hA, e91, e4, hq2, hdl]); repeat' (first | (with_reducible refine c_split (fun hb => ?_) (fun hb => ?_) <;> try simp only [go_sem, hb, hA, e91, e4, hq2, hdl]) | (with_reducible refine w_split (fun hb => ?_) (fun hb => ?_) <;> try simp only [go_sem, hb, hA, e91, e4, hq2, hdl]) | (fail))
                    refine ap_end rfl (List.length_map ..).symm (by exact hr _ (Nat.le_of_ble_eq_true rfl)) ?_
                    simp only [go_sem, hA, e91, e4, hq2]
                    have hp4 : preN4 b = numsK (preN3 b) lotN b.lots j3 ++ [(b.trades.length : Int)] := by rw [preN4, hjl]
                    (try simp only [go_sem, hA, e91, e4, hq2]); repeat' (first | (with_reducible refine c_split (fun hb => ?_) (fun hb => ?_) <;> try simp only [go_sem, hb, hA, e91, e4, hq2]) | (with_reducible refine w_split (fun hb => ?_) (fun hb => ?_) <;> try simp only [go_sem, hb, hA, e91, e4, hq2]) | (fail))
                    have hq3 := hA
                    clear hJ hA hj hdl hr
                    have z4 := lens.2.2.2.2
                    refine while_at (α := Nat × Nat × Option Nat) (fun ⟨j4, g4, c4⟩ => b.trades.length - j4) [1, 116, 117] (fun ⟨j4, g4, c4⟩ f h => f 118 = (.one (.c (.int .i64 ((j4 : Int))))) ∧ f 4 = .one (.sl 1 g4 0 (numsK (preN4 b) trdN b.trades j4).length) ∧ h = [.own 0 40 6 (some 1) [booksC b], .own g4 3 1 c4 ((numsK (preN4 b) trdN b.trades j4).map intC), .own 0 3 1 (some 1) [[.c (.int .i64 ((b.instrs.length : Int)))]], .own 0 3 1 (some 1) [[.c (.int .i64 ((b.bals.length : Int)))]], .own 0 3 1 (some 1) [[.c (.int .i64 ((b.lots.length : Int)))]], .own 0 3 1 (some 1) [[.c (.int .i64 ((b.trades.length : Int)))]]] ∧ j4 ≤ b.trades.length) (0, g3 + 1, none) (GC.now ?_) ?_
                    · simp only [go_sem, nc_0, true_and, hq3]
                      rw [numsK_0, hp4]; exact ⟨by rw [List.length_append]; rfl, by first | (rw [List.map_append]; done) | (rw [List.map_append]; rfl), Nat.zero_le _⟩
                    · rintro ⟨j4, g4, c4⟩ f h J hA ⟨e118, e4, rfl, hP⟩ hJ
                      simp only [go_sem, hq3] at hA
                      try dsimp only at hJ
                      simp only [go_sem, hA, e118, e4, hq3]
                      try simp only [hq3] at hA
                      have hr := fun (x : List (List CV)) hx => num_room (x := x) (Nat.le_trans (z4 j4) (by decide : 2000 ≤ 100000000)) hx
                      by_cases hj : j4 < b.trades.length
                      · have hdl : decide ((j4 : Int) < (b.trades.length : Int)) = true := decide_eq_true (Int.ofNat_lt.2 hj)
                        have hg2 : b.trades[j4]? = some b.trades[j4] := List.getElem?_eq_getElem hj
                        have hil2 : (j4 : Int) < (b.trades.length : Int) := Int.ofNat_lt.2 hj
                        have hsn := numsK_s (preN4 b) trdN b.trades j4 hj
                        rw [trdN] at hsn
                        have hw : wrap64 ((j4 : Int) + 1) = ((j4 + 1 : Nat) : Int) := wrap_nat j4 (Nat.lt_of_lt_of_le hj (Nat.le_trans l4 (by decide)))
                        have hdec : b.trades.length - (j4 + 1) < b.trades.length - j4 := Nat.sub_lt_sub_left hj (Nat.lt_succ_self j4)
                        (try simp only [go_sem, hA, e118, e4, hq3, hdl, hg2, hil2]); repeat' (first | (with_reducible refine c_split (fun hb => ?_) (fun hb => ?_) <;> try simp only [go_sem, hb, hA, e118, e4, hq3, hdl, hg2, hil2]) | (with_reducible refine w_split (fun hb => ?_) (fun hb => ?_) <;> try simp only [go_sem, hb, hA, e118, e4, hq3, hdl, hg2, hil2]) | (fail))
                        refine ap_end rfl (List.length_map ..).symm (by exact hr _ (Nat.le_of_ble_eq_true rfl)) ?_
                        simp only [go_sem, hA, e118, e4, hq3]
                        (try simp only [go_sem, hA, e118, e4, hq3]); repeat' (first | (with_reducible refine c_split (fun hb => ?_) (fun hb => ?_) <;> try simp only [go_sem, hb, hA, e118, e4, hq3]) | (with_reducible refine w_split (fun hb => ?_) (fun hb => ?_) <;> try simp only [go_sem, hb, hA, e118, e4, hq3]) | (fail))
                        refine gc_trim 6 (by decide) (by simp only [go_sem]) (by simp only [go_sem, hw, hsn, List.map_append, List.map_cons, List.map_nil]) (hJ (j4 + 1, g4 + 1, none) _ _ (by exact hdec) (by simp only [go_sem, hA, e118, e4, hq3]) ⟨?_, ?_, ?_, ?_⟩) <;> try simp only [go_sem, hA, e118, e4, hq3, hw, hsn, List.map_append, List.map_cons, List.map_nil]
                        exact hj
                      · have hjl : j4 = b.trades.length := Nat.le_antisymm hP (Nat.le_of_not_lt hj)
                        have hdl : decide ((j4 : Int) < (b.trades.length : Int)) = false := decide_eq_false (fun q => hj (Int.ofNat_lt.1 q))
                        (try simp only [go_sem, hA, e118, e4, hq3, hdl]); repeat' (first | (with_reducible refine c_split (fun hb => ?_) (fun hb => ?_) <;> try simp only [go_sem, hb, hA, e118, e4, hq3, hdl]) | (with_reducible refine w_split (fun hb => ?_) (fun hb => ?_) <;> try simp only [go_sem, hb, hA, e118, e4, hq3, hdl]) | (fail))
                        refine ap_end rfl (List.length_map ..).symm (by exact hr _ (Nat.le_of_ble_eq_true rfl)) ?_
                        simp only [go_sem, hA, e118, e4, hq3]
                        have hp5 : booksN b = numsK (preN4 b) trdN b.trades j4 ++ [b.lot] := by rw [booksN, hjl]
                        rw [hp5] at hk cP
                        have htk : ∀ x : Int, List.take ((numsK (preN4 b) trdN b.trades j4).length + 1) (List.map intC (numsK (preN4 b) trdN b.trades j4 ++ [x])) = List.map intC (numsK (preN4 b) trdN b.trades j4 ++ [x]) := fun x => List.take_of_length_le (by simp)
                        (try simp only [go_sem, hA, e118, e4, hq3, htk]); repeat' (first | (with_reducible refine c_split (fun hb => ?_) (fun hb => ?_) <;> try simp only [go_sem, hb, hA, e118, e4, hq3, htk]) | (with_reducible refine w_split (fun hb => ?_) (fun hb => ?_) <;> try simp only [go_sem, hb, hA, e118, e4, hq3, htk]) | (refine call_c (cP _ ?_) <;> try simp only [go_sem, hA, e118, e4, hq3, htk]) | (with_reducible refine hQ _ _ ?_ <;> simp only [Tryz.f21, go_sem, hA, e118, e4, hq3, htk]))
                        exact hk
end Go.Proofs.YtedkpjaojdkpcaaGreat
