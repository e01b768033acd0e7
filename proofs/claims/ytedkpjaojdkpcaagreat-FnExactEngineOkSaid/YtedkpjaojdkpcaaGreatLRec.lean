/- Rec: the records of books, as a law copies, counts and compares them. Conditions: none. -/
import Derived.Test.YtedkpjaojdkpcaaGreatLG
import Derived.Test.YtedkpjaojdkpcaaGreatLT
import Derived.Test.YtedkpjaojdkpcaaGreatLRows
import Derived.Test.YtedkpjaojdkpcaaGreatLFind
namespace Go.Proofs.YtedkpjaojdkpcaaGreat
open Go.BL Go.RowKit
set_option linter.unusedVariables false
set_option linter.unusedSimpArgs false
set_option maxRecDepth 100000
structure Account where
  no : Int
  kind : Int
def accountC (x : Account) : List CV := [.c (.int .i64 (x.no)), .c (.int .i64 (x.kind))]
attribute [local go_sem] accountC
theorem accountC_len (x : Account) : (accountC x).length = 2 := rfl
theorem accountC_cl (x : Account) : (accountC x).all clB = true := by first | rfl | (cases x; rfl)
theorem accountC_st (x : Account) : (accountC x).all stB = true := by first | rfl | (cases x; rfl)
theorem accountC_clE (xs : List (Account)) : clE (xs.map accountC) = true := clE_map _ _ accountC_cl
theorem accountC_stL (xs : List (Account)) : stL (xs.map accountC) = true := stL_map _ _ accountC_st
theorem accountC_ltE (n : Nat) (xs : List (Account)) : ltE n (xs.map accountC) = true := lte_cl _ _ (accountC_clE xs)
theorem accountC_clz (xs : List (Account)) : (xs.map accountC).map (List.map clz) = xs.map accountC := clz_E _ (accountC_clE xs)
theorem accountC_shV (n : Nat) (xs : List (Account)) : (xs.map accountC).map (List.map (shV n)) = xs.map accountC := shV_E _ _ (accountC_clE xs)
theorem accountC_snoc (xs : List (Account)) (a0 a1 : Int) : xs.map accountC ++ [[.c (.int .i64 (a0)), .c (.int .i64 (a1))]] = (xs ++ [(⟨a0, a1⟩ : Account)]).map accountC := by rw [List.map_append]; rfl
theorem accountC_set (xs : List (Account)) (q : Nat) (a0 a1 : Int) : (xs.map accountC).set q [.c (.int .i64 (a0)), .c (.int .i64 (a1))] = (xs.set q (⟨a0, a1⟩ : Account)).map accountC := by rw [List.map_set]; rfl
theorem accountC_rep (q : Nat) (a0 a1 : Int) : List.replicate q [.c (.int .i64 (a0)), .c (.int .i64 (a1))] = (List.replicate q (⟨a0, a1⟩ : Account)).map accountC := map_rep _ _ _ _ rfl
theorem accountC_tk (xs : List (Account)) : (xs.map accountC).take xs.length = xs.map accountC := List.take_of_length_le (by simp)
theorem accountC_ks (xs : List (Account)) : ksB (2) (xs.map accountC) = true := by simp [ksB, accountC]
theorem accountC_fr (xs : List (Account)) : freeE (xs.map accountC) = true := fee_map _ _ (fun x => by first | rfl | (cases x; rfl))
attribute [go_sem] accountC_cl accountC_st accountC_clE accountC_stL accountC_ltE accountC_clz accountC_shV accountC_snoc accountC_ks accountC_tk accountC_fr accountC_set accountC_rep
instance : Inhabited Account := ⟨⟨0, 0⟩⟩
theorem c_toAccount (x : Account) (K : AV → AH → Prop) (hk : K (.agg (accountC x)) []) : ACalls Tryz.prog 90 [.agg (accountC x)] [] K := by
  refine acall_c Tryz.f90.results.toList mixed Tryz.func90 rfl rfl (by kernel_rfl) ?_
  intro Q hQ hQO
  simp only [go_sem]
  (try simp only [go_sem]); repeat' (first | (with_reducible refine c_split (fun hb => ?_) (fun hb => ?_) <;> try simp only [go_sem, hb]) | (with_reducible refine w_split (fun hb => ?_) (fun hb => ?_) <;> try simp only [go_sem, hb]) | (with_reducible refine hQ _ _ ?_ <;> simp only [Tryz.f90, go_sem]))
  exact hk
theorem c_toAccountS (xs : List Account) (hn : xs.length ≤ 1000000000) (K : AV → AH → Prop) (hk : K (.one (.sl 0 0 0 xs.length)) [.own 0 96 2 (some xs.length) (xs.map accountC)]) : ACalls Tryz.prog 47 [(.one (.im (xs.map accountC)))] [] K := by
  refine acall_c Tryz.f47.results.toList mixed Tryz.func47 rfl rfl (by kernel_rfl) ?_
  intro Q hQ hQO
  simp only [go_sem]
  refine ⟨by omega, Nat.le_trans hn (by decide), ?_⟩
  refine for_at (xs.length) [0, 3] (fun i f h => f 4 = (.one (.c (.int .i64 (i)))) ∧ h = [.own 0 96 2 (some xs.length) ((fillR (fun j => xs[j]?.getD ⟨0, 0⟩) (List.replicate xs.length ⟨0, 0⟩) i).map accountC)]) (GC.now ?_) ?_
  · simp only [go_sem, nc_0, true_and, fill_0]
  · rintro i f h J hi hA ⟨e4, rfl⟩ hJ
    simp only [go_sem, fill_0] at hA
    simp only [go_sem, hA, e4, fill_0]
    refine c_split (fun hb => ?_) (fun hb => ?_)
    rotate_left
    · simp only [go_sem, hb, hA, e4, fill_0]
      obtain rfl := ge_len hb hi
      (try simp only [go_sem, hA, e4, fill_0, fill_copy xs _ _ List.length_replicate]); repeat' (first | (with_reducible refine c_split (fun hb => ?_) (fun hb => ?_) <;> try simp only [go_sem, hb, hA, e4, fill_0, fill_copy xs _ _ List.length_replicate]) | (with_reducible refine w_split (fun hb => ?_) (fun hb => ?_) <;> try simp only [go_sem, hb, hA, e4, fill_0, fill_copy xs _ _ List.length_replicate]) | (fail))
      refine hQO [0] _ _ (GC.now ?_) <;> simp only [Tryz.f47, go_sem, List.nodup_cons, List.nodup_nil, List.mem_cons, List.not_mem_nil, or_false, not_false_eq_true, List.idxOf?_cons, List.idxOf?_nil, Option.map_none]
      exact hk
    have hi := lt_len hb
    have hw := wrap_nat i (by omega)
    have hil : (i : Int) < ((xs.length : Nat) : Int) := Int.ofNat_lt.2 hi
    have hg0 : (xs)[i]? = some ((xs)[i]) := List.getElem?_eq_getElem (by omega)
    simp only [go_sem, hb, hA, e4, fill_0, hg0]
    try simp only [go_sem, hA, e4, fill_0, hil, hg0]
    have hold := fill_get (fun j => xs[j]?.getD (⟨0, 0⟩ : Account)) (List.replicate xs.length ⟨0, 0⟩) i
    rw [List.getElem?_replicate, if_pos hi] at hold
    have hset := fill_set (fun j => xs[j]?.getD (⟨0, 0⟩ : Account)) (List.replicate xs.length ⟨0, 0⟩) i (by simpa using hi) xs[i] (by rw [hg0]; rfl)
    (try simp only [go_sem, hA, e4, fill_0, hil, hg0, hold]); repeat' (first | (with_reducible refine c_split (fun hb => ?_) (fun hb => ?_) <;> try simp only [go_sem, hb, hA, e4, fill_0, hil, hg0, hold]) | (with_reducible refine w_split (fun hb => ?_) (fun hb => ?_) <;> try simp only [go_sem, hb, hA, e4, fill_0, hil, hg0, hold]) | (refine call_c (c_toAccount _ _ ?_) <;> try simp only [go_sem, hA, e4, fill_0, hil, hg0, hold]) | (fail))
    refine gc_trim 1 (by decide) (by simp only [go_sem]) (by simp only [go_sem]) (hJ _ _ hi (by simp only [go_sem, hA, e4, fill_0]) ⟨?_, ?_⟩) <;> try simp only [go_sem, hA, e4, fill_0, hw, hset]
theorem c_szAccountS (xs : List Account) (left : Int) (hn : xs.length ≤ 1000000000000000) (h0 : 0 ≤ left) (h1 : left ≤ 1048576) (K : AV → AH → Prop) (hk : ∀ r, (0 ≤ r → r = left - xs.length) → K (.one (.c (.int .i64 (r)))) []) : ACalls Tryz.prog 39 [(.one (.im (xs.map accountC))), (.one (.c (.int .i64 (left))))] [] K := by
  refine acall_c Tryz.f39.results.toList mixed Tryz.func39 rfl rfl (by kernel_rfl) ?_
  intro Q hQ hQO
  simp only [go_sem]
  (try simp only [go_sem]); repeat' (first | (with_reducible refine c_split (fun hb => ?_) (fun hb => ?_) <;> try simp only [go_sem, hb]) | (with_reducible refine w_split (fun hb => ?_) (fun hb => ?_) <;> try simp only [go_sem, hb]) | (with_reducible refine hQ _ _ ?_ <;> simp only [Tryz.f39, go_sem]))
  · exact hk _ (by intro q; omega)
  · exact hk _ (by intro q; unfold wrap64; omega)
theorem c_eqAccount (x : Account) (K : AV → AH → Prop) (hk : K (.one (.c (.bool (true)))) []) : ACalls Tryz.prog 99 [.agg (accountC x), .agg (accountC x)] [] K := by
  refine acall_c Tryz.f99.results.toList mixed Tryz.func99 rfl rfl (by kernel_rfl) ?_
  intro Q hQ hQO
  simp only [go_sem, BEq.rfl]
  (try simp only [go_sem, BEq.rfl]); repeat' (first | (with_reducible refine c_split (fun hb => ?_) (fun hb => ?_) <;> try simp only [go_sem, hb, BEq.rfl]) | (with_reducible refine w_split (fun hb => ?_) (fun hb => ?_) <;> try simp only [go_sem, hb, BEq.rfl]) | (with_reducible refine hQ _ _ ?_ <;> simp only [Tryz.f99, go_sem, BEq.rfl]))
  exact hk
theorem c_eqAccountS (xs : List Account) (hn : xs.length ≤ 1000000000) (K : AV → AH → Prop) (hk : K (.one (.c (.bool (true)))) []) : ACalls Tryz.prog 55 [(.one (.im (xs.map accountC))), (.one (.im (xs.map accountC)))] [] K := by
  refine acall_c Tryz.f55.results.toList mixed Tryz.func55 rfl rfl (by kernel_rfl) ?_
  intro Q hQ hQO
  simp only [go_sem, BEq.rfl]
  refine for_at (xs.length) [0, 1] (fun i f h => f 5 = (.one (.c (.int .i64 (i)))) ∧ h = []) (GC.now ?_) ?_
  · simp only [go_sem, nc_0, true_and, BEq.rfl]
  · rintro i f h J hi hA ⟨e5, rfl⟩ hJ
    simp only [go_sem, BEq.rfl] at hA
    simp only [go_sem, hA, e5, BEq.rfl]
    refine c_split (fun hb => ?_) (fun hb => ?_)
    rotate_left
    · simp only [go_sem, hb, hA, e5, BEq.rfl]
      obtain rfl := ge_len hb hi
      (try simp only [go_sem, hA, e5, BEq.rfl]); repeat' (first | (with_reducible refine c_split (fun hb => ?_) (fun hb => ?_) <;> try simp only [go_sem, hb, hA, e5, BEq.rfl]) | (with_reducible refine w_split (fun hb => ?_) (fun hb => ?_) <;> try simp only [go_sem, hb, hA, e5, BEq.rfl]) | (with_reducible refine tw_split (fun hb => ?_) (fun hb => ?_) <;> try simp only [go_sem, hb, hA, e5, BEq.rfl]) | (with_reducible refine draw_at 0 17 (by with_unfolding_all rfl) [(0, true, true), (1, true, true), (2, true, true), (3, true, true), (4, true, false), (5, false, false), (6, false, false), (7, false, false), (8, false, true), (9, false, true)] (by kernel_rfl) ?_ <;> try simp only [go_sem, hA, e5, BEq.rfl]) | (with_reducible refine hQ _ _ ?_ <;> simp only [Tryz.f55, go_sem, hA, e5, BEq.rfl]))
      exact hk
    have hi := lt_len hb
    have hw := wrap_nat i (by omega)
    have hil : (i : Int) < ((xs.length : Nat) : Int) := Int.ofNat_lt.2 hi
    have hg0 : (xs)[i]? = some ((xs)[i]) := List.getElem?_eq_getElem (by omega)
    simp only [go_sem, hb, hA, e5, BEq.rfl, hg0]
    try simp only [go_sem, hA, e5, BEq.rfl, hil, hg0]
    (try simp only [go_sem, hA, e5, BEq.rfl, hil, hg0]); repeat' (first | (with_reducible refine c_split (fun hb => ?_) (fun hb => ?_) <;> try simp only [go_sem, hb, hA, e5, BEq.rfl, hil, hg0]) | (with_reducible refine w_split (fun hb => ?_) (fun hb => ?_) <;> try simp only [go_sem, hb, hA, e5, BEq.rfl, hil, hg0]) | (with_reducible refine tw_split (fun hb => ?_) (fun hb => ?_) <;> try simp only [go_sem, hb, hA, e5, BEq.rfl, hil, hg0]) | (with_reducible refine draw_at 0 17 (by with_unfolding_all rfl) [(0, true, true), (1, true, true), (2, true, true), (3, true, true), (4, true, false), (5, false, false), (6, false, false), (7, false, false), (8, false, true), (9, false, true)] (by kernel_rfl) ?_ <;> try simp only [go_sem, hA, e5, BEq.rfl, hil, hg0]) | (refine call_c (c_eqAccount _ _ ?_) <;> try simp only [go_sem, hA, e5, BEq.rfl, hil, hg0]) | (fail))
    refine GC.now (hJ _ _ hi (by simp only [go_sem, hA, e5, BEq.rfl]) ⟨?_, ?_⟩) <;> try simp only [go_sem, hA, e5, BEq.rfl, hw]
theorem c_toInstr (x : Account) (K : AV → AH → Prop) (hk : K (.agg (accountC x)) []) : ACalls Tryz.prog 91 [.agg (accountC x)] [] K := by
  refine acall_c Tryz.f91.results.toList mixed Tryz.func91 rfl rfl (by kernel_rfl) ?_
  intro Q hQ hQO
  simp only [go_sem]
  (try simp only [go_sem]); repeat' (first | (with_reducible refine c_split (fun hb => ?_) (fun hb => ?_) <;> try simp only [go_sem, hb]) | (with_reducible refine w_split (fun hb => ?_) (fun hb => ?_) <;> try simp only [go_sem, hb]) | (with_reducible refine hQ _ _ ?_ <;> simp only [Tryz.f91, go_sem]))
  exact hk
theorem c_toInstrS (xs : List Account) (hn : xs.length ≤ 1000000000) (K : AV → AH → Prop) (hk : K (.one (.sl 0 0 0 xs.length)) [.own 0 97 2 (some xs.length) (xs.map accountC)]) : ACalls Tryz.prog 48 [(.one (.im (xs.map accountC)))] [] K := by
  refine acall_c Tryz.f48.results.toList mixed Tryz.func48 rfl rfl (by kernel_rfl) ?_
  intro Q hQ hQO
  simp only [go_sem]
  refine ⟨by omega, Nat.le_trans hn (by decide), ?_⟩
  refine for_at (xs.length) [0, 3] (fun i f h => f 4 = (.one (.c (.int .i64 (i)))) ∧ h = [.own 0 97 2 (some xs.length) ((fillR (fun j => xs[j]?.getD ⟨0, 0⟩) (List.replicate xs.length ⟨0, 0⟩) i).map accountC)]) (GC.now ?_) ?_
  · simp only [go_sem, nc_0, true_and, fill_0]
  · rintro i f h J hi hA ⟨e4, rfl⟩ hJ
    simp only [go_sem, fill_0] at hA
    simp only [go_sem, hA, e4, fill_0]
    refine c_split (fun hb => ?_) (fun hb => ?_)
    rotate_left
    · simp only [go_sem, hb, hA, e4, fill_0]
      obtain rfl := ge_len hb hi
      (try simp only [go_sem, hA, e4, fill_0, fill_copy xs _ _ List.length_replicate]); repeat' (first | (with_reducible refine c_split (fun hb => ?_) (fun hb => ?_) <;> try simp only [go_sem, hb, hA, e4, fill_0, fill_copy xs _ _ List.length_replicate]) | (with_reducible refine w_split (fun hb => ?_) (fun hb => ?_) <;> try simp only [go_sem, hb, hA, e4, fill_0, fill_copy xs _ _ List.length_replicate]) | (fail))
      refine hQO [0] _ _ (GC.now ?_) <;> simp only [Tryz.f48, go_sem, List.nodup_cons, List.nodup_nil, List.mem_cons, List.not_mem_nil, or_false, not_false_eq_true, List.idxOf?_cons, List.idxOf?_nil, Option.map_none]
      exact hk
    have hi := lt_len hb
    have hw := wrap_nat i (by omega)
    have hil : (i : Int) < ((xs.length : Nat) : Int) := Int.ofNat_lt.2 hi
    have hg0 : (xs)[i]? = some ((xs)[i]) := List.getElem?_eq_getElem (by omega)
    simp only [go_sem, hb, hA, e4, fill_0, hg0]
    try simp only [go_sem, hA, e4, fill_0, hil, hg0]
    have hold := fill_get (fun j => xs[j]?.getD (⟨0, 0⟩ : Account)) (List.replicate xs.length ⟨0, 0⟩) i
    rw [List.getElem?_replicate, if_pos hi] at hold
    have hset := fill_set (fun j => xs[j]?.getD (⟨0, 0⟩ : Account)) (List.replicate xs.length ⟨0, 0⟩) i (by simpa using hi) xs[i] (by rw [hg0]; rfl)
    (try simp only [go_sem, hA, e4, fill_0, hil, hg0, hold]); repeat' (first | (with_reducible refine c_split (fun hb => ?_) (fun hb => ?_) <;> try simp only [go_sem, hb, hA, e4, fill_0, hil, hg0, hold]) | (with_reducible refine w_split (fun hb => ?_) (fun hb => ?_) <;> try simp only [go_sem, hb, hA, e4, fill_0, hil, hg0, hold]) | (refine call_c (c_toInstr _ _ ?_) <;> try simp only [go_sem, hA, e4, fill_0, hil, hg0, hold]) | (fail))
    refine gc_trim 1 (by decide) (by simp only [go_sem]) (by simp only [go_sem]) (hJ _ _ hi (by simp only [go_sem, hA, e4, fill_0]) ⟨?_, ?_⟩) <;> try simp only [go_sem, hA, e4, fill_0, hw, hset]
theorem c_szInstrS (xs : List Account) (left : Int) (hn : xs.length ≤ 1000000000000000) (h0 : 0 ≤ left) (h1 : left ≤ 1048576) (K : AV → AH → Prop) (hk : ∀ r, (0 ≤ r → r = left - xs.length) → K (.one (.c (.int .i64 (r)))) []) : ACalls Tryz.prog 40 [(.one (.im (xs.map accountC))), (.one (.c (.int .i64 (left))))] [] K := by
  refine acall_c Tryz.f40.results.toList mixed Tryz.func40 rfl rfl (by kernel_rfl) ?_
  intro Q hQ hQO
  simp only [go_sem]
  (try simp only [go_sem]); repeat' (first | (with_reducible refine c_split (fun hb => ?_) (fun hb => ?_) <;> try simp only [go_sem, hb]) | (with_reducible refine w_split (fun hb => ?_) (fun hb => ?_) <;> try simp only [go_sem, hb]) | (with_reducible refine hQ _ _ ?_ <;> simp only [Tryz.f40, go_sem]))
  · exact hk _ (by intro q; omega)
  · exact hk _ (by intro q; unfold wrap64; omega)
theorem c_eqInstr (x : Account) (K : AV → AH → Prop) (hk : K (.one (.c (.bool (true)))) []) : ACalls Tryz.prog 100 [.agg (accountC x), .agg (accountC x)] [] K := by
  refine acall_c Tryz.f100.results.toList mixed Tryz.func100 rfl rfl (by kernel_rfl) ?_
  intro Q hQ hQO
  simp only [go_sem, BEq.rfl]
  (try simp only [go_sem, BEq.rfl]); repeat' (first | (with_reducible refine c_split (fun hb => ?_) (fun hb => ?_) <;> try simp only [go_sem, hb, BEq.rfl]) | (with_reducible refine w_split (fun hb => ?_) (fun hb => ?_) <;> try simp only [go_sem, hb, BEq.rfl]) | (with_reducible refine hQ _ _ ?_ <;> simp only [Tryz.f100, go_sem, BEq.rfl]))
  exact hk
theorem c_eqInstrS (xs : List Account) (hn : xs.length ≤ 1000000000) (K : AV → AH → Prop) (hk : K (.one (.c (.bool (true)))) []) : ACalls Tryz.prog 56 [(.one (.im (xs.map accountC))), (.one (.im (xs.map accountC)))] [] K := by
  refine acall_c Tryz.f56.results.toList mixed Tryz.func56 rfl rfl (by kernel_rfl) ?_
  intro Q hQ hQO
  simp only [go_sem, BEq.rfl]
  refine for_at (xs.length) [0, 1] (fun i f h => f 5 = (.one (.c (.int .i64 (i)))) ∧ h = []) (GC.now ?_) ?_
  · simp only [go_sem, nc_0, true_and, BEq.rfl]
  · rintro i f h J hi hA ⟨e5, rfl⟩ hJ
    simp only [go_sem, BEq.rfl] at hA
    simp only [go_sem, hA, e5, BEq.rfl]
    refine c_split (fun hb => ?_) (fun hb => ?_)
    rotate_left
    · simp only [go_sem, hb, hA, e5, BEq.rfl]
      obtain rfl := ge_len hb hi
      (try simp only [go_sem, hA, e5, BEq.rfl]); repeat' (first | (with_reducible refine c_split (fun hb => ?_) (fun hb => ?_) <;> try simp only [go_sem, hb, hA, e5, BEq.rfl]) | (with_reducible refine w_split (fun hb => ?_) (fun hb => ?_) <;> try simp only [go_sem, hb, hA, e5, BEq.rfl]) | (with_reducible refine tw_split (fun hb => ?_) (fun hb => ?_) <;> try simp only [go_sem, hb, hA, e5, BEq.rfl]) | (with_reducible refine draw_at 0 17 (by with_unfolding_all rfl) [(0, true, true), (1, true, true), (2, true, true), (3, true, true), (4, true, false), (5, false, false), (6, false, false), (7, false, false), (8, false, true), (9, false, true)] (by kernel_rfl) ?_ <;> try simp only [go_sem, hA, e5, BEq.rfl]) | (with_reducible refine hQ _ _ ?_ <;> simp only [Tryz.f56, go_sem, hA, e5, BEq.rfl]))
      exact hk
    have hi := lt_len hb
    have hw := wrap_nat i (by omega)
    have hil : (i : Int) < ((xs.length : Nat) : Int) := Int.ofNat_lt.2 hi
    have hg0 : (xs)[i]? = some ((xs)[i]) := List.getElem?_eq_getElem (by omega)
    simp only [go_sem, hb, hA, e5, BEq.rfl, hg0]
    try simp only [go_sem, hA, e5, BEq.rfl, hil, hg0]
    (try simp only [go_sem, hA, e5, BEq.rfl, hil, hg0]); repeat' (first | (with_reducible refine c_split (fun hb => ?_) (fun hb => ?_) <;> try simp only [go_sem, hb, hA, e5, BEq.rfl, hil, hg0]) | (with_reducible refine w_split (fun hb => ?_) (fun hb => ?_) <;> try simp only [go_sem, hb, hA, e5, BEq.rfl, hil, hg0]) | (with_reducible refine tw_split (fun hb => ?_) (fun hb => ?_) <;> try simp only [go_sem, hb, hA, e5, BEq.rfl, hil, hg0]) | (with_reducible refine draw_at 0 17 (by with_unfolding_all rfl) [(0, true, true), (1, true, true), (2, true, true), (3, true, true), (4, true, false), (5, false, false), (6, false, false), (7, false, false), (8, false, true), (9, false, true)] (by kernel_rfl) ?_ <;> try simp only [go_sem, hA, e5, BEq.rfl, hil, hg0]) | (refine call_c (c_eqInstr _ _ ?_) <;> try simp only [go_sem, hA, e5, BEq.rfl, hil, hg0]) | (fail))
    refine GC.now (hJ _ _ hi (by simp only [go_sem, hA, e5, BEq.rfl]) ⟨?_, ?_⟩) <;> try simp only [go_sem, hA, e5, BEq.rfl, hw]
structure Bal where
  account : Int
  instr : Int
  amount : Int
def balC (x : Bal) : List CV := [.c (.int .i64 (x.account)), .c (.int .i64 (x.instr)), .c (.int .i64 (x.amount))]
attribute [local go_sem] balC
theorem balC_len (x : Bal) : (balC x).length = 3 := rfl
theorem balC_cl (x : Bal) : (balC x).all clB = true := by first | rfl | (cases x; rfl)
theorem balC_st (x : Bal) : (balC x).all stB = true := by first | rfl | (cases x; rfl)
theorem balC_clE (xs : List (Bal)) : clE (xs.map balC) = true := clE_map _ _ balC_cl
theorem balC_stL (xs : List (Bal)) : stL (xs.map balC) = true := stL_map _ _ balC_st
theorem balC_ltE (n : Nat) (xs : List (Bal)) : ltE n (xs.map balC) = true := lte_cl _ _ (balC_clE xs)
theorem balC_clz (xs : List (Bal)) : (xs.map balC).map (List.map clz) = xs.map balC := clz_E _ (balC_clE xs)
theorem balC_shV (n : Nat) (xs : List (Bal)) : (xs.map balC).map (List.map (shV n)) = xs.map balC := shV_E _ _ (balC_clE xs)
theorem balC_snoc (xs : List (Bal)) (a0 a1 a2 : Int) : xs.map balC ++ [[.c (.int .i64 (a0)), .c (.int .i64 (a1)), .c (.int .i64 (a2))]] = (xs ++ [(⟨a0, a1, a2⟩ : Bal)]).map balC := by rw [List.map_append]; rfl
theorem balC_set (xs : List (Bal)) (q : Nat) (a0 a1 a2 : Int) : (xs.map balC).set q [.c (.int .i64 (a0)), .c (.int .i64 (a1)), .c (.int .i64 (a2))] = (xs.set q (⟨a0, a1, a2⟩ : Bal)).map balC := by rw [List.map_set]; rfl
theorem balC_rep (q : Nat) (a0 a1 a2 : Int) : List.replicate q [.c (.int .i64 (a0)), .c (.int .i64 (a1)), .c (.int .i64 (a2))] = (List.replicate q (⟨a0, a1, a2⟩ : Bal)).map balC := map_rep _ _ _ _ rfl
theorem balC_tk (xs : List (Bal)) : (xs.map balC).take xs.length = xs.map balC := List.take_of_length_le (by simp)
theorem balC_ks (xs : List (Bal)) : ksB (3) (xs.map balC) = true := by simp [ksB, balC]
theorem balC_fr (xs : List (Bal)) : freeE (xs.map balC) = true := fee_map _ _ (fun x => by first | rfl | (cases x; rfl))
attribute [go_sem] balC_cl balC_st balC_clE balC_stL balC_ltE balC_clz balC_shV balC_snoc balC_ks balC_tk balC_fr balC_set balC_rep
instance : Inhabited Bal := ⟨⟨0, 0, 0⟩⟩
theorem c_toBal (x : Bal) (K : AV → AH → Prop) (hk : K (.agg (balC x)) []) : ACalls Tryz.prog 92 [.agg (balC x)] [] K := by
  refine acall_c Tryz.f92.results.toList mixed Tryz.func92 rfl rfl (by kernel_rfl) ?_
  intro Q hQ hQO
  simp only [go_sem]
  (try simp only [go_sem]); repeat' (first | (with_reducible refine c_split (fun hb => ?_) (fun hb => ?_) <;> try simp only [go_sem, hb]) | (with_reducible refine w_split (fun hb => ?_) (fun hb => ?_) <;> try simp only [go_sem, hb]) | (with_reducible refine hQ _ _ ?_ <;> simp only [Tryz.f92, go_sem]))
  exact hk
theorem c_toBalS (xs : List Bal) (hn : xs.length ≤ 1000000000) (K : AV → AH → Prop) (hk : K (.one (.sl 0 0 0 xs.length)) [.own 0 99 3 (some xs.length) (xs.map balC)]) : ACalls Tryz.prog 49 [(.one (.im (xs.map balC)))] [] K := by
  refine acall_c Tryz.f49.results.toList mixed Tryz.func49 rfl rfl (by kernel_rfl) ?_
  intro Q hQ hQO
  simp only [go_sem]
  refine ⟨by omega, Nat.le_trans hn (by decide), ?_⟩
  refine for_at (xs.length) [0, 3] (fun i f h => f 4 = (.one (.c (.int .i64 (i)))) ∧ h = [.own 0 99 3 (some xs.length) ((fillR (fun j => xs[j]?.getD ⟨0, 0, 0⟩) (List.replicate xs.length ⟨0, 0, 0⟩) i).map balC)]) (GC.now ?_) ?_
  · simp only [go_sem, nc_0, true_and, fill_0]
  · rintro i f h J hi hA ⟨e4, rfl⟩ hJ
    simp only [go_sem, fill_0] at hA
    simp only [go_sem, hA, e4, fill_0]
    refine c_split (fun hb => ?_) (fun hb => ?_)
    rotate_left
    · simp only [go_sem, hb, hA, e4, fill_0]
      obtain rfl := ge_len hb hi
      (try simp only [go_sem, hA, e4, fill_0, fill_copy xs _ _ List.length_replicate]); repeat' (first | (with_reducible refine c_split (fun hb => ?_) (fun hb => ?_) <;> try simp only [go_sem, hb, hA, e4, fill_0, fill_copy xs _ _ List.length_replicate]) | (with_reducible refine w_split (fun hb => ?_) (fun hb => ?_) <;> try simp only [go_sem, hb, hA, e4, fill_0, fill_copy xs _ _ List.length_replicate]) | (fail))
      refine hQO [0] _ _ (GC.now ?_) <;> simp only [Tryz.f49, go_sem, List.nodup_cons, List.nodup_nil, List.mem_cons, List.not_mem_nil, or_false, not_false_eq_true, List.idxOf?_cons, List.idxOf?_nil, Option.map_none]
      exact hk
    have hi := lt_len hb
    have hw := wrap_nat i (by omega)
    have hil : (i : Int) < ((xs.length : Nat) : Int) := Int.ofNat_lt.2 hi
    have hg0 : (xs)[i]? = some ((xs)[i]) := List.getElem?_eq_getElem (by omega)
    simp only [go_sem, hb, hA, e4, fill_0, hg0]
    try simp only [go_sem, hA, e4, fill_0, hil, hg0]
    have hold := fill_get (fun j => xs[j]?.getD (⟨0, 0, 0⟩ : Bal)) (List.replicate xs.length ⟨0, 0, 0⟩) i
    rw [List.getElem?_replicate, if_pos hi] at hold
    have hset := fill_set (fun j => xs[j]?.getD (⟨0, 0, 0⟩ : Bal)) (List.replicate xs.length ⟨0, 0, 0⟩) i (by simpa using hi) xs[i] (by rw [hg0]; rfl)
    (try simp only [go_sem, hA, e4, fill_0, hil, hg0, hold]); repeat' (first | (with_reducible refine c_split (fun hb => ?_) (fun hb => ?_) <;> try simp only [go_sem, hb, hA, e4, fill_0, hil, hg0, hold]) | (with_reducible refine w_split (fun hb => ?_) (fun hb => ?_) <;> try simp only [go_sem, hb, hA, e4, fill_0, hil, hg0, hold]) | (refine call_c (c_toBal _ _ ?_) <;> try simp only [go_sem, hA, e4, fill_0, hil, hg0, hold]) | (fail))
    refine gc_trim 1 (by decide) (by simp only [go_sem]) (by simp only [go_sem]) (hJ _ _ hi (by simp only [go_sem, hA, e4, fill_0]) ⟨?_, ?_⟩) <;> try simp only [go_sem, hA, e4, fill_0, hw, hset]
theorem c_szBalS (xs : List Bal) (left : Int) (hn : xs.length ≤ 1000000000000000) (h0 : 0 ≤ left) (h1 : left ≤ 1048576) (K : AV → AH → Prop) (hk : ∀ r, (0 ≤ r → r = left - xs.length) → K (.one (.c (.int .i64 (r)))) []) : ACalls Tryz.prog 41 [(.one (.im (xs.map balC))), (.one (.c (.int .i64 (left))))] [] K := by
  refine acall_c Tryz.f41.results.toList mixed Tryz.func41 rfl rfl (by kernel_rfl) ?_
  intro Q hQ hQO
  simp only [go_sem]
  (try simp only [go_sem]); repeat' (first | (with_reducible refine c_split (fun hb => ?_) (fun hb => ?_) <;> try simp only [go_sem, hb]) | (with_reducible refine w_split (fun hb => ?_) (fun hb => ?_) <;> try simp only [go_sem, hb]) | (with_reducible refine hQ _ _ ?_ <;> simp only [Tryz.f41, go_sem]))
  · exact hk _ (by intro q; omega)
  · exact hk _ (by intro q; unfold wrap64; omega)
theorem c_eqBal (x : Bal) (K : AV → AH → Prop) (hk : K (.one (.c (.bool (true)))) []) : ACalls Tryz.prog 101 [.agg (balC x), .agg (balC x)] [] K := by
  refine acall_c Tryz.f101.results.toList mixed Tryz.func101 rfl rfl (by kernel_rfl) ?_
  intro Q hQ hQO
  simp only [go_sem, BEq.rfl]
  (try simp only [go_sem, BEq.rfl]); repeat' (first | (with_reducible refine c_split (fun hb => ?_) (fun hb => ?_) <;> try simp only [go_sem, hb, BEq.rfl]) | (with_reducible refine w_split (fun hb => ?_) (fun hb => ?_) <;> try simp only [go_sem, hb, BEq.rfl]) | (with_reducible refine hQ _ _ ?_ <;> simp only [Tryz.f101, go_sem, BEq.rfl]))
  exact hk
theorem c_eqBalS (xs : List Bal) (hn : xs.length ≤ 1000000000) (K : AV → AH → Prop) (hk : K (.one (.c (.bool (true)))) []) : ACalls Tryz.prog 57 [(.one (.im (xs.map balC))), (.one (.im (xs.map balC)))] [] K := by
  refine acall_c Tryz.f57.results.toList mixed Tryz.func57 rfl rfl (by kernel_rfl) ?_
  intro Q hQ hQO
  simp only [go_sem, BEq.rfl]
  refine for_at (xs.length) [0, 1] (fun i f h => f 5 = (.one (.c (.int .i64 (i)))) ∧ h = []) (GC.now ?_) ?_
  · simp only [go_sem, nc_0, true_and, BEq.rfl]
  · rintro i f h J hi hA ⟨e5, rfl⟩ hJ
    simp only [go_sem, BEq.rfl] at hA
    simp only [go_sem, hA, e5, BEq.rfl]
    refine c_split (fun hb => ?_) (fun hb => ?_)
    rotate_left
    · simp only [go_sem, hb, hA, e5, BEq.rfl]
      obtain rfl := ge_len hb hi
      (try simp only [go_sem, hA, e5, BEq.rfl]); repeat' (first | (with_reducible refine c_split (fun hb => ?_) (fun hb => ?_) <;> try simp only [go_sem, hb, hA, e5, BEq.rfl]) | (with_reducible refine w_split (fun hb => ?_) (fun hb => ?_) <;> try simp only [go_sem, hb, hA, e5, BEq.rfl]) | (with_reducible refine tw_split (fun hb => ?_) (fun hb => ?_) <;> try simp only [go_sem, hb, hA, e5, BEq.rfl]) | (with_reducible refine draw_at 0 17 (by with_unfolding_all rfl) [(0, true, true), (1, true, true), (2, true, true), (3, true, true), (4, true, false), (5, false, false), (6, false, false), (7, false, false), (8, false, true), (9, false, true)] (by kernel_rfl) ?_ <;> try simp only [go_sem, hA, e5, BEq.rfl]) | (with_reducible refine hQ _ _ ?_ <;> simp only [Tryz.f57, go_sem, hA, e5, BEq.rfl]))
      exact hk
    have hi := lt_len hb
    have hw := wrap_nat i (by omega)
    have hil : (i : Int) < ((xs.length : Nat) : Int) := Int.ofNat_lt.2 hi
    have hg0 : (xs)[i]? = some ((xs)[i]) := List.getElem?_eq_getElem (by omega)
    simp only [go_sem, hb, hA, e5, BEq.rfl, hg0]
    try simp only [go_sem, hA, e5, BEq.rfl, hil, hg0]
    (try simp only [go_sem, hA, e5, BEq.rfl, hil, hg0]); repeat' (first | (with_reducible refine c_split (fun hb => ?_) (fun hb => ?_) <;> try simp only [go_sem, hb, hA, e5, BEq.rfl, hil, hg0]) | (with_reducible refine w_split (fun hb => ?_) (fun hb => ?_) <;> try simp only [go_sem, hb, hA, e5, BEq.rfl, hil, hg0]) | (with_reducible refine tw_split (fun hb => ?_) (fun hb => ?_) <;> try simp only [go_sem, hb, hA, e5, BEq.rfl, hil, hg0]) | (with_reducible refine draw_at 0 17 (by with_unfolding_all rfl) [(0, true, true), (1, true, true), (2, true, true), (3, true, true), (4, true, false), (5, false, false), (6, false, false), (7, false, false), (8, false, true), (9, false, true)] (by kernel_rfl) ?_ <;> try simp only [go_sem, hA, e5, BEq.rfl, hil, hg0]) | (refine call_c (c_eqBal _ _ ?_) <;> try simp only [go_sem, hA, e5, BEq.rfl, hil, hg0]) | (fail))
    refine GC.now (hJ _ _ hi (by simp only [go_sem, hA, e5, BEq.rfl]) ⟨?_, ?_⟩) <;> try simp only [go_sem, hA, e5, BEq.rfl, hw]
structure Lot where
  account : Int
  instr : Int
  no : Int
  qty : Int
  cost : Int
def lotC (x : Lot) : List CV := [.c (.int .i64 (x.account)), .c (.int .i64 (x.instr)), .c (.int .i64 (x.no)), .c (.int .i64 (x.qty)), .c (.int .i64 (x.cost))]
attribute [local go_sem] lotC
theorem lotC_len (x : Lot) : (lotC x).length = 5 := rfl
theorem lotC_cl (x : Lot) : (lotC x).all clB = true := by first | rfl | (cases x; rfl)
theorem lotC_st (x : Lot) : (lotC x).all stB = true := by first | rfl | (cases x; rfl)
theorem lotC_clE (xs : List (Lot)) : clE (xs.map lotC) = true := clE_map _ _ lotC_cl
theorem lotC_stL (xs : List (Lot)) : stL (xs.map lotC) = true := stL_map _ _ lotC_st
theorem lotC_ltE (n : Nat) (xs : List (Lot)) : ltE n (xs.map lotC) = true := lte_cl _ _ (lotC_clE xs)
theorem lotC_clz (xs : List (Lot)) : (xs.map lotC).map (List.map clz) = xs.map lotC := clz_E _ (lotC_clE xs)
theorem lotC_shV (n : Nat) (xs : List (Lot)) : (xs.map lotC).map (List.map (shV n)) = xs.map lotC := shV_E _ _ (lotC_clE xs)
theorem lotC_snoc (xs : List (Lot)) (a0 a1 a2 a3 a4 : Int) : xs.map lotC ++ [[.c (.int .i64 (a0)), .c (.int .i64 (a1)), .c (.int .i64 (a2)), .c (.int .i64 (a3)), .c (.int .i64 (a4))]] = (xs ++ [(⟨a0, a1, a2, a3, a4⟩ : Lot)]).map lotC := by rw [List.map_append]; rfl
theorem lotC_set (xs : List (Lot)) (q : Nat) (a0 a1 a2 a3 a4 : Int) : (xs.map lotC).set q [.c (.int .i64 (a0)), .c (.int .i64 (a1)), .c (.int .i64 (a2)), .c (.int .i64 (a3)), .c (.int .i64 (a4))] = (xs.set q (⟨a0, a1, a2, a3, a4⟩ : Lot)).map lotC := by rw [List.map_set]; rfl
theorem lotC_rep (q : Nat) (a0 a1 a2 a3 a4 : Int) : List.replicate q [.c (.int .i64 (a0)), .c (.int .i64 (a1)), .c (.int .i64 (a2)), .c (.int .i64 (a3)), .c (.int .i64 (a4))] = (List.replicate q (⟨a0, a1, a2, a3, a4⟩ : Lot)).map lotC := map_rep _ _ _ _ rfl
theorem lotC_tk (xs : List (Lot)) : (xs.map lotC).take xs.length = xs.map lotC := List.take_of_length_le (by simp)
theorem lotC_ks (xs : List (Lot)) : ksB (5) (xs.map lotC) = true := by simp [ksB, lotC]
theorem lotC_fr (xs : List (Lot)) : freeE (xs.map lotC) = true := fee_map _ _ (fun x => by first | rfl | (cases x; rfl))
attribute [go_sem] lotC_cl lotC_st lotC_clE lotC_stL lotC_ltE lotC_clz lotC_shV lotC_snoc lotC_ks lotC_tk lotC_fr lotC_set lotC_rep
instance : Inhabited Lot := ⟨⟨0, 0, 0, 0, 0⟩⟩
theorem c_toLot (x : Lot) (K : AV → AH → Prop) (hk : K (.agg (lotC x)) []) : ACalls Tryz.prog 93 [.agg (lotC x)] [] K := by
  refine acall_c Tryz.f93.results.toList mixed Tryz.func93 rfl rfl (by kernel_rfl) ?_
  intro Q hQ hQO
  simp only [go_sem]
  (try simp only [go_sem]); repeat' (first | (with_reducible refine c_split (fun hb => ?_) (fun hb => ?_) <;> try simp only [go_sem, hb]) | (with_reducible refine w_split (fun hb => ?_) (fun hb => ?_) <;> try simp only [go_sem, hb]) | (with_reducible refine hQ _ _ ?_ <;> simp only [Tryz.f93, go_sem]))
  exact hk
theorem c_toLotS (xs : List Lot) (hn : xs.length ≤ 1000000000) (K : AV → AH → Prop) (hk : K (.one (.sl 0 0 0 xs.length)) [.own 0 101 5 (some xs.length) (xs.map lotC)]) : ACalls Tryz.prog 50 [(.one (.im (xs.map lotC)))] [] K := by
  refine acall_c Tryz.f50.results.toList mixed Tryz.func50 rfl rfl (by kernel_rfl) ?_
  intro Q hQ hQO
  simp only [go_sem]
  refine ⟨by omega, Nat.le_trans hn (by decide), ?_⟩
  refine for_at (xs.length) [0, 3] (fun i f h => f 4 = (.one (.c (.int .i64 (i)))) ∧ h = [.own 0 101 5 (some xs.length) ((fillR (fun j => xs[j]?.getD ⟨0, 0, 0, 0, 0⟩) (List.replicate xs.length ⟨0, 0, 0, 0, 0⟩) i).map lotC)]) (GC.now ?_) ?_
  · simp only [go_sem, nc_0, true_and, fill_0]
  · rintro i f h J hi hA ⟨e4, rfl⟩ hJ
    simp only [go_sem, fill_0] at hA
    simp only [go_sem, hA, e4, fill_0]
    refine c_split (fun hb => ?_) (fun hb => ?_)
    rotate_left
    · simp only [go_sem, hb, hA, e4, fill_0]
      obtain rfl := ge_len hb hi
      (try simp only [go_sem, hA, e4, fill_0, fill_copy xs _ _ List.length_replicate]); repeat' (first | (with_reducible refine c_split (fun hb => ?_) (fun hb => ?_) <;> try simp only [go_sem, hb, hA, e4, fill_0, fill_copy xs _ _ List.length_replicate]) | (with_reducible refine w_split (fun hb => ?_) (fun hb => ?_) <;> try simp only [go_sem, hb, hA, e4, fill_0, fill_copy xs _ _ List.length_replicate]) | (fail))
      refine hQO [0] _ _ (GC.now ?_) <;> simp only [Tryz.f50, go_sem, List.nodup_cons, List.nodup_nil, List.mem_cons, List.not_mem_nil, or_false, not_false_eq_true, List.idxOf?_cons, List.idxOf?_nil, Option.map_none]
      exact hk
    have hi := lt_len hb
    have hw := wrap_nat i (by omega)
    have hil : (i : Int) < ((xs.length : Nat) : Int) := Int.ofNat_lt.2 hi
    have hg0 : (xs)[i]? = some ((xs)[i]) := List.getElem?_eq_getElem (by omega)
    simp only [go_sem, hb, hA, e4, fill_0, hg0]
    try simp only [go_sem, hA, e4, fill_0, hil, hg0]
    have hold := fill_get (fun j => xs[j]?.getD (⟨0, 0, 0, 0, 0⟩ : Lot)) (List.replicate xs.length ⟨0, 0, 0, 0, 0⟩) i
    rw [List.getElem?_replicate, if_pos hi] at hold
    have hset := fill_set (fun j => xs[j]?.getD (⟨0, 0, 0, 0, 0⟩ : Lot)) (List.replicate xs.length ⟨0, 0, 0, 0, 0⟩) i (by simpa using hi) xs[i] (by rw [hg0]; rfl)
    (try simp only [go_sem, hA, e4, fill_0, hil, hg0, hold]); repeat' (first | (with_reducible refine c_split (fun hb => ?_) (fun hb => ?_) <;> try simp only [go_sem, hb, hA, e4, fill_0, hil, hg0, hold]) | (with_reducible refine w_split (fun hb => ?_) (fun hb => ?_) <;> try simp only [go_sem, hb, hA, e4, fill_0, hil, hg0, hold]) | (refine call_c (c_toLot _ _ ?_) <;> try simp only [go_sem, hA, e4, fill_0, hil, hg0, hold]) | (fail))
    refine gc_trim 1 (by decide) (by simp only [go_sem]) (by simp only [go_sem]) (hJ _ _ hi (by simp only [go_sem, hA, e4, fill_0]) ⟨?_, ?_⟩) <;> try simp only [go_sem, hA, e4, fill_0, hw, hset]
theorem c_szLotS (xs : List Lot) (left : Int) (hn : xs.length ≤ 1000000000000000) (h0 : 0 ≤ left) (h1 : left ≤ 1048576) (K : AV → AH → Prop) (hk : ∀ r, (0 ≤ r → r = left - xs.length) → K (.one (.c (.int .i64 (r)))) []) : ACalls Tryz.prog 42 [(.one (.im (xs.map lotC))), (.one (.c (.int .i64 (left))))] [] K := by
  refine acall_c Tryz.f42.results.toList mixed Tryz.func42 rfl rfl (by kernel_rfl) ?_
  intro Q hQ hQO
  simp only [go_sem]
  (try simp only [go_sem]); repeat' (first | (with_reducible refine c_split (fun hb => ?_) (fun hb => ?_) <;> try simp only [go_sem, hb]) | (with_reducible refine w_split (fun hb => ?_) (fun hb => ?_) <;> try simp only [go_sem, hb]) | (with_reducible refine hQ _ _ ?_ <;> simp only [Tryz.f42, go_sem]))
  · exact hk _ (by intro q; omega)
  · exact hk _ (by intro q; unfold wrap64; omega)
theorem c_eqLot (x : Lot) (K : AV → AH → Prop) (hk : K (.one (.c (.bool (true)))) []) : ACalls Tryz.prog 102 [.agg (lotC x), .agg (lotC x)] [] K := by
  refine acall_c Tryz.f102.results.toList mixed Tryz.func102 rfl rfl (by kernel_rfl) ?_
  intro Q hQ hQO
  simp only [go_sem, BEq.rfl]
  (try simp only [go_sem, BEq.rfl]); repeat' (first | (with_reducible refine c_split (fun hb => ?_) (fun hb => ?_) <;> try simp only [go_sem, hb, BEq.rfl]) | (with_reducible refine w_split (fun hb => ?_) (fun hb => ?_) <;> try simp only [go_sem, hb, BEq.rfl]) | (with_reducible refine hQ _ _ ?_ <;> simp only [Tryz.f102, go_sem, BEq.rfl]))
  exact hk
theorem c_eqLotS (xs : List Lot) (hn : xs.length ≤ 1000000000) (K : AV → AH → Prop) (hk : K (.one (.c (.bool (true)))) []) : ACalls Tryz.prog 58 [(.one (.im (xs.map lotC))), (.one (.im (xs.map lotC)))] [] K := by
  refine acall_c Tryz.f58.results.toList mixed Tryz.func58 rfl rfl (by kernel_rfl) ?_
  intro Q hQ hQO
  simp only [go_sem, BEq.rfl]
  refine for_at (xs.length) [0, 1] (fun i f h => f 5 = (.one (.c (.int .i64 (i)))) ∧ h = []) (GC.now ?_) ?_
  · simp only [go_sem, nc_0, true_and, BEq.rfl]
  · rintro i f h J hi hA ⟨e5, rfl⟩ hJ
    simp only [go_sem, BEq.rfl] at hA
    simp only [go_sem, hA, e5, BEq.rfl]
    refine c_split (fun hb => ?_) (fun hb => ?_)
    rotate_left
    · simp only [go_sem, hb, hA, e5, BEq.rfl]
      obtain rfl := ge_len hb hi
      (try simp only [go_sem, hA, e5, BEq.rfl]); repeat' (first | (with_reducible refine c_split (fun hb => ?_) (fun hb => ?_) <;> try simp only [go_sem, hb, hA, e5, BEq.rfl]) | (with_reducible refine w_split (fun hb => ?_) (fun hb => ?_) <;> try simp only [go_sem, hb, hA, e5, BEq.rfl]) | (with_reducible refine tw_split (fun hb => ?_) (fun hb => ?_) <;> try simp only [go_sem, hb, hA, e5, BEq.rfl]) | (with_reducible refine draw_at 0 17 (by with_unfolding_all rfl) [(0, true, true), (1, true, true), (2, true, true), (3, true, true), (4, true, false), (5, false, false), (6, false, false), (7, false, false), (8, false, true), (9, false, true)] (by kernel_rfl) ?_ <;> try simp only [go_sem, hA, e5, BEq.rfl]) | (with_reducible refine hQ _ _ ?_ <;> simp only [Tryz.f58, go_sem, hA, e5, BEq.rfl]))
      exact hk
    have hi := lt_len hb
    have hw := wrap_nat i (by omega)
    have hil : (i : Int) < ((xs.length : Nat) : Int) := Int.ofNat_lt.2 hi
    have hg0 : (xs)[i]? = some ((xs)[i]) := List.getElem?_eq_getElem (by omega)
    simp only [go_sem, hb, hA, e5, BEq.rfl, hg0]
    try simp only [go_sem, hA, e5, BEq.rfl, hil, hg0]
    (try simp only [go_sem, hA, e5, BEq.rfl, hil, hg0]); repeat' (first | (with_reducible refine c_split (fun hb => ?_) (fun hb => ?_) <;> try simp only [go_sem, hb, hA, e5, BEq.rfl, hil, hg0]) | (with_reducible refine w_split (fun hb => ?_) (fun hb => ?_) <;> try simp only [go_sem, hb, hA, e5, BEq.rfl, hil, hg0]) | (with_reducible refine tw_split (fun hb => ?_) (fun hb => ?_) <;> try simp only [go_sem, hb, hA, e5, BEq.rfl, hil, hg0]) | (with_reducible refine draw_at 0 17 (by with_unfolding_all rfl) [(0, true, true), (1, true, true), (2, true, true), (3, true, true), (4, true, false), (5, false, false), (6, false, false), (7, false, false), (8, false, true), (9, false, true)] (by kernel_rfl) ?_ <;> try simp only [go_sem, hA, e5, BEq.rfl, hil, hg0]) | (refine call_c (c_eqLot _ _ ?_) <;> try simp only [go_sem, hA, e5, BEq.rfl, hil, hg0]) | (fail))
    refine GC.now (hJ _ _ hi (by simp only [go_sem, hA, e5, BEq.rfl]) ⟨?_, ?_⟩) <;> try simp only [go_sem, hA, e5, BEq.rfl, hw]
structure Trade where
  no : Int
  buyer : Int
  seller : Int
  paper : Int
  qty : Int
  cash : Int
  price : Int
  state : Int
def tradeC (x : Trade) : List CV := [.c (.int .i64 (x.no)), .c (.int .i64 (x.buyer)), .c (.int .i64 (x.seller)), .c (.int .i64 (x.paper)), .c (.int .i64 (x.qty)), .c (.int .i64 (x.cash)), .c (.int .i64 (x.price)), .c (.int .i64 (x.state))]
attribute [local go_sem] tradeC
theorem tradeC_len (x : Trade) : (tradeC x).length = 8 := rfl
theorem tradeC_cl (x : Trade) : (tradeC x).all clB = true := by first | rfl | (cases x; rfl)
theorem tradeC_st (x : Trade) : (tradeC x).all stB = true := by first | rfl | (cases x; rfl)
theorem tradeC_clE (xs : List (Trade)) : clE (xs.map tradeC) = true := clE_map _ _ tradeC_cl
theorem tradeC_stL (xs : List (Trade)) : stL (xs.map tradeC) = true := stL_map _ _ tradeC_st
theorem tradeC_ltE (n : Nat) (xs : List (Trade)) : ltE n (xs.map tradeC) = true := lte_cl _ _ (tradeC_clE xs)
theorem tradeC_clz (xs : List (Trade)) : (xs.map tradeC).map (List.map clz) = xs.map tradeC := clz_E _ (tradeC_clE xs)
theorem tradeC_shV (n : Nat) (xs : List (Trade)) : (xs.map tradeC).map (List.map (shV n)) = xs.map tradeC := shV_E _ _ (tradeC_clE xs)
theorem tradeC_snoc (xs : List (Trade)) (a0 a1 a2 a3 a4 a5 a6 a7 : Int) : xs.map tradeC ++ [[.c (.int .i64 (a0)), .c (.int .i64 (a1)), .c (.int .i64 (a2)), .c (.int .i64 (a3)), .c (.int .i64 (a4)), .c (.int .i64 (a5)), .c (.int .i64 (a6)), .c (.int .i64 (a7))]] = (xs ++ [(⟨a0, a1, a2, a3, a4, a5, a6, a7⟩ : Trade)]).map tradeC := by rw [List.map_append]; rfl
theorem tradeC_set (xs : List (Trade)) (q : Nat) (a0 a1 a2 a3 a4 a5 a6 a7 : Int) : (xs.map tradeC).set q [.c (.int .i64 (a0)), .c (.int .i64 (a1)), .c (.int .i64 (a2)), .c (.int .i64 (a3)), .c (.int .i64 (a4)), .c (.int .i64 (a5)), .c (.int .i64 (a6)), .c (.int .i64 (a7))] = (xs.set q (⟨a0, a1, a2, a3, a4, a5, a6, a7⟩ : Trade)).map tradeC := by rw [List.map_set]; rfl
theorem tradeC_rep (q : Nat) (a0 a1 a2 a3 a4 a5 a6 a7 : Int) : List.replicate q [.c (.int .i64 (a0)), .c (.int .i64 (a1)), .c (.int .i64 (a2)), .c (.int .i64 (a3)), .c (.int .i64 (a4)), .c (.int .i64 (a5)), .c (.int .i64 (a6)), .c (.int .i64 (a7))] = (List.replicate q (⟨a0, a1, a2, a3, a4, a5, a6, a7⟩ : Trade)).map tradeC := map_rep _ _ _ _ rfl
theorem tradeC_tk (xs : List (Trade)) : (xs.map tradeC).take xs.length = xs.map tradeC := List.take_of_length_le (by simp)
theorem tradeC_ks (xs : List (Trade)) : ksB (8) (xs.map tradeC) = true := by simp [ksB, tradeC]
theorem tradeC_fr (xs : List (Trade)) : freeE (xs.map tradeC) = true := fee_map _ _ (fun x => by first | rfl | (cases x; rfl))
attribute [go_sem] tradeC_cl tradeC_st tradeC_clE tradeC_stL tradeC_ltE tradeC_clz tradeC_shV tradeC_snoc tradeC_ks tradeC_tk tradeC_fr tradeC_set tradeC_rep
instance : Inhabited Trade := ⟨⟨0, 0, 0, 0, 0, 0, 0, 0⟩⟩
theorem c_toTrade (x : Trade) (K : AV → AH → Prop) (hk : K (.agg (tradeC x)) []) : ACalls Tryz.prog 94 [.agg (tradeC x)] [] K := by
  refine acall_c Tryz.f94.results.toList mixed Tryz.func94 rfl rfl (by kernel_rfl) ?_
  intro Q hQ hQO
  simp only [go_sem]
  (try simp only [go_sem]); repeat' (first | (with_reducible refine c_split (fun hb => ?_) (fun hb => ?_) <;> try simp only [go_sem, hb]) | (with_reducible refine w_split (fun hb => ?_) (fun hb => ?_) <;> try simp only [go_sem, hb]) | (with_reducible refine hQ _ _ ?_ <;> simp only [Tryz.f94, go_sem]))
  exact hk
theorem c_toTradeS (xs : List Trade) (hn : xs.length ≤ 1000000000) (K : AV → AH → Prop) (hk : K (.one (.sl 0 0 0 xs.length)) [.own 0 103 8 (some xs.length) (xs.map tradeC)]) : ACalls Tryz.prog 51 [(.one (.im (xs.map tradeC)))] [] K := by
  refine acall_c Tryz.f51.results.toList mixed Tryz.func51 rfl rfl (by kernel_rfl) ?_
  intro Q hQ hQO
  simp only [go_sem]
  refine ⟨by omega, Nat.le_trans hn (by decide), ?_⟩
  refine for_at (xs.length) [0, 3] (fun i f h => f 4 = (.one (.c (.int .i64 (i)))) ∧ h = [.own 0 103 8 (some xs.length) ((fillR (fun j => xs[j]?.getD ⟨0, 0, 0, 0, 0, 0, 0, 0⟩) (List.replicate xs.length ⟨0, 0, 0, 0, 0, 0, 0, 0⟩) i).map tradeC)]) (GC.now ?_) ?_
  · simp only [go_sem, nc_0, true_and, fill_0]
  · rintro i f h J hi hA ⟨e4, rfl⟩ hJ
    simp only [go_sem, fill_0] at hA
    simp only [go_sem, hA, e4, fill_0]
    refine c_split (fun hb => ?_) (fun hb => ?_)
    rotate_left
    · simp only [go_sem, hb, hA, e4, fill_0]
      obtain rfl := ge_len hb hi
      (try simp only [go_sem, hA, e4, fill_0, fill_copy xs _ _ List.length_replicate]); repeat' (first | (with_reducible refine c_split (fun hb => ?_) (fun hb => ?_) <;> try simp only [go_sem, hb, hA, e4, fill_0, fill_copy xs _ _ List.length_replicate]) | (with_reducible refine w_split (fun hb => ?_) (fun hb => ?_) <;> try simp only [go_sem, hb, hA, e4, fill_0, fill_copy xs _ _ List.length_replicate]) | (fail))
      refine hQO [0] _ _ (GC.now ?_) <;> simp only [Tryz.f51, go_sem, List.nodup_cons, List.nodup_nil, List.mem_cons, List.not_mem_nil, or_false, not_false_eq_true, List.idxOf?_cons, List.idxOf?_nil, Option.map_none]
      exact hk
    have hi := lt_len hb
    have hw := wrap_nat i (by omega)
    have hil : (i : Int) < ((xs.length : Nat) : Int) := Int.ofNat_lt.2 hi
    have hg0 : (xs)[i]? = some ((xs)[i]) := List.getElem?_eq_getElem (by omega)
    simp only [go_sem, hb, hA, e4, fill_0, hg0]
    try simp only [go_sem, hA, e4, fill_0, hil, hg0]
    have hold := fill_get (fun j => xs[j]?.getD (⟨0, 0, 0, 0, 0, 0, 0, 0⟩ : Trade)) (List.replicate xs.length ⟨0, 0, 0, 0, 0, 0, 0, 0⟩) i
    rw [List.getElem?_replicate, if_pos hi] at hold
    have hset := fill_set (fun j => xs[j]?.getD (⟨0, 0, 0, 0, 0, 0, 0, 0⟩ : Trade)) (List.replicate xs.length ⟨0, 0, 0, 0, 0, 0, 0, 0⟩) i (by simpa using hi) xs[i] (by rw [hg0]; rfl)
    (try simp only [go_sem, hA, e4, fill_0, hil, hg0, hold]); repeat' (first | (with_reducible refine c_split (fun hb => ?_) (fun hb => ?_) <;> try simp only [go_sem, hb, hA, e4, fill_0, hil, hg0, hold]) | (with_reducible refine w_split (fun hb => ?_) (fun hb => ?_) <;> try simp only [go_sem, hb, hA, e4, fill_0, hil, hg0, hold]) | (refine call_c (c_toTrade _ _ ?_) <;> try simp only [go_sem, hA, e4, fill_0, hil, hg0, hold]) | (fail))
    refine gc_trim 1 (by decide) (by simp only [go_sem]) (by simp only [go_sem]) (hJ _ _ hi (by simp only [go_sem, hA, e4, fill_0]) ⟨?_, ?_⟩) <;> try simp only [go_sem, hA, e4, fill_0, hw, hset]
theorem c_szTradeS (xs : List Trade) (left : Int) (hn : xs.length ≤ 1000000000000000) (h0 : 0 ≤ left) (h1 : left ≤ 1048576) (K : AV → AH → Prop) (hk : ∀ r, (0 ≤ r → r = left - xs.length) → K (.one (.c (.int .i64 (r)))) []) : ACalls Tryz.prog 43 [(.one (.im (xs.map tradeC))), (.one (.c (.int .i64 (left))))] [] K := by
  refine acall_c Tryz.f43.results.toList mixed Tryz.func43 rfl rfl (by kernel_rfl) ?_
  intro Q hQ hQO
  simp only [go_sem]
  (try simp only [go_sem]); repeat' (first | (with_reducible refine c_split (fun hb => ?_) (fun hb => ?_) <;> try simp only [go_sem, hb]) | (with_reducible refine w_split (fun hb => ?_) (fun hb => ?_) <;> try simp only [go_sem, hb]) | (with_reducible refine hQ _ _ ?_ <;> simp only [Tryz.f43, go_sem]))
  · exact hk _ (by intro q; omega)
  · exact hk _ (by intro q; unfold wrap64; omega)
theorem c_eqTrade (x : Trade) (K : AV → AH → Prop) (hk : K (.one (.c (.bool (true)))) []) : ACalls Tryz.prog 103 [.agg (tradeC x), .agg (tradeC x)] [] K := by
  refine acall_c Tryz.f103.results.toList mixed Tryz.func103 rfl rfl (by kernel_rfl) ?_
  intro Q hQ hQO
  simp only [go_sem, BEq.rfl]
  (try simp only [go_sem, BEq.rfl]); repeat' (first | (with_reducible refine c_split (fun hb => ?_) (fun hb => ?_) <;> try simp only [go_sem, hb, BEq.rfl]) | (with_reducible refine w_split (fun hb => ?_) (fun hb => ?_) <;> try simp only [go_sem, hb, BEq.rfl]) | (with_reducible refine hQ _ _ ?_ <;> simp only [Tryz.f103, go_sem, BEq.rfl]))
  exact hk
theorem c_eqTradeS (xs : List Trade) (hn : xs.length ≤ 1000000000) (K : AV → AH → Prop) (hk : K (.one (.c (.bool (true)))) []) : ACalls Tryz.prog 59 [(.one (.im (xs.map tradeC))), (.one (.im (xs.map tradeC)))] [] K := by
  refine acall_c Tryz.f59.results.toList mixed Tryz.func59 rfl rfl (by kernel_rfl) ?_
  intro Q hQ hQO
  simp only [go_sem, BEq.rfl]
  refine for_at (xs.length) [0, 1] (fun i f h => f 5 = (.one (.c (.int .i64 (i)))) ∧ h = []) (GC.now ?_) ?_
  · simp only [go_sem, nc_0, true_and, BEq.rfl]
  · rintro i f h J hi hA ⟨e5, rfl⟩ hJ
    simp only [go_sem, BEq.rfl] at hA
    simp only [go_sem, hA, e5, BEq.rfl]
    refine c_split (fun hb => ?_) (fun hb => ?_)
    rotate_left
    · simp only [go_sem, hb, hA, e5, BEq.rfl]
      obtain rfl := ge_len hb hi
      (try simp only [go_sem, hA, e5, BEq.rfl]); repeat' (first | (with_reducible refine c_split (fun hb => ?_) (fun hb => ?_) <;> try simp only [go_sem, hb, hA, e5, BEq.rfl]) | (with_reducible refine w_split (fun hb => ?_) (fun hb => ?_) <;> try simp only [go_sem, hb, hA, e5, BEq.rfl]) | (with_reducible refine tw_split (fun hb => ?_) (fun hb => ?_) <;> try simp only [go_sem, hb, hA, e5, BEq.rfl]) | (with_reducible refine draw_at 0 17 (by with_unfolding_all rfl) [(0, true, true), (1, true, true), (2, true, true), (3, true, true), (4, true, false), (5, false, false), (6, false, false), (7, false, false), (8, false, true), (9, false, true)] (by kernel_rfl) ?_ <;> try simp only [go_sem, hA, e5, BEq.rfl]) | (with_reducible refine hQ _ _ ?_ <;> simp only [Tryz.f59, go_sem, hA, e5, BEq.rfl]))
      exact hk
    have hi := lt_len hb
    have hw := wrap_nat i (by omega)
    have hil : (i : Int) < ((xs.length : Nat) : Int) := Int.ofNat_lt.2 hi
    have hg0 : (xs)[i]? = some ((xs)[i]) := List.getElem?_eq_getElem (by omega)
    simp only [go_sem, hb, hA, e5, BEq.rfl, hg0]
    try simp only [go_sem, hA, e5, BEq.rfl, hil, hg0]
    (try simp only [go_sem, hA, e5, BEq.rfl, hil, hg0]); repeat' (first | (with_reducible refine c_split (fun hb => ?_) (fun hb => ?_) <;> try simp only [go_sem, hb, hA, e5, BEq.rfl, hil, hg0]) | (with_reducible refine w_split (fun hb => ?_) (fun hb => ?_) <;> try simp only [go_sem, hb, hA, e5, BEq.rfl, hil, hg0]) | (with_reducible refine tw_split (fun hb => ?_) (fun hb => ?_) <;> try simp only [go_sem, hb, hA, e5, BEq.rfl, hil, hg0]) | (with_reducible refine draw_at 0 17 (by with_unfolding_all rfl) [(0, true, true), (1, true, true), (2, true, true), (3, true, true), (4, true, false), (5, false, false), (6, false, false), (7, false, false), (8, false, true), (9, false, true)] (by kernel_rfl) ?_ <;> try simp only [go_sem, hA, e5, BEq.rfl, hil, hg0]) | (refine call_c (c_eqTrade _ _ ?_) <;> try simp only [go_sem, hA, e5, BEq.rfl, hil, hg0]) | (fail))
    refine GC.now (hJ _ _ hi (by simp only [go_sem, hA, e5, BEq.rfl]) ⟨?_, ?_⟩) <;> try simp only [go_sem, hA, e5, BEq.rfl, hw]
structure Books where
  accounts : List Account
  instrs : List Account
  bals : List Bal
  lots : List Lot
  trades : List Trade
  lot : Int
def booksC (b : Books) : List CV := [.im (b.accounts.map accountC), .im (b.instrs.map accountC), .im (b.bals.map balC), .im (b.lots.map lotC), .im (b.trades.map tradeC), .c (.int .i64 (b.lot))]
end Go.Proofs.YtedkpjaojdkpcaaGreat
