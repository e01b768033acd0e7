/- Books2: kinds, sums of balances, and lots of both. Conditions: none. -/
import Derived.Test.YtedkpjaojdkpcaaGreatLG
import Derived.Test.YtedkpjaojdkpcaaGreatLT
import Derived.Test.YtedkpjaojdkpcaaGreatLBooksT
namespace Go.Proofs.YtedkpjaojdkpcaaGreat
open Go.BL Go.RowKit
set_option linter.unusedVariables false
set_option linter.unusedSimpArgs false
set_option maxRecDepth 100000
attribute [local go_sem] accountC balC lotC tradeC
theorem find_at {α : Type} {p : α → Bool} : ∀ {xs : List α} {i : Nat}, noneTo p xs i → ∀ (hi : i < xs.length), p xs[i] = true → xs.find? p = some xs[i]
  | [], i, _, hi, _ => absurd hi (Nat.not_lt_zero i)
  | x :: r, 0, _, _, hp => by rw [List.find?_cons]; simp at hp; rw [hp]; rfl
  | x :: r, i + 1, h, hi, hp => by
    have h0 : p x = false := h 0 (by simp) (by omega)
    rw [List.find?_cons, h0]
    exact find_at (xs := r) (i := i) (fun j hj hji => h (j + 1) (by simpa using hj) (by omega)) (by simpa using hi) (by simpa using hp)
theorem find_no {α : Type} {p : α → Bool} {xs : List α} (h : noneTo p xs xs.length) : xs.find? p = none := by
  rw [List.find?_eq_none]
  intro x hx
  obtain ⟨i, hi, rfl⟩ := List.mem_iff_getElem.1 hx
  rw [h i hi hi]; decide
def kindOf (xs : List Account) (no : Int) : Int := match xs.find? (fun a => a.no == no) with | some a => a.kind | none => 0
theorem c_accountKind (xs : List Account) (no : Int) (hn : xs.length ≤ 1000000000) (K : AV → AH → Prop) (hk : K (.one (.c (.int .i64 (kindOf xs no)))) []) : ACalls Tryz.prog 125 [(.one (.im (xs.map accountC))), (.one (.c (.int .i64 (no))))] [] K := by
  refine acall_c Tryz.f125.results.toList mixed Tryz.func125 rfl rfl (by kernel_rfl) ?_
  intro Q hQ hQO
  simp only [go_sem]
  refine for_at (xs.length) [1, 7, 8] (fun i f h => f 9 = (.one (.c (.int .i64 (i)))) ∧ h = [] ∧ noneTo (fun a => a.no == no) xs i) (GC.now ?_) ?_
  · simp only [go_sem, nc_0, true_and]
    exact noneTo_0 _ _
  · rintro i f h J hi hA ⟨e9, rfl, hP⟩ hJ
    simp only [go_sem] at hA
    simp only [go_sem, hA, e9]
    refine c_split (fun hb => ?_) (fun hb => ?_)
    rotate_left
    · simp only [go_sem, hb, hA, e9]
      obtain rfl := ge_len hb hi
      (try simp only [go_sem, hA, e9]); repeat' (first | (with_reducible refine c_split (fun hb => ?_) (fun hb => ?_) <;> try simp only [go_sem, hb, hA, e9]) | (with_reducible refine w_split (fun hb => ?_) (fun hb => ?_) <;> try simp only [go_sem, hb, hA, e9]) | (with_reducible refine hQ _ _ ?_ <;> simp only [Tryz.f125, go_sem, hA, e9]))
      rw [kindOf, find_no hP] at hk
      exact hk
    have hi := lt_len hb
    have hw := wrap_nat i (by omega)
    have hil : (i : Int) < ((xs.length : Nat) : Int) := Int.ofNat_lt.2 hi
    have hg0 : (xs)[i]? = some ((xs)[i]) := List.getElem?_eq_getElem (by omega)
    simp only [go_sem, hb, hA, e9, hg0]
    try simp only [go_sem, hA, e9, hil, hg0]
    (try simp only [go_sem, hA, e9, hil, hg0]); repeat' (first | (with_reducible refine c_split (fun hb => ?_) (fun hb => ?_) <;> try simp only [go_sem, hb, hA, e9, hil, hg0]) | (with_reducible refine w_split (fun hb => ?_) (fun hb => ?_) <;> try simp only [go_sem, hb, hA, e9, hil, hg0]) | (with_reducible refine hQ _ _ ?_ <;> simp only [Tryz.f125, go_sem, hA, e9, hil, hg0]))
    · rw [kindOf, find_at hP hi hb] at hk
      exact hk
    · refine gc_trim 0 (by decide) (by simp only [go_sem]) (by simp only [go_sem]) (hJ _ _ hi (by simp only [go_sem, hA, e9]) ⟨?_, ?_, ?_⟩) <;> try simp only [go_sem, hA, e9, hw]
      exact noneTo_s hP hi hb
theorem c_instrKind (xs : List Account) (no : Int) (hn : xs.length ≤ 1000000000) (K : AV → AH → Prop) (hk : K (.one (.c (.int .i64 (kindOf xs no)))) []) : ACalls Tryz.prog 126 [(.one (.im (xs.map accountC))), (.one (.c (.int .i64 (no))))] [] K := by
  refine acall_c Tryz.f126.results.toList mixed Tryz.func126 rfl rfl (by kernel_rfl) ?_
  intro Q hQ hQO
  simp only [go_sem]
  refine for_at (xs.length) [1, 7, 8] (fun i f h => f 9 = (.one (.c (.int .i64 (i)))) ∧ h = [] ∧ noneTo (fun a => a.no == no) xs i) (GC.now ?_) ?_
  · simp only [go_sem, nc_0, true_and]
    exact noneTo_0 _ _
  · rintro i f h J hi hA ⟨e9, rfl, hP⟩ hJ
    simp only [go_sem] at hA
    simp only [go_sem, hA, e9]
    refine c_split (fun hb => ?_) (fun hb => ?_)
    rotate_left
    · simp only [go_sem, hb, hA, e9]
      obtain rfl := ge_len hb hi
      (try simp only [go_sem, hA, e9]); repeat' (first | (with_reducible refine c_split (fun hb => ?_) (fun hb => ?_) <;> try simp only [go_sem, hb, hA, e9]) | (with_reducible refine w_split (fun hb => ?_) (fun hb => ?_) <;> try simp only [go_sem, hb, hA, e9]) | (with_reducible refine hQ _ _ ?_ <;> simp only [Tryz.f126, go_sem, hA, e9]))
      rw [kindOf, find_no hP] at hk
      exact hk
    have hi := lt_len hb
    have hw := wrap_nat i (by omega)
    have hil : (i : Int) < ((xs.length : Nat) : Int) := Int.ofNat_lt.2 hi
    have hg0 : (xs)[i]? = some ((xs)[i]) := List.getElem?_eq_getElem (by omega)
    simp only [go_sem, hb, hA, e9, hg0]
    try simp only [go_sem, hA, e9, hil, hg0]
    (try simp only [go_sem, hA, e9, hil, hg0]); repeat' (first | (with_reducible refine c_split (fun hb => ?_) (fun hb => ?_) <;> try simp only [go_sem, hb, hA, e9, hil, hg0]) | (with_reducible refine w_split (fun hb => ?_) (fun hb => ?_) <;> try simp only [go_sem, hb, hA, e9, hil, hg0]) | (with_reducible refine hQ _ _ ?_ <;> simp only [Tryz.f126, go_sem, hA, e9, hil, hg0]))
    · rw [kindOf, find_at hP hi hb] at hk
      exact hk
    · refine gc_trim 0 (by decide) (by simp only [go_sem]) (by simp only [go_sem]) (hJ _ _ hi (by simp only [go_sem, hA, e9]) ⟨?_, ?_, ?_⟩) <;> try simp only [go_sem, hA, e9, hw]
      exact noneTo_s hP hi hb
theorem c_AccountKind (xs : List Account) (no : Int) (hn : xs.length ≤ 1000000000) (hok : accountsOk xs = true) (K : AV → AH → Prop) (hk : K (.one (.c (.int .i64 (kindOf xs no)))) []) : ACalls Tryz.prog 70 [(.one (.im (xs.map accountC))), (.one (.c (.int .i64 (no))))] [] K := by
  refine acall_c Tryz.f70.results.toList mixed Tryz.func70 rfl rfl (by kernel_rfl) ?_
  intro Q hQ hQO
  simp only [go_sem]
  refine while_at (α := Nat) (fun j => xs.length - j) [0, 1] (fun j f h => f 5 = (.one (.c (.int .i64 ((j : Int))))) ∧ h = [] ∧ j ≤ xs.length ∧ noneTo (fun a => a.no == no) xs j) 0 (GC.now ?_) ?_
  · simp only [go_sem, nc_0, true_and]
    exact ⟨Nat.zero_le _, noneTo_0 _ _⟩
  · rintro j f h J hA ⟨e5, rfl, hP⟩ hJ
    simp only [go_sem] at hA
    try dsimp only at hJ
    simp only [go_sem, hA, e5]
    by_cases hi : j < xs.length
    · have hd : decide ((j : Int) < (xs.length : Int)) = true := decide_eq_true (Int.ofNat_lt.2 hi)
      have hil : (j : Int) < (xs.length : Int) := Int.ofNat_lt.2 hi
      have hg : xs[j]? = some xs[j] := List.getElem?_eq_getElem hi
      have hw := wrap_nat j (by omega)
      have hdec : xs.length - (j + 1) < xs.length - j := by omega
      (try simp only [go_sem, hA, e5, hd, hok, hg, hil]); repeat' (first | (with_reducible refine c_split (fun hb => ?_) (fun hb => ?_) <;> try simp only [go_sem, hb, hA, e5, hd, hok, hg, hil]) | (with_reducible refine w_split (fun hb => ?_) (fun hb => ?_) <;> try simp only [go_sem, hb, hA, e5, hd, hok, hg, hil]) | (refine call_c (c_spec_AccountsOk xs hn _ ?_) <;> try simp only [go_sem, hA, e5, hd, hok, hg, hil]) | (with_reducible refine hQ _ _ ?_ <;> simp only [Tryz.f70, go_sem, hA, e5, hd, hok, hg, hil]))
      · rw [kindOf, find_at hP.2 hi hb] at hk
        exact hk
      · refine gc_trim 0 (by decide) (by simp only [go_sem]) (by simp only [go_sem, hw]) (hJ (j + 1) _ _ (by exact hdec) (by simp only [go_sem, hA, e5]) ⟨?_, ?_, ?_⟩) <;> try simp only [go_sem, hA, e5, hw]
        exact ⟨hi, noneTo_s hP.2 hi hb⟩
    · have hd : decide ((j : Int) < (xs.length : Int)) = false := decide_eq_false (fun q => hi (Int.ofNat_lt.1 q))
      have hj : j = xs.length := by omega
      subst hj
      (try simp only [go_sem, hA, e5, hd]); repeat' (first | (with_reducible refine c_split (fun hb => ?_) (fun hb => ?_) <;> try simp only [go_sem, hb, hA, e5, hd]) | (with_reducible refine w_split (fun hb => ?_) (fun hb => ?_) <;> try simp only [go_sem, hb, hA, e5, hd]) | (with_reducible refine hQ _ _ ?_ <;> simp only [Tryz.f70, go_sem, hA, e5, hd]))
      rw [kindOf, find_no hP.2] at hk
      exact hk
theorem c_InstrKind (xs : List Account) (no : Int) (hn : xs.length ≤ 1000000000) (hok : instrsOk xs = true) (K : AV → AH → Prop) (hk : K (.one (.c (.int .i64 (kindOf xs no)))) []) : ACalls Tryz.prog 71 [(.one (.im (xs.map accountC))), (.one (.c (.int .i64 (no))))] [] K := by
  refine acall_c Tryz.f71.results.toList mixed Tryz.func71 rfl rfl (by kernel_rfl) ?_
  intro Q hQ hQO
  simp only [go_sem]
  refine while_at (α := Nat) (fun j => xs.length - j) [0, 1] (fun j f h => f 5 = (.one (.c (.int .i64 ((j : Int))))) ∧ h = [] ∧ j ≤ xs.length ∧ noneTo (fun a => a.no == no) xs j) 0 (GC.now ?_) ?_
  · simp only [go_sem, nc_0, true_and]
    exact ⟨Nat.zero_le _, noneTo_0 _ _⟩
  · rintro j f h J hA ⟨e5, rfl, hP⟩ hJ
    simp only [go_sem] at hA
    try dsimp only at hJ
    simp only [go_sem, hA, e5]
    by_cases hi : j < xs.length
    · have hd : decide ((j : Int) < (xs.length : Int)) = true := decide_eq_true (Int.ofNat_lt.2 hi)
      have hil : (j : Int) < (xs.length : Int) := Int.ofNat_lt.2 hi
      have hg : xs[j]? = some xs[j] := List.getElem?_eq_getElem hi
      have hw := wrap_nat j (by omega)
      have hdec : xs.length - (j + 1) < xs.length - j := by omega
      (try simp only [go_sem, hA, e5, hd, hok, hg, hil]); repeat' (first | (with_reducible refine c_split (fun hb => ?_) (fun hb => ?_) <;> try simp only [go_sem, hb, hA, e5, hd, hok, hg, hil]) | (with_reducible refine w_split (fun hb => ?_) (fun hb => ?_) <;> try simp only [go_sem, hb, hA, e5, hd, hok, hg, hil]) | (refine call_c (c_spec_InstrsOk xs hn _ ?_) <;> try simp only [go_sem, hA, e5, hd, hok, hg, hil]) | (with_reducible refine hQ _ _ ?_ <;> simp only [Tryz.f71, go_sem, hA, e5, hd, hok, hg, hil]))
      · rw [kindOf, find_at hP.2 hi hb] at hk
        exact hk
      · refine gc_trim 0 (by decide) (by simp only [go_sem]) (by simp only [go_sem, hw]) (hJ (j + 1) _ _ (by exact hdec) (by simp only [go_sem, hA, e5]) ⟨?_, ?_, ?_⟩) <;> try simp only [go_sem, hA, e5, hw]
        exact ⟨hi, noneTo_s hP.2 hi hb⟩
    · have hd : decide ((j : Int) < (xs.length : Int)) = false := decide_eq_false (fun q => hi (Int.ofNat_lt.1 q))
      have hj : j = xs.length := by omega
      subst hj
      (try simp only [go_sem, hA, e5, hd]); repeat' (first | (with_reducible refine c_split (fun hb => ?_) (fun hb => ?_) <;> try simp only [go_sem, hb, hA, e5, hd]) | (with_reducible refine w_split (fun hb => ?_) (fun hb => ?_) <;> try simp only [go_sem, hb, hA, e5, hd]) | (with_reducible refine hQ _ _ ?_ <;> simp only [Tryz.f71, go_sem, hA, e5, hd]))
      rw [kindOf, find_no hP.2] at hk
      exact hk
def sumB (xs : List Bal) (n : Int) : Int := (xs.map fun x => if (x.instr == n) = true then x.amount else 0).sum
theorem sumB_s (xs : List Bal) (n : Int) (i : Nat) (hi : i < xs.length) : sumB (xs.take (i + 1)) n = sumB (xs.take i) n + (if (xs[i].instr == n) = true then xs[i].amount else 0) := by
  rw [List.take_succ_eq_append_getElem hi, sumB, sumB, List.map_append, List.sum_append]; simp
theorem sumB_le (n : Int) : ∀ (xs : List Bal), (∀ x ∈ xs, amtOk x.amount = true) → -(1000000000000000 * (xs.length : Int)) ≤ sumB xs n ∧ sumB xs n ≤ 1000000000000000 * (xs.length : Int)
  | [], _ => by simp [sumB]
  | x :: r, h => by
    have ih := sumB_le n r (fun y hy => h y (List.mem_cons_of_mem _ hy))
    have hx : -1000000000000000 ≤ x.amount ∧ x.amount ≤ 1000000000000000 := of_decide_eq_true (h x (List.mem_cons_self ..))
    have e : sumB (x :: r) n = (if (x.instr == n) = true then x.amount else 0) + sumB r n := by simp [sumB]
    rw [e, List.length_cons]
    split <;> omega
theorem balsOk_amt {xs : List Bal} (h : balsOk xs = true) : (∀ x ∈ xs, amtOk x.amount = true) ∧ xs.length ≤ 160 := by
  refine ⟨fun x hx => ?_, by have := okL_len h; omega⟩
  have := okL_p h hx
  simp only [balP, Bool.and_eq_true] at this
  exact this.1.2
theorem sumB_w {xs : List Bal} (h : balsOk xs = true) (n : Int) {i : Nat} (hi : i < xs.length) : wrap64 (sumB (xs.take i) n + xs[i].amount) = sumB (xs.take i) n + xs[i].amount := by
  obtain ⟨h1, h2⟩ := balsOk_amt h
  have h3 := sumB_le n (xs.take i) (fun x hx => h1 x (List.mem_of_mem_take hx))
  have h4 : -1000000000000000 ≤ xs[i].amount ∧ xs[i].amount ≤ 1000000000000000 := of_decide_eq_true (h1 _ (List.getElem_mem hi))
  rw [List.length_take] at h3
  exact wrap_id _ (by omega) (by omega)
theorem c_balsSum (xs : List Bal) (n : Int) (hn : xs.length ≤ 1000000000) (hok : balsOk xs = true) (K : AV → AH → Prop) (hk : K (.one (.c (.int .i64 (sumB xs n)))) []) : ACalls Tryz.prog 127 [(.one (.im (xs.map balC))), (.one (.c (.int .i64 (n))))] [] K := by
  refine acall_c Tryz.f127.results.toList mixed Tryz.func127 rfl rfl (by kernel_rfl) ?_
  intro Q hQ hQO
  simp only [go_sem]
  refine for_at (xs.length) [1, 8, 9] (fun i f h => f 5 = (.one (.c (.int .i64 (sumB (xs.take i) n)))) ∧ f 10 = (.one (.c (.int .i64 (i)))) ∧ h = []) (GC.now ?_) ?_
  · simp only [go_sem, nc_0, true_and]
    rfl
  · rintro i f h J hi hA ⟨e5, e10, rfl⟩ hJ
    simp only [go_sem] at hA
    simp only [go_sem, hA, e5, e10]
    refine c_split (fun hb => ?_) (fun hb => ?_)
    rotate_left
    · simp only [go_sem, hb, hA, e5, e10]
      obtain rfl := ge_len hb hi
      (try simp only [go_sem, hA, e5, e10, List.take_length]); repeat' (first | (with_reducible refine c_split (fun hb => ?_) (fun hb => ?_) <;> try simp only [go_sem, hb, hA, e5, e10, List.take_length]) | (with_reducible refine w_split (fun hb => ?_) (fun hb => ?_) <;> try simp only [go_sem, hb, hA, e5, e10, List.take_length]) | (with_reducible refine hQ _ _ ?_ <;> simp only [Tryz.f127, go_sem, hA, e5, e10, List.take_length]))
      exact hk
    have hi := lt_len hb
    have hw := wrap_nat i (by omega)
    have hil : (i : Int) < ((xs.length : Nat) : Int) := Int.ofNat_lt.2 hi
    have hg0 : (xs)[i]? = some ((xs)[i]) := List.getElem?_eq_getElem (by omega)
    simp only [go_sem, hb, hA, e5, e10, hg0]
    try simp only [go_sem, hA, e5, e10, hil, hg0]
    have hs := sumB_s xs n i hi
    have hwv := sumB_w hok n hi
    (try simp only [go_sem, hA, e5, e10, hil, hg0]); repeat' (first | (with_reducible refine c_split (fun hb => ?_) (fun hb => ?_) <;> try simp only [go_sem, hb, hA, e5, e10, hil, hg0]) | (with_reducible refine w_split (fun hb => ?_) (fun hb => ?_) <;> try simp only [go_sem, hb, hA, e5, e10, hil, hg0]) | (fail))
    · rw [if_pos hb] at hs
      (try simp only [go_sem, hA, e5, e10, hil, hg0, hwv]); repeat' (first | (with_reducible refine c_split (fun hb => ?_) (fun hb => ?_) <;> try simp only [go_sem, hb, hA, e5, e10, hil, hg0, hwv]) | (with_reducible refine w_split (fun hb => ?_) (fun hb => ?_) <;> try simp only [go_sem, hb, hA, e5, e10, hil, hg0, hwv]) | (fail))
      refine gc_trim 0 (by decide) (by simp only [go_sem]) (by simp only [go_sem]) (hJ _ _ hi (by simp only [go_sem, hA, e5, e10]) ⟨?_, ?_, ?_⟩) <;> try simp only [go_sem, hA, e5, e10, hw, hs]
    · rw [if_neg (by rw [hb]; decide), Int.add_zero] at hs
      refine gc_trim 0 (by decide) (by simp only [go_sem]) (by simp only [go_sem]) (hJ _ _ hi (by simp only [go_sem, hA, e5, e10]) ⟨?_, ?_, ?_⟩) <;> try simp only [go_sem, hA, e5, e10, hw, hs]
theorem c_l1Told (x : Int) (ok : Bool) (K : AV → AH → Prop) (hk : K (.tup [(.one (.c (.int .i64 (if (ok && amtOk x) = true then x else 0)))), (.one (.c (.bool (ok && amtOk x))))]) []) : ACalls Tryz.prog 133 [(.one (.c (.int .i64 (x)))), (.one (.c (.bool (ok))))] [] K := by
  refine acall_c Tryz.f133.results.toList mixed Tryz.func133 rfl rfl (by kernel_rfl) ?_
  intro Q hQ hQO
  simp only [go_sem]
  (try simp only [go_sem]); repeat' (first | (with_reducible refine c_split (fun hb => ?_) (fun hb => ?_) <;> try simp only [go_sem, hb]) | (with_reducible refine w_split (fun hb => ?_) (fun hb => ?_) <;> try simp only [go_sem, hb]) | (refine call_c (c_spec_AmountOk _ _ ?_) <;> try simp only [go_sem]) | (with_reducible refine hQ _ _ ?_ <;> simp only [Tryz.f133, go_sem]))
  · simp at hb; rw [hb] at hk; simpa using hk
  · simp at hb; simp [hb] at hk; exact hk
  · simp at hb; simp [hb] at hk; simp_all
theorem c_BalsSum (xs : List Bal) (n : Int) (hn : xs.length ≤ 1000000000) (hok : balsOk xs = true) (K : AV → AH → Prop) (hk : K (.tup [(.one (.c (.int .i64 (if amtOk (sumB xs n) = true then sumB xs n else 0)))), (.one (.c (.bool (amtOk (sumB xs n)))))]) []) : ACalls Tryz.prog 111 [(.one (.im (xs.map balC))), (.one (.c (.int .i64 (n))))] [] K := by
  refine acall_c Tryz.f111.results.toList mixed Tryz.func111 rfl rfl (by kernel_rfl) ?_
  intro Q hQ hQO
  simp only [go_sem]
  refine while_at (α := Nat) (fun j => xs.length - j) [0, 1] (fun j f h => f 6 = (.one (.c (.int .i64 (sumB (xs.take j) n)))) ∧ f 7 = (.one (.c (.int .i64 ((j : Int))))) ∧ h = [] ∧ j ≤ xs.length) 0 (GC.now ?_) ?_
  · simp only [go_sem, nc_0, true_and]
    exact ⟨rfl, Nat.zero_le _⟩
  · rintro j f h J hA ⟨e6, e7, rfl, hP⟩ hJ
    simp only [go_sem] at hA
    try dsimp only at hJ
    simp only [go_sem, hA, e6, e7]
    by_cases hi : j < xs.length
    · have hd : decide ((j : Int) < (xs.length : Int)) = true := decide_eq_true (Int.ofNat_lt.2 hi)
      have hil : (j : Int) < (xs.length : Int) := Int.ofNat_lt.2 hi
      have hg : xs[j]? = some xs[j] := List.getElem?_eq_getElem hi
      have hw := wrap_nat j (by omega)
      have hdec : xs.length - (j + 1) < xs.length - j := by omega
      have hs := sumB_s xs n j hi
      have hwv := sumB_w hok n hi
      (try simp only [go_sem, hA, e6, e7, hd, hok, hg, hil]); repeat' (first | (with_reducible refine c_split (fun hb => ?_) (fun hb => ?_) <;> try simp only [go_sem, hb, hA, e6, e7, hd, hok, hg, hil]) | (with_reducible refine w_split (fun hb => ?_) (fun hb => ?_) <;> try simp only [go_sem, hb, hA, e6, e7, hd, hok, hg, hil]) | (refine call_c (c_spec_BalsOk xs hn _ ?_) <;> try simp only [go_sem, hA, e6, e7, hd, hok, hg, hil]) | (fail))
      · rw [if_pos hb] at hs
        (try simp only [go_sem, hA, e6, e7, hg, hil, hwv]); repeat' (first | (with_reducible refine c_split (fun hb => ?_) (fun hb => ?_) <;> try simp only [go_sem, hb, hA, e6, e7, hg, hil, hwv]) | (with_reducible refine w_split (fun hb => ?_) (fun hb => ?_) <;> try simp only [go_sem, hb, hA, e6, e7, hg, hil, hwv]) | (fail))
        refine gc_trim 0 (by decide) (by simp only [go_sem]) (by simp only [go_sem, hw, hs]) (hJ (j + 1) _ _ (by exact hdec) (by simp only [go_sem, hA, e6, e7]) ⟨?_, ?_, ?_, ?_⟩) <;> try simp only [go_sem, hA, e6, e7, hw, hs]
        exact hi
      · rw [if_neg (by rw [hb]; decide), Int.add_zero] at hs
        refine gc_trim 0 (by decide) (by simp only [go_sem]) (by simp only [go_sem, hw, hs]) (hJ (j + 1) _ _ (by exact hdec) (by simp only [go_sem, hA, e6, e7]) ⟨?_, ?_, ?_, ?_⟩) <;> try simp only [go_sem, hA, e6, e7, hw, hs]
        exact hi
    · have hd : decide ((j : Int) < (xs.length : Int)) = false := decide_eq_false (fun q => hi (Int.ofNat_lt.1 q))
      have hj : j = xs.length := by omega
      subst hj
      rw [show amtOk (sumB xs n) = (true && amtOk (sumB xs n)) from (Bool.true_and _).symm] at hk
      (try simp only [go_sem, hA, e6, e7, hd, hok, List.take_length]); repeat' (first | (with_reducible refine c_split (fun hb => ?_) (fun hb => ?_) <;> try simp only [go_sem, hb, hA, e6, e7, hd, hok, List.take_length]) | (with_reducible refine w_split (fun hb => ?_) (fun hb => ?_) <;> try simp only [go_sem, hb, hA, e6, e7, hd, hok, List.take_length]) | (refine call_c (c_spec_BalsOk xs hn _ ?_) <;> try simp only [go_sem, hA, e6, e7, hd, hok, List.take_length]) | (refine call_c (c_l1Told (sumB xs n) true _ ?_) <;> try simp only [go_sem, hA, e6, e7, hd, hok, List.take_length]) | (with_reducible refine hQ _ _ ?_ <;> simp only [Tryz.f111, go_sem, hA, e6, e7, hd, hok, List.take_length]))
      exact hk
end Go.Proofs.YtedkpjaojdkpcaaGreat
