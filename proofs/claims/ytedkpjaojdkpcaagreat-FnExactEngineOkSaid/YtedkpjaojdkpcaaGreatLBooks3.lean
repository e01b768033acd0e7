/- Books3: balances of both, and lots of books. Conditions: none. -/
import Derived.Test.YtedkpjaojdkpcaaGreatLG
import Derived.Test.YtedkpjaojdkpcaaGreatLT
import Derived.Test.YtedkpjaojdkpcaaGreatLBooks2
import Derived.Test.YtedkpjaojdkpcaaGreatLClear
namespace Go.Proofs.YtedkpjaojdkpcaaGreat
open Go.BL Go.RowKit
set_option linter.unusedVariables false
set_option linter.unusedSimpArgs false
set_option maxRecDepth 100000
attribute [local go_sem] accountC balC lotC tradeC
theorem okL_mono {α : Type} {p : α → Bool} {lt : α → α → Bool} {m : Int} {xs : List α} (tr : ∀ x y z, lt x y = true → lt y z = true → lt x z = true) (h : okL p lt m xs = true) : ∀ (d i : Nat) (hj : i + d + 1 < xs.length), lt (xs[i]'(by omega)) xs[i + d + 1] = true
  | 0, i, hj => okL_lt h hj
  | d + 1, i, hj => tr _ _ _ (okL_mono tr h d i (by omega)) (okL_lt h (j := i + d + 1) (by omega))
theorem pairLt_iff {a b c d : Int} : pairLt a b c d = true ↔ a < c ∨ a = c ∧ b < d := by simp [pairLt]
theorem balLt_tr (x y z : Bal) (h1 : balLt x y = true) (h2 : balLt y z = true) : balLt x z = true := by
  unfold balLt at *
  rw [pairLt_iff] at *
  omega
def balIs (a n : Int) (x : Bal) : Bool := x.account == a && x.instr == n
def balV (xs : List Bal) (a n : Int) : Int := match xs.find? (balIs a n) with | some x => x.amount | none => 0
theorem balIs_iff {a n : Int} {x : Bal} : balIs a n x = true ↔ x.account = a ∧ x.instr = n := by simp [balIs]
theorem bal_uniq {xs : List Bal} (h : balsOk xs = true) {i j : Nat} (hi : i < xs.length) (hj : j < xs.length) {a n : Int} (h1 : balIs a n xs[i] = true) (h2 : balIs a n xs[j] = true) : i = j := by
  have key : ∀ {i j : Nat} (hi : i < xs.length) (hj : j < xs.length), balIs a n xs[i] = true → balIs a n xs[j] = true → ¬ i < j := by
    intro i j hi hj h1 h2 hij
    obtain ⟨d, rfl⟩ : ∃ d, j = i + d + 1 := ⟨j - i - 1, by omega⟩
    have := okL_mono balLt_tr h d i hj
    rw [balIs_iff] at h1 h2
    unfold balLt at this
    rw [pairLt_iff] at this
    omega
  have k1 := key hi hj h1 h2
  have k2 := key hj hi h2 h1
  omega
theorem balV_at {xs : List Bal} (h : balsOk xs = true) {i : Nat} (hi : i < xs.length) {a n : Int} (h1 : balIs a n xs[i] = true) : balV xs a n = xs[i].amount := by
  unfold balV
  cases hf : xs.find? (balIs a n) with
  | none => exact absurd h1 ((List.find?_eq_none.1 hf) _ (List.getElem_mem hi))
  | some y =>
    obtain ⟨j, hj, rfl⟩ := List.mem_iff_getElem.1 (List.mem_of_find?_eq_some hf)
    have := bal_uniq h hi hj h1 (List.find?_some hf)
    subst this; rfl
theorem balV_no {xs : List Bal} {a n : Int} (h : ∀ x ∈ xs, balIs a n x = false) : balV xs a n = 0 := by
  have : xs.find? (balIs a n) = none := by rw [List.find?_eq_none]; intro x hx; rw [h x hx]; decide
  rw [balV, this]
theorem c_balAt (xs : List Bal) (a n : Int) (hn : xs.length ≤ 1000000000) (hok : balsOk xs = true) (K : AV → AH → Prop) (hk1 : ∀ (k : Nat) (hi : k < xs.length), balIs a n xs[k] = true → K (.tup [(.one (.c (.int .i64 ((k : Int))))), (.one (.c (.bool (true))))]) []) (hk2 : ∀ (k : Nat), (∀ x ∈ xs, balIs a n x = false) → K (.tup [(.one (.c (.int .i64 ((k : Int))))), (.one (.c (.bool (false))))]) []) : ACalls Tryz.prog 139 [(.one (.im (xs.map balC))), (.one (.c (.int .i64 (a)))), (.one (.c (.int .i64 (n))))] [] K := by
  refine acall_c Tryz.f139.results.toList mixed Tryz.func139 rfl rfl (by kernel_rfl) ?_
  intro Q hQ hQO
  simp only [go_sem]
  refine for_at (xs.length) [0, 1, 2, 11, 12] (fun i f h => f 13 = (.one (.c (.int .i64 (i)))) ∧ h = [] ∧ ∀ j (hj : j < xs.length), j < i → byBoth xs[j].account xs[j].instr a n < 0) (GC.now ?_) ?_
  · simp only [go_sem, nc_0, true_and]
    intro j hj q; omega
  · rintro i f h J hi hA ⟨e13, rfl, hP⟩ hJ
    simp only [go_sem] at hA
    simp only [go_sem, hA, e13]
    refine c_split (fun hb => ?_) (fun hb => ?_)
    rotate_left
    · simp only [go_sem, hb, hA, e13]
      obtain rfl := ge_len hb hi
      (try simp only [go_sem, hA, e13]); repeat' (first | (with_reducible refine c_split (fun hb => ?_) (fun hb => ?_) <;> try simp only [go_sem, hb, hA, e13]) | (with_reducible refine w_split (fun hb => ?_) (fun hb => ?_) <;> try simp only [go_sem, hb, hA, e13]) | (with_reducible refine hQ _ _ ?_ <;> simp only [Tryz.f139, go_sem, hA, e13]))
      refine hk2 _ fun x hx => ?_
      obtain ⟨j, hj, rfl⟩ := List.mem_iff_getElem.1 hx
      have := hP j hj hj
      cases hc : balIs a n xs[j] with
      | false => rfl
      | true =>
        have h2 := byBoth_lt.2.2 (balIs_iff.1 hc)
        omega
    have hi := lt_len hb
    have hw := wrap_nat i (by omega)
    have hil : (i : Int) < ((xs.length : Nat) : Int) := Int.ofNat_lt.2 hi
    have hg0 : (xs)[i]? = some ((xs)[i]) := List.getElem?_eq_getElem (by omega)
    simp only [go_sem, hb, hA, e13, hg0]
    try simp only [go_sem, hA, e13, hil, hg0]
    (try simp only [go_sem, hA, e13, hil, hg0]); repeat' (first | (with_reducible refine c_split (fun hb => ?_) (fun hb => ?_) <;> try simp only [go_sem, hb, hA, e13, hil, hg0]) | (with_reducible refine w_split (fun hb => ?_) (fun hb => ?_) <;> try simp only [go_sem, hb, hA, e13, hil, hg0]) | (refine call_c (c_byBoth _ _ _ _ _ ?_) <;> try simp only [go_sem, hA, e13, hil, hg0]) | (with_reducible refine hQ _ _ ?_ <;> simp only [Tryz.f139, go_sem, hA, e13, hil, hg0]))
    · have hge := of_decide_eq_true hb
      by_cases h0 : byBoth xs[i].account xs[i].instr a n = 0
      · rw [h0]
        exact hk1 i hi (balIs_iff.2 (byBoth_lt.2.1 h0))
      · have hne : (byBoth xs[i].account xs[i].instr a n == 0) = false := beq_false_of_ne h0
        rw [hne]
        refine hk2 i fun x hx => ?_
        obtain ⟨j, hj, rfl⟩ := List.mem_iff_getElem.1 hx
        cases hc : balIs a n xs[j] with
        | false => rfl
        | true =>
          have h2 := byBoth_lt.2.2 (balIs_iff.1 hc)
          rcases Nat.lt_trichotomy j i with q | q | q
          · have := hP j hj q; omega
          · subst q; omega
          · obtain ⟨d, rfl⟩ : ∃ d, j = i + d + 1 := ⟨j - i - 1, by omega⟩
            have h3 := okL_mono balLt_tr hok d i hj
            have h4 := balIs_iff.1 hc
            unfold balLt at h3
            rw [h4.1, h4.2] at h3
            have := byBoth_lt.1.2 h3
            omega
    · have hlt := of_decide_eq_false hb
      refine gc_trim 0 (by decide) (by simp only [go_sem]) (by simp only [go_sem]) (hJ _ _ hi (by simp only [go_sem, hA, e13]) ⟨?_, ?_, ?_⟩) <;> try simp only [go_sem, hA, e13, hw]
      intro j hj q
      by_cases e : j = i
      · subst e; omega
      · exact hP j hj (by omega)
theorem c_balOf (xs : List Bal) (a n : Int) (hn : xs.length ≤ 1000000000) (hok : balsOk xs = true) (K : AV → AH → Prop) (hk : K (.one (.c (.int .i64 (balV xs a n)))) []) : ACalls Tryz.prog 128 [(.one (.im (xs.map balC))), (.one (.c (.int .i64 (a)))), (.one (.c (.int .i64 (n))))] [] K := by
  refine acall_c Tryz.f128.results.toList mixed Tryz.func128 rfl rfl (by kernel_rfl) ?_
  intro Q hQ hQO
  simp only [go_sem]
  (try simp only [go_sem]); repeat' (first | (with_reducible refine c_split (fun hb => ?_) (fun hb => ?_) <;> try simp only [go_sem, hb]) | (with_reducible refine w_split (fun hb => ?_) (fun hb => ?_) <;> try simp only [go_sem, hb]) | (fail))
  refine call_c (c_balAt xs a n hn hok _ (fun k hi h => ?_) (fun k h => ?_))
  · have hg : xs[k]? = some xs[k] := List.getElem?_eq_getElem hi
    have hil : (k : Int) < (xs.length : Int) := Int.ofNat_lt.2 hi
    rw [balV_at hok hi h] at hk
    (try simp only [go_sem, hg, hil]); repeat' (first | (with_reducible refine c_split (fun hb => ?_) (fun hb => ?_) <;> try simp only [go_sem, hb, hg, hil]) | (with_reducible refine w_split (fun hb => ?_) (fun hb => ?_) <;> try simp only [go_sem, hb, hg, hil]) | (with_reducible refine hQ _ _ ?_ <;> simp only [Tryz.f128, go_sem, hg, hil]))
    exact hk
  · rw [balV_no h] at hk
    (try simp only [go_sem]); repeat' (first | (with_reducible refine c_split (fun hb => ?_) (fun hb => ?_) <;> try simp only [go_sem, hb]) | (with_reducible refine w_split (fun hb => ?_) (fun hb => ?_) <;> try simp only [go_sem, hb]) | (with_reducible refine hQ _ _ ?_ <;> simp only [Tryz.f128, go_sem]))
    exact hk
theorem c_l4Of (xs : List Bal) (a n : Int) (hn : xs.length ≤ 1000000000) (K : AV → AH → Prop) (hk : K (.one (.c (.int .i64 (balV xs a n)))) []) : ACalls Tryz.prog 114 [(.one (.im (xs.map balC))), (.one (.c (.int .i64 (a)))), (.one (.c (.int .i64 (n))))] [] K := by
  refine acall_c Tryz.f114.results.toList mixed Tryz.func114 rfl rfl (by kernel_rfl) ?_
  intro Q hQ hQO
  simp only [go_sem]
  refine for_at (xs.length) [0, 1, 2] (fun i f h => f 7 = (.one (.c (.int .i64 (i)))) ∧ h = [] ∧ noneTo (balIs a n) xs i) (GC.now ?_) ?_
  · simp only [go_sem, nc_0, true_and]
    exact noneTo_0 _ _
  · rintro i f h J hi hA ⟨e7, rfl, hP⟩ hJ
    simp only [go_sem] at hA
    simp only [go_sem, hA, e7]
    refine c_split (fun hb => ?_) (fun hb => ?_)
    rotate_left
    · simp only [go_sem, hb, hA, e7]
      obtain rfl := ge_len hb hi
      (try simp only [go_sem, hA, e7]); repeat' (first | (with_reducible refine c_split (fun hb => ?_) (fun hb => ?_) <;> try simp only [go_sem, hb, hA, e7]) | (with_reducible refine w_split (fun hb => ?_) (fun hb => ?_) <;> try simp only [go_sem, hb, hA, e7]) | (with_reducible refine hQ _ _ ?_ <;> simp only [Tryz.f114, go_sem, hA, e7]))
      rw [balV, find_no hP] at hk
      exact hk
    have hi := lt_len hb
    have hw := wrap_nat i (by omega)
    have hil : (i : Int) < ((xs.length : Nat) : Int) := Int.ofNat_lt.2 hi
    have hg0 : (xs)[i]? = some ((xs)[i]) := List.getElem?_eq_getElem (by omega)
    simp only [go_sem, hb, hA, e7, hg0]
    try simp only [go_sem, hA, e7, hil, hg0]
    (try simp only [go_sem, hA, e7, hil, hg0]); repeat' (first | (with_reducible refine c_split (fun hb => ?_) (fun hb => ?_) <;> try simp only [go_sem, hb, hA, e7, hil, hg0]) | (with_reducible refine w_split (fun hb => ?_) (fun hb => ?_) <;> try simp only [go_sem, hb, hA, e7, hil, hg0]) | (with_reducible refine hQ _ _ ?_ <;> simp only [Tryz.f114, go_sem, hA, e7, hil, hg0]))
    · rename_i hb1
      rw [balV, find_at hP hi (show (xs[i].account == a && xs[i].instr == n) = true by rw [hb1, hb]; rfl)] at hk
      exact hk
    · rename_i hb1
      refine gc_trim 0 (by decide) (by simp only [go_sem]) (by simp only [go_sem]) (hJ _ _ hi (by simp only [go_sem, hA, e7]) ⟨?_, ?_, ?_⟩) <;> try simp only [go_sem, hA, e7, hw]
      exact noneTo_s hP hi (show (xs[i].account == a && xs[i].instr == n) = false by rw [hb1, hb]; rfl)
    · refine gc_trim 0 (by decide) (by simp only [go_sem]) (by simp only [go_sem]) (hJ _ _ hi (by simp only [go_sem, hA, e7]) ⟨?_, ?_, ?_⟩) <;> try simp only [go_sem, hA, e7, hw]
      exact noneTo_s hP hi (show (xs[i].account == a && xs[i].instr == n) = false by rw [hb]; rfl)
end Go.Proofs.YtedkpjaojdkpcaaGreat
