/- Books1: lists of accounts, instruments, balances and trades that are right. Conditions: none. -/
import Derived.Test.YtedkpjaojdkpcaaGreatLG
import Derived.Test.YtedkpjaojdkpcaaGreatLT
import Derived.Test.YtedkpjaojdkpcaaGreatLRec
namespace Go.Proofs.YtedkpjaojdkpcaaGreat
open Go.BL Go.RowKit
set_option linter.unusedVariables false
set_option linter.unusedSimpArgs false
set_option maxRecDepth 100000
attribute [local go_sem] accountC balC lotC tradeC
def noOk (n : Int) : Bool := decide (1 ≤ n ∧ n ≤ 1000)
def amtOk (n : Int) : Bool := decide (-1000000000000000 ≤ n ∧ n ≤ 1000000000000000)
def allTo (p : Nat → Bool) : Nat → Bool
  | 0 => true
  | n + 1 => allTo p n && p n
theorem allTo_false {p : Nat → Bool} {i : Nat} (h : p i = false) : ∀ n, i < n → allTo p n = false
  | 0, hn => absurd hn (Nat.not_lt_zero i)
  | n + 1, hn => by
    rw [allTo]
    by_cases e : i = n
    · subst e; rw [h, Bool.and_false]
    · rw [allTo_false h n (by omega), Bool.false_and]
theorem allTo_at {p : Nat → Bool} : ∀ {n : Nat}, allTo p n = true → ∀ i, i < n → p i = true
  | 0, _, i, hi => absurd hi (Nat.not_lt_zero i)
  | n + 1, h, i, hi => by
    rw [allTo, Bool.and_eq_true] at h
    by_cases e : i = n
    · subst e; exact h.2
    · exact allTo_at h.1 i (by omega)
theorem c_isNo (n : Int) (K : AV → AH → Prop) (hk : K (.one (.c (.bool (noOk n)))) []) : ACalls Tryz.prog 116 [(.one (.c (.int .i64 (n))))] [] K := by
  refine acall_c Tryz.f116.results.toList mixed Tryz.func116 rfl rfl (by kernel_rfl) ?_
  intro Q hQ hQO
  simp only [go_sem]
  (try simp only [go_sem]); repeat' (first | (with_reducible refine c_split (fun hb => ?_) (fun hb => ?_) <;> try simp only [go_sem, hb]) | (with_reducible refine w_split (fun hb => ?_) (fun hb => ?_) <;> try simp only [go_sem, hb]) | (refine call_c (c_in _ _ _ _ ?_) <;> try simp only [go_sem]) | (with_reducible refine hQ _ _ ?_ <;> simp only [Tryz.f116, go_sem]))
  exact hk
theorem c_l3No (n : Int) (K : AV → AH → Prop) (hk : K (.one (.c (.bool (noOk n)))) []) : ACalls Tryz.prog 105 [(.one (.c (.int .i64 (n))))] [] K := by
  refine acall_c Tryz.f105.results.toList mixed Tryz.func105 rfl rfl (by kernel_rfl) ?_
  intro Q hQ hQO
  simp only [go_sem]
  (try simp only [go_sem]); repeat' (first | (with_reducible refine c_split (fun hb => ?_) (fun hb => ?_) <;> try simp only [go_sem, hb]) | (with_reducible refine w_split (fun hb => ?_) (fun hb => ?_) <;> try simp only [go_sem, hb]) | (refine call_c (c_l1In _ _ _ _ ?_) <;> try simp only [go_sem]) | (with_reducible refine hQ _ _ ?_ <;> simp only [Tryz.f105, go_sem]))
  exact hk
theorem c_impl_AmountOk (n : Int) (K : AV → AH → Prop) (hk : K (.one (.c (.bool (amtOk n)))) []) : ACalls Tryz.prog 117 [(.one (.c (.int .i64 (n))))] [] K := by
  refine acall_c Tryz.f117.results.toList mixed Tryz.func117 rfl rfl (by kernel_rfl) ?_
  intro Q hQ hQO
  simp only [go_sem]
  (try simp only [go_sem]); repeat' (first | (with_reducible refine c_split (fun hb => ?_) (fun hb => ?_) <;> try simp only [go_sem, hb]) | (with_reducible refine w_split (fun hb => ?_) (fun hb => ?_) <;> try simp only [go_sem, hb]) | (refine call_c (c_in _ _ _ _ ?_) <;> try simp only [go_sem]) | (with_reducible refine hQ _ _ ?_ <;> simp only [Tryz.f117, go_sem]))
  exact hk
theorem c_spec_AmountOk (n : Int) (K : AV → AH → Prop) (hk : K (.one (.c (.bool (amtOk n)))) []) : ACalls Tryz.prog 106 [(.one (.c (.int .i64 (n))))] [] K := by
  refine acall_c Tryz.f106.results.toList mixed Tryz.func106 rfl rfl (by kernel_rfl) ?_
  intro Q hQ hQO
  simp only [go_sem]
  (try simp only [go_sem]); repeat' (first | (with_reducible refine c_split (fun hb => ?_) (fun hb => ?_) <;> try simp only [go_sem, hb]) | (with_reducible refine w_split (fun hb => ?_) (fun hb => ?_) <;> try simp only [go_sem, hb]) | (refine call_c (c_l1In _ _ _ _ ?_) <;> try simp only [go_sem]) | (with_reducible refine hQ _ _ ?_ <;> simp only [Tryz.f106, go_sem]))
  exact hk
theorem c_l1Some (n lo : Int) (K : AV → AH → Prop) (hk : K (.one (.c (.bool (decide (lo ≤ n ∧ n ≤ 1000000000000000))))) []) : ACalls Tryz.prog 110 [(.one (.c (.int .i64 (n)))), (.one (.c (.int .i64 (lo))))] [] K := by
  refine acall_c Tryz.f110.results.toList mixed Tryz.func110 rfl rfl (by kernel_rfl) ?_
  intro Q hQ hQO
  simp only [go_sem]
  (try simp only [go_sem]); repeat' (first | (with_reducible refine c_split (fun hb => ?_) (fun hb => ?_) <;> try simp only [go_sem, hb]) | (with_reducible refine w_split (fun hb => ?_) (fun hb => ?_) <;> try simp only [go_sem, hb]) | (refine call_c (c_l1In _ _ _ _ ?_) <;> try simp only [go_sem]) | (with_reducible refine hQ _ _ ?_ <;> simp only [Tryz.f110, go_sem]))
  exact hk
/-- The element ahead of place i stands below it. -/
def upAt {α : Type} (key : α → Int) (xs : List α) (i : Nat) (x : α) : Bool := match i with
  | 0 => true
  | j + 1 => match xs[j]? with
    | some y => decide (key y < key x)
    | none => true
theorem not_tt {b : Bool} (h : (!b) = true) : b = false := by simpa using h
def rowG {α : Type} (p : α → Bool) (lt : α → α → Bool) (xs : List α) (i : Nat) : Bool := match xs[i]? with
  | some x => p x && (match i with | 0 => true | j + 1 => match xs[j]? with | some y => lt y x | none => false)
  | none => false
theorem rowG_0 {α : Type} {p : α → Bool} {lt : α → α → Bool} {xs : List α} (hi : 0 < xs.length) : rowG p lt xs 0 = p xs[0] := by simp [rowG, hi]
theorem rowG_s {α : Type} {p : α → Bool} {lt : α → α → Bool} {xs : List α} {j : Nat} (hi : j + 1 < xs.length) : rowG p lt xs (j + 1) = (p xs[j + 1] && lt xs[j] xs[j + 1]) := by
  have : j < xs.length := by omega
  simp [rowG, hi, this]
theorem allTo_s {p : Nat → Bool} {i : Nat} (h : allTo p i = true) (hi : p i = true) : allTo p (i + 1) = true := by rw [allTo, h, hi]; rfl
def okL {α : Type} (p : α → Bool) (lt : α → α → Bool) (m : Int) (xs : List α) : Bool := allTo (rowG p lt xs) xs.length && decide ((xs.length : Int) ≤ m)
theorem okL_no {α : Type} {p : α → Bool} {lt : α → α → Bool} {m : Int} {xs : List α} {i : Nat} (h : rowG p lt xs i = false) (hi : i < xs.length) : okL p lt m xs = false := by rw [okL, allTo_false h _ hi, Bool.false_and]
theorem okL_long {α : Type} {p : α → Bool} {lt : α → α → Bool} {m : Int} {xs : List α} (h : m < xs.length) : okL p lt m xs = false := by rw [okL, decide_eq_false (by omega), Bool.and_false]
theorem okL_len {α : Type} {p : α → Bool} {lt : α → α → Bool} {m : Int} {xs : List α} (h : okL p lt m xs = true) : (xs.length : Int) ≤ m := by
  rw [okL, Bool.and_eq_true] at h; exact of_decide_eq_true h.2
theorem okL_p {α : Type} {p : α → Bool} {lt : α → α → Bool} {m : Int} {xs : List α} (h : okL p lt m xs = true) {x : α} (hx : x ∈ xs) : p x = true := by
  rw [okL, Bool.and_eq_true] at h
  obtain ⟨i, hi, rfl⟩ := List.mem_iff_getElem.1 hx
  have := allTo_at h.1 i hi
  rcases i with _ | j
  · rwa [rowG_0 hi] at this
  · rw [rowG_s hi, Bool.and_eq_true] at this; exact this.1
theorem okL_lt {α : Type} {p : α → Bool} {lt : α → α → Bool} {m : Int} {xs : List α} (h : okL p lt m xs = true) {j : Nat} (hj : j + 1 < xs.length) : lt xs[j] xs[j + 1] = true := by
  rw [okL, Bool.and_eq_true] at h
  have := allTo_at h.1 (j + 1) hj
  rw [rowG_s hj, Bool.and_eq_true] at this; exact this.2
def accP (x : Account) : Bool := noOk x.no && decide (1 ≤ x.kind ∧ x.kind ≤ 4)
def accLt (y x : Account) : Bool := decide (y.no < x.no)
def accountsOk (xs : List Account) : Bool := okL accP accLt 20 xs
theorem accLt_f {y x : Account} (h : accLt y x = true) : decide (x.no ≤ y.no) = false := by have := of_decide_eq_true h; exact decide_eq_false (by omega)
def insP (x : Account) : Bool := noOk x.no && decide (1 ≤ x.kind ∧ x.kind ≤ 2)
def insLt (y x : Account) : Bool := decide (y.no < x.no)
def instrsOk (xs : List Account) : Bool := okL insP insLt 8 xs
theorem insLt_f {y x : Account} (h : insLt y x = true) : decide (x.no ≤ y.no) = false := by have := of_decide_eq_true h; exact decide_eq_false (by omega)
set_option maxHeartbeats 2000000 in
theorem c_impl_AccountsOk (xs : List Account) (hn : xs.length ≤ 1000000000) (K : AV → AH → Prop) (hk : K (.one (.c (.bool (accountsOk xs)))) []) : ACalls Tryz.prog 75 [(.one (.im (xs.map accountC)))] [] K := by
  refine acall_c Tryz.f75.results.toList mixed Tryz.func75 rfl rfl (by kernel_rfl) ?_
  intro Q hQ hQO
  simp only [go_sem]
  refine for_at (xs.length) [0, 5, 6] (fun i f h => f 7 = (.one (.c (.int .i64 (i)))) ∧ h = [] ∧ allTo (rowG accP accLt xs) i = true) (GC.now ?_) ?_
  · simp only [go_sem, nc_0, true_and]
    rfl
  · rintro i f h J hi hA ⟨e7, rfl, hP⟩ hJ
    simp only [go_sem] at hA
    simp only [go_sem, hA, e7]
    refine c_split (fun hb => ?_) (fun hb => ?_)
    rotate_left
    · simp only [go_sem, hb, hA, e7]
      obtain rfl := ge_len hb hi
      (try simp only [go_sem, hA, e7]); repeat' (first | (with_reducible refine c_split (fun hb => ?_) (fun hb => ?_) <;> try simp only [go_sem, hb, hA, e7]) | (with_reducible refine w_split (fun hb => ?_) (fun hb => ?_) <;> try simp only [go_sem, hb, hA, e7]) | (with_reducible refine tw_split (fun hb => ?_) (fun hb => ?_) <;> try simp only [go_sem, hb, hA, e7]) | (with_reducible refine draw_at 0 12 (by with_unfolding_all rfl) [(0, false, true), (1, false, true), (2, false, true), (3, false, true), (4, false, true), (5, false, true), (6, false, true), (7, false, true), (8, false, true), (9, false, true), (10, false, true), (11, false, true), (12, false, true), (13, false, true), (14, true, true), (15, true, true), (16, true, true), (17, true, true), (18, true, true), (19, true, true), (20, false, false), (21, false, false), (22, false, true), (23, false, true), (24, false, true)] (by kernel_rfl) ?_ <;> try simp only [go_sem, hA, e7]) | (with_reducible refine hQ _ _ ?_ <;> simp only [Tryz.f75, go_sem, hA, e7]))
      exact kB hk (by rw [accountsOk, okL, hP, Bool.true_and])
    have hi := lt_len hb
    have hw := wrap_nat i (by omega)
    have hil : (i : Int) < ((xs.length : Nat) : Int) := Int.ofNat_lt.2 hi
    have hg0 : (xs)[i]? = some ((xs)[i]) := List.getElem?_eq_getElem (by omega)
    simp only [go_sem, hb, hA, e7, hg0]
    try simp only [go_sem, hA, e7, hil, hg0]
    cases hr : rowG accP accLt xs i with
    | true =>
      have hall := allTo_s hP hr
      rcases i with _ | j
      · have g0 : decide ((0 : Int) < ((0 : Nat) : Int)) = false := by decide
        rw [rowG_0 hi] at hr
        simp only [accP, Bool.and_eq_true] at hr
        obtain ⟨f0, f1⟩ := hr
        (try simp only [go_sem, hA, e7, hil, hg0, g0, f0, f1]); repeat' (first | (with_reducible refine c_split (fun hb => ?_) (fun hb => ?_) <;> try simp only [go_sem, hb, hA, e7, hil, hg0, g0, f0, f1]) | (with_reducible refine w_split (fun hb => ?_) (fun hb => ?_) <;> try simp only [go_sem, hb, hA, e7, hil, hg0, g0, f0, f1]) | (with_reducible refine tw_split (fun hb => ?_) (fun hb => ?_) <;> try simp only [go_sem, hb, hA, e7, hil, hg0, g0, f0, f1]) | (with_reducible refine draw_at 0 12 (by with_unfolding_all rfl) [(0, false, true), (1, false, true), (2, false, true), (3, false, true), (4, false, true), (5, false, true), (6, false, true), (7, false, true), (8, false, true), (9, false, true), (10, false, true), (11, false, true), (12, false, true), (13, false, true), (14, true, true), (15, true, true), (16, true, true), (17, true, true), (18, true, true), (19, true, true), (20, false, false), (21, false, false), (22, false, true), (23, false, true), (24, false, true)] (by kernel_rfl) ?_ <;> try simp only [go_sem, hA, e7, hil, hg0, g0, f0, f1]) | (refine call_c (c_isNo _ _ ?_) <;> try simp only [go_sem, hA, e7, hil, hg0, g0, f0, f1]) | (refine call_c (c_in _ _ _ _ ?_) <;> try simp only [go_sem, hA, e7, hil, hg0, g0, f0, f1]) | (fail))
        refine gc_trim 0 (by decide) (by simp only [go_sem]) (by simp only [go_sem]) (hJ _ _ hi (by simp only [go_sem, hA, e7]) ⟨?_, ?_, ?_⟩) <;> try simp only [go_sem, hA, e7, hw]
        exact hall
      · have hj : j < xs.length := by omega
        have hgj : xs[j]? = some xs[j] := List.getElem?_eq_getElem hj
        have g1 : decide ((0 : Int) < ((j + 1 : Nat) : Int)) = true := decide_eq_true (by omega)
        have g2 : wrap64 (((j + 1 : Nat) : Int) - 1) = (j : Int) := by unfold wrap64; omega
        rw [rowG_s hi, Bool.and_eq_true] at hr
        obtain ⟨hr, hlt⟩ := hr
        simp only [accP, Bool.and_eq_true] at hr
        obtain ⟨f0, f1⟩ := hr
        have hlt2 := accLt_f hlt
        (try simp only [go_sem, hA, e7, hil, hg0, g1, g2, hgj, hlt2, f0, f1]); repeat' (first | (with_reducible refine c_split (fun hb => ?_) (fun hb => ?_) <;> try simp only [go_sem, hb, hA, e7, hil, hg0, g1, g2, hgj, hlt2, f0, f1]) | (with_reducible refine w_split (fun hb => ?_) (fun hb => ?_) <;> try simp only [go_sem, hb, hA, e7, hil, hg0, g1, g2, hgj, hlt2, f0, f1]) | (with_reducible refine tw_split (fun hb => ?_) (fun hb => ?_) <;> try simp only [go_sem, hb, hA, e7, hil, hg0, g1, g2, hgj, hlt2, f0, f1]) | (with_reducible refine draw_at 0 12 (by with_unfolding_all rfl) [(0, false, true), (1, false, true), (2, false, true), (3, false, true), (4, false, true), (5, false, true), (6, false, true), (7, false, true), (8, false, true), (9, false, true), (10, false, true), (11, false, true), (12, false, true), (13, false, true), (14, true, true), (15, true, true), (16, true, true), (17, true, true), (18, true, true), (19, true, true), (20, false, false), (21, false, false), (22, false, true), (23, false, true), (24, false, true)] (by kernel_rfl) ?_ <;> try simp only [go_sem, hA, e7, hil, hg0, g1, g2, hgj, hlt2, f0, f1]) | (refine call_c (c_isNo _ _ ?_) <;> try simp only [go_sem, hA, e7, hil, hg0, g1, g2, hgj, hlt2, f0, f1]) | (refine call_c (c_in _ _ _ _ ?_) <;> try simp only [go_sem, hA, e7, hil, hg0, g1, g2, hgj, hlt2, f0, f1]) | (fail))
        refine gc_trim 0 (by decide) (by simp only [go_sem]) (by simp only [go_sem]) (hJ _ _ hi (by simp only [go_sem, hA, e7]) ⟨?_, ?_, ?_⟩) <;> try simp only [go_sem, hA, e7, hw]
        exact hall
    | false =>
      rw [accountsOk, okL_no hr hi] at hk
      rcases i with _ | j
      · have g0 : decide ((0 : Int) < ((0 : Nat) : Int)) = false := by decide
        rw [rowG_0 hi] at hr
        (try simp only [go_sem, hA, e7, hil, hg0, g0]); repeat' (first | (with_reducible refine c_split (fun hb => ?_) (fun hb => ?_) <;> try simp only [go_sem, hb, hA, e7, hil, hg0, g0]) | (with_reducible refine w_split (fun hb => ?_) (fun hb => ?_) <;> try simp only [go_sem, hb, hA, e7, hil, hg0, g0]) | (with_reducible refine tw_split (fun hb => ?_) (fun hb => ?_) <;> try simp only [go_sem, hb, hA, e7, hil, hg0, g0]) | (with_reducible refine draw_at 0 12 (by with_unfolding_all rfl) [(0, false, true), (1, false, true), (2, false, true), (3, false, true), (4, false, true), (5, false, true), (6, false, true), (7, false, true), (8, false, true), (9, false, true), (10, false, true), (11, false, true), (12, false, true), (13, false, true), (14, true, true), (15, true, true), (16, true, true), (17, true, true), (18, true, true), (19, true, true), (20, false, false), (21, false, false), (22, false, true), (23, false, true), (24, false, true)] (by kernel_rfl) ?_ <;> try simp only [go_sem, hA, e7, hil, hg0, g0]) | (refine call_c (c_isNo _ _ ?_) <;> try simp only [go_sem, hA, e7, hil, hg0, g0]) | (refine call_c (c_in _ _ _ _ ?_) <;> try simp only [go_sem, hA, e7, hil, hg0, g0]) | (with_reducible refine hQ _ _ ?_ <;> simp only [Tryz.f75, go_sem, hA, e7, hil, hg0, g0]))
        all_goals first | exact hk | exact (Bool.eq_false_iff.1 hr (by clear hr hJ hA hQ hQO; simp only [accP]; simp_all <;> omega)).elim
      · have hj : j < xs.length := by omega
        have hgj : xs[j]? = some xs[j] := List.getElem?_eq_getElem hj
        have g1 : decide ((0 : Int) < ((j + 1 : Nat) : Int)) = true := decide_eq_true (by omega)
        have g2 : wrap64 (((j + 1 : Nat) : Int) - 1) = (j : Int) := by unfold wrap64; omega
        rw [rowG_s hi] at hr
        (try simp only [go_sem, hA, e7, hil, hg0, g1, g2, hgj]); repeat' (first | (with_reducible refine c_split (fun hb => ?_) (fun hb => ?_) <;> try simp only [go_sem, hb, hA, e7, hil, hg0, g1, g2, hgj]) | (with_reducible refine w_split (fun hb => ?_) (fun hb => ?_) <;> try simp only [go_sem, hb, hA, e7, hil, hg0, g1, g2, hgj]) | (with_reducible refine tw_split (fun hb => ?_) (fun hb => ?_) <;> try simp only [go_sem, hb, hA, e7, hil, hg0, g1, g2, hgj]) | (with_reducible refine draw_at 0 12 (by with_unfolding_all rfl) [(0, false, true), (1, false, true), (2, false, true), (3, false, true), (4, false, true), (5, false, true), (6, false, true), (7, false, true), (8, false, true), (9, false, true), (10, false, true), (11, false, true), (12, false, true), (13, false, true), (14, true, true), (15, true, true), (16, true, true), (17, true, true), (18, true, true), (19, true, true), (20, false, false), (21, false, false), (22, false, true), (23, false, true), (24, false, true)] (by kernel_rfl) ?_ <;> try simp only [go_sem, hA, e7, hil, hg0, g1, g2, hgj]) | (refine call_c (c_isNo _ _ ?_) <;> try simp only [go_sem, hA, e7, hil, hg0, g1, g2, hgj]) | (refine call_c (c_in _ _ _ _ ?_) <;> try simp only [go_sem, hA, e7, hil, hg0, g1, g2, hgj]) | (with_reducible refine hQ _ _ ?_ <;> simp only [Tryz.f75, go_sem, hA, e7, hil, hg0, g1, g2, hgj]))
        all_goals first | exact hk | exact (Bool.eq_false_iff.1 hr (by clear hr hJ hA hQ hQO; simp only [accP, accLt]; simp_all <;> omega)).elim
set_option maxHeartbeats 2000000 in
theorem c_spec_AccountsOk (xs : List Account) (hn : xs.length ≤ 1000000000) (K : AV → AH → Prop) (hk : K (.one (.c (.bool (accountsOk xs)))) []) : ACalls Tryz.prog 63 [(.one (.im (xs.map accountC)))] [] K := by
  refine acall_c Tryz.f63.results.toList mixed Tryz.func63 rfl rfl (by kernel_rfl) ?_
  intro Q hQ hQO
  simp only [go_sem]
  (try simp only [go_sem]); repeat' (first | (with_reducible refine c_split (fun hb => ?_) (fun hb => ?_) <;> try simp only [go_sem, hb]) | (with_reducible refine w_split (fun hb => ?_) (fun hb => ?_) <;> try simp only [go_sem, hb]) | (with_reducible refine tw_split (fun hb => ?_) (fun hb => ?_) <;> try simp only [go_sem, hb]) | (with_reducible refine draw_at 0 13 (by with_unfolding_all rfl) [(0, true, true), (1, false, true), (2, false, true), (3, false, true), (4, false, true), (5, false, true), (6, false, true), (7, false, true), (8, true, true), (9, false, true), (10, false, true), (11, false, true), (12, false, true), (13, false, true), (14, false, true), (15, false, true), (16, false, true), (17, false, true), (18, false, true), (19, false, true), (20, true, true), (21, true, true), (22, true, true), (23, true, true), (24, true, true), (25, true, true), (26, true, false), (27, false, false), (28, false, false), (29, false, false), (30, false, false), (31, false, true), (32, false, true), (33, false, true)] (by kernel_rfl) ?_ <;> try simp only [go_sem]) | (fail))
  · rw [accountsOk, okL_long (of_decide_eq_true hb)] at hk
    (try simp only [go_sem]); repeat' (first | (with_reducible refine c_split (fun hb => ?_) (fun hb => ?_) <;> try simp only [go_sem, hb]) | (with_reducible refine w_split (fun hb => ?_) (fun hb => ?_) <;> try simp only [go_sem, hb]) | (with_reducible refine tw_split (fun hb => ?_) (fun hb => ?_) <;> try simp only [go_sem, hb]) | (with_reducible refine draw_at 0 13 (by with_unfolding_all rfl) [(0, true, true), (1, false, true), (2, false, true), (3, false, true), (4, false, true), (5, false, true), (6, false, true), (7, false, true), (8, true, true), (9, false, true), (10, false, true), (11, false, true), (12, false, true), (13, false, true), (14, false, true), (15, false, true), (16, false, true), (17, false, true), (18, false, true), (19, false, true), (20, true, true), (21, true, true), (22, true, true), (23, true, true), (24, true, true), (25, true, true), (26, true, false), (27, false, false), (28, false, false), (29, false, false), (30, false, false), (31, false, true), (32, false, true), (33, false, true)] (by kernel_rfl) ?_ <;> try simp only [go_sem]) | (with_reducible refine hQ _ _ ?_ <;> simp only [Tryz.f63, go_sem]))
    exact hk
  · have hlen := of_decide_eq_false hb
    refine for_at (xs.length) [0] (fun i f h => f 3 = (.one (.c (.int .i64 (i)))) ∧ h = [] ∧ allTo (rowG accP accLt xs) i = true) (GC.now ?_) ?_
    · simp only [go_sem, nc_0, true_and]
      rfl
    · rintro i f h J hi hA ⟨e3, rfl, hP⟩ hJ
      simp only [go_sem] at hA
      simp only [go_sem, hA, e3]
      refine c_split (fun hb => ?_) (fun hb => ?_)
      rotate_left
      · simp only [go_sem, hb, hA, e3]
        obtain rfl := ge_len hb hi
        (try simp only [go_sem, hA, e3]); repeat' (first | (with_reducible refine c_split (fun hb => ?_) (fun hb => ?_) <;> try simp only [go_sem, hb, hA, e3]) | (with_reducible refine w_split (fun hb => ?_) (fun hb => ?_) <;> try simp only [go_sem, hb, hA, e3]) | (with_reducible refine tw_split (fun hb => ?_) (fun hb => ?_) <;> try simp only [go_sem, hb, hA, e3]) | (with_reducible refine draw_at 0 13 (by with_unfolding_all rfl) [(0, true, true), (1, false, true), (2, false, true), (3, false, true), (4, false, true), (5, false, true), (6, false, true), (7, false, true), (8, true, true), (9, false, true), (10, false, true), (11, false, true), (12, false, true), (13, false, true), (14, false, true), (15, false, true), (16, false, true), (17, false, true), (18, false, true), (19, false, true), (20, true, true), (21, true, true), (22, true, true), (23, true, true), (24, true, true), (25, true, true), (26, true, false), (27, false, false), (28, false, false), (29, false, false), (30, false, false), (31, false, true), (32, false, true), (33, false, true)] (by kernel_rfl) ?_ <;> try simp only [go_sem, hA, e3]) | (with_reducible refine hQ _ _ ?_ <;> simp only [Tryz.f63, go_sem, hA, e3]))
        exact kB hk (by rw [accountsOk, okL, hP, Bool.true_and, decide_eq_true (by omega)])
      have hi := lt_len hb
      have hw := wrap_nat i (by omega)
      have hil : (i : Int) < ((xs.length : Nat) : Int) := Int.ofNat_lt.2 hi
      have hg0 : (xs)[i]? = some ((xs)[i]) := List.getElem?_eq_getElem (by omega)
      simp only [go_sem, hb, hA, e3, hg0]
      try simp only [go_sem, hA, e3, hil, hg0]
      cases hr : rowG accP accLt xs i with
      | true =>
        have hall := allTo_s hP hr
        rcases i with _ | j
        · have g0 : decide ((0 : Int) < ((0 : Nat) : Int)) = false := by decide
          rw [rowG_0 hi] at hr
          simp only [accP, Bool.and_eq_true] at hr
          obtain ⟨f0, f1⟩ := hr
          (try simp only [go_sem, hA, e3, hil, hg0, g0, f0, f1]); repeat' (first | (with_reducible refine c_split (fun hb => ?_) (fun hb => ?_) <;> try simp only [go_sem, hb, hA, e3, hil, hg0, g0, f0, f1]) | (with_reducible refine w_split (fun hb => ?_) (fun hb => ?_) <;> try simp only [go_sem, hb, hA, e3, hil, hg0, g0, f0, f1]) | (with_reducible refine tw_split (fun hb => ?_) (fun hb => ?_) <;> try simp only [go_sem, hb, hA, e3, hil, hg0, g0, f0, f1]) | (with_reducible refine draw_at 0 13 (by with_unfolding_all rfl) [(0, true, true), (1, false, true), (2, false, true), (3, false, true), (4, false, true), (5, false, true), (6, false, true), (7, false, true), (8, true, true), (9, false, true), (10, false, true), (11, false, true), (12, false, true), (13, false, true), (14, false, true), (15, false, true), (16, false, true), (17, false, true), (18, false, true), (19, false, true), (20, true, true), (21, true, true), (22, true, true), (23, true, true), (24, true, true), (25, true, true), (26, true, false), (27, false, false), (28, false, false), (29, false, false), (30, false, false), (31, false, true), (32, false, true), (33, false, true)] (by kernel_rfl) ?_ <;> try simp only [go_sem, hA, e3, hil, hg0, g0, f0, f1]) | (refine call_c (c_l3No _ _ ?_) <;> try simp only [go_sem, hA, e3, hil, hg0, g0, f0, f1]) | (refine call_c (c_l1In _ _ _ _ ?_) <;> try simp only [go_sem, hA, e3, hil, hg0, g0, f0, f1]) | (fail))
          refine gc_trim 0 (by decide) (by simp only [go_sem]) (by simp only [go_sem]) (hJ _ _ hi (by simp only [go_sem, hA, e3]) ⟨?_, ?_, ?_⟩) <;> try simp only [go_sem, hA, e3, hw]
          exact hall
        · have hj : j < xs.length := by omega
          have hgj : xs[j]? = some xs[j] := List.getElem?_eq_getElem hj
          have g1 : decide ((0 : Int) < ((j + 1 : Nat) : Int)) = true := decide_eq_true (by omega)
          have g2 : wrap64 (((j + 1 : Nat) : Int) - 1) = (j : Int) := by unfold wrap64; omega
          rw [rowG_s hi, Bool.and_eq_true] at hr
          obtain ⟨hr, hlt⟩ := hr
          simp only [accP, Bool.and_eq_true] at hr
          obtain ⟨f0, f1⟩ := hr
          have hlt2 := accLt_f hlt
          (try simp only [go_sem, hA, e3, hil, hg0, g1, g2, hgj, hlt2, f0, f1]); repeat' (first | (with_reducible refine c_split (fun hb => ?_) (fun hb => ?_) <;> try simp only [go_sem, hb, hA, e3, hil, hg0, g1, g2, hgj, hlt2, f0, f1]) | (with_reducible refine w_split (fun hb => ?_) (fun hb => ?_) <;> try simp only [go_sem, hb, hA, e3, hil, hg0, g1, g2, hgj, hlt2, f0, f1]) | (with_reducible refine tw_split (fun hb => ?_) (fun hb => ?_) <;> try simp only [go_sem, hb, hA, e3, hil, hg0, g1, g2, hgj, hlt2, f0, f1]) | (with_reducible refine draw_at 0 13 (by with_unfolding_all rfl) [(0, true, true), (1, false, true), (2, false, true), (3, false, true), (4, false, true), (5, false, true), (6, false, true), (7, false, true), (8, true, true), (9, false, true), (10, false, true), (11, false, true), (12, false, true), (13, false, true), (14, false, true), (15, false, true), (16, false, true), (17, false, true), (18, false, true), (19, false, true), (20, true, true), (21, true, true), (22, true, true), (23, true, true), (24, true, true), (25, true, true), (26, true, false), (27, false, false), (28, false, false), (29, false, false), (30, false, false), (31, false, true), (32, false, true), (33, false, true)] (by kernel_rfl) ?_ <;> try simp only [go_sem, hA, e3, hil, hg0, g1, g2, hgj, hlt2, f0, f1]) | (refine call_c (c_l3No _ _ ?_) <;> try simp only [go_sem, hA, e3, hil, hg0, g1, g2, hgj, hlt2, f0, f1]) | (refine call_c (c_l1In _ _ _ _ ?_) <;> try simp only [go_sem, hA, e3, hil, hg0, g1, g2, hgj, hlt2, f0, f1]) | (fail))
          refine gc_trim 0 (by decide) (by simp only [go_sem]) (by simp only [go_sem]) (hJ _ _ hi (by simp only [go_sem, hA, e3]) ⟨?_, ?_, ?_⟩) <;> try simp only [go_sem, hA, e3, hw]
          exact hall
      | false =>
        rw [accountsOk, okL_no hr hi] at hk
        rcases i with _ | j
        · have g0 : decide ((0 : Int) < ((0 : Nat) : Int)) = false := by decide
          rw [rowG_0 hi] at hr
          (try simp only [go_sem, hA, e3, hil, hg0, g0]); repeat' (first | (with_reducible refine c_split (fun hb => ?_) (fun hb => ?_) <;> try simp only [go_sem, hb, hA, e3, hil, hg0, g0]) | (with_reducible refine w_split (fun hb => ?_) (fun hb => ?_) <;> try simp only [go_sem, hb, hA, e3, hil, hg0, g0]) | (with_reducible refine tw_split (fun hb => ?_) (fun hb => ?_) <;> try simp only [go_sem, hb, hA, e3, hil, hg0, g0]) | (with_reducible refine draw_at 0 13 (by with_unfolding_all rfl) [(0, true, true), (1, false, true), (2, false, true), (3, false, true), (4, false, true), (5, false, true), (6, false, true), (7, false, true), (8, true, true), (9, false, true), (10, false, true), (11, false, true), (12, false, true), (13, false, true), (14, false, true), (15, false, true), (16, false, true), (17, false, true), (18, false, true), (19, false, true), (20, true, true), (21, true, true), (22, true, true), (23, true, true), (24, true, true), (25, true, true), (26, true, false), (27, false, false), (28, false, false), (29, false, false), (30, false, false), (31, false, true), (32, false, true), (33, false, true)] (by kernel_rfl) ?_ <;> try simp only [go_sem, hA, e3, hil, hg0, g0]) | (refine call_c (c_l3No _ _ ?_) <;> try simp only [go_sem, hA, e3, hil, hg0, g0]) | (refine call_c (c_l1In _ _ _ _ ?_) <;> try simp only [go_sem, hA, e3, hil, hg0, g0]) | (with_reducible refine hQ _ _ ?_ <;> simp only [Tryz.f63, go_sem, hA, e3, hil, hg0, g0]))
          all_goals first | exact hk | exact (Bool.eq_false_iff.1 hr (by clear hr hJ hA hQ hQO; simp only [accP]; simp_all <;> omega)).elim
        · have hj : j < xs.length := by omega
          have hgj : xs[j]? = some xs[j] := List.getElem?_eq_getElem hj
          have g1 : decide ((0 : Int) < ((j + 1 : Nat) : Int)) = true := decide_eq_true (by omega)
          have g2 : wrap64 (((j + 1 : Nat) : Int) - 1) = (j : Int) := by unfold wrap64; omega
          rw [rowG_s hi] at hr
          (try simp only [go_sem, hA, e3, hil, hg0, g1, g2, hgj]); repeat' (first | (with_reducible refine c_split (fun hb => ?_) (fun hb => ?_) <;> try simp only [go_sem, hb, hA, e3, hil, hg0, g1, g2, hgj]) | (with_reducible refine w_split (fun hb => ?_) (fun hb => ?_) <;> try simp only [go_sem, hb, hA, e3, hil, hg0, g1, g2, hgj]) | (with_reducible refine tw_split (fun hb => ?_) (fun hb => ?_) <;> try simp only [go_sem, hb, hA, e3, hil, hg0, g1, g2, hgj]) | (with_reducible refine draw_at 0 13 (by with_unfolding_all rfl) [(0, true, true), (1, false, true), (2, false, true), (3, false, true), (4, false, true), (5, false, true), (6, false, true), (7, false, true), (8, true, true), (9, false, true), (10, false, true), (11, false, true), (12, false, true), (13, false, true), (14, false, true), (15, false, true), (16, false, true), (17, false, true), (18, false, true), (19, false, true), (20, true, true), (21, true, true), (22, true, true), (23, true, true), (24, true, true), (25, true, true), (26, true, false), (27, false, false), (28, false, false), (29, false, false), (30, false, false), (31, false, true), (32, false, true), (33, false, true)] (by kernel_rfl) ?_ <;> try simp only [go_sem, hA, e3, hil, hg0, g1, g2, hgj]) | (refine call_c (c_l3No _ _ ?_) <;> try simp only [go_sem, hA, e3, hil, hg0, g1, g2, hgj]) | (refine call_c (c_l1In _ _ _ _ ?_) <;> try simp only [go_sem, hA, e3, hil, hg0, g1, g2, hgj]) | (with_reducible refine hQ _ _ ?_ <;> simp only [Tryz.f63, go_sem, hA, e3, hil, hg0, g1, g2, hgj]))
          all_goals first | exact hk | exact (Bool.eq_false_iff.1 hr (by clear hr hJ hA hQ hQO; simp only [accP, accLt]; simp_all <;> omega)).elim
set_option maxHeartbeats 2000000 in
theorem c_impl_InstrsOk (xs : List Account) (hn : xs.length ≤ 1000000000) (K : AV → AH → Prop) (hk : K (.one (.c (.bool (instrsOk xs)))) []) : ACalls Tryz.prog 76 [(.one (.im (xs.map accountC)))] [] K := by
  refine acall_c Tryz.f76.results.toList mixed Tryz.func76 rfl rfl (by kernel_rfl) ?_
  intro Q hQ hQO
  simp only [go_sem]
  refine for_at (xs.length) [0, 5, 6] (fun i f h => f 7 = (.one (.c (.int .i64 (i)))) ∧ h = [] ∧ allTo (rowG insP insLt xs) i = true) (GC.now ?_) ?_
  · simp only [go_sem, nc_0, true_and]
    rfl
  · rintro i f h J hi hA ⟨e7, rfl, hP⟩ hJ
    simp only [go_sem] at hA
    simp only [go_sem, hA, e7]
    refine c_split (fun hb => ?_) (fun hb => ?_)
    rotate_left
    · simp only [go_sem, hb, hA, e7]
      obtain rfl := ge_len hb hi
      (try simp only [go_sem, hA, e7]); repeat' (first | (with_reducible refine c_split (fun hb => ?_) (fun hb => ?_) <;> try simp only [go_sem, hb, hA, e7]) | (with_reducible refine w_split (fun hb => ?_) (fun hb => ?_) <;> try simp only [go_sem, hb, hA, e7]) | (with_reducible refine tw_split (fun hb => ?_) (fun hb => ?_) <;> try simp only [go_sem, hb, hA, e7]) | (with_reducible refine draw_at 0 12 (by with_unfolding_all rfl) [(0, false, true), (1, false, true), (2, false, true), (3, false, true), (4, false, true), (5, false, true), (6, false, true), (7, false, true), (8, false, true), (9, false, true), (10, false, true), (11, false, true), (12, false, true), (13, false, true), (14, true, true), (15, true, true), (16, true, true), (17, true, true), (18, true, true), (19, true, true), (20, false, false), (21, false, false), (22, false, true), (23, false, true), (24, false, true)] (by kernel_rfl) ?_ <;> try simp only [go_sem, hA, e7]) | (with_reducible refine hQ _ _ ?_ <;> simp only [Tryz.f76, go_sem, hA, e7]))
      exact kB hk (by rw [instrsOk, okL, hP, Bool.true_and])
    have hi := lt_len hb
    have hw := wrap_nat i (by omega)
    have hil : (i : Int) < ((xs.length : Nat) : Int) := Int.ofNat_lt.2 hi
    have hg0 : (xs)[i]? = some ((xs)[i]) := List.getElem?_eq_getElem (by omega)
    simp only [go_sem, hb, hA, e7, hg0]
    try simp only [go_sem, hA, e7, hil, hg0]
    cases hr : rowG insP insLt xs i with
    | true =>
      have hall := allTo_s hP hr
      rcases i with _ | j
      · have g0 : decide ((0 : Int) < ((0 : Nat) : Int)) = false := by decide
        rw [rowG_0 hi] at hr
        simp only [insP, Bool.and_eq_true] at hr
        obtain ⟨f0, f1⟩ := hr
        (try simp only [go_sem, hA, e7, hil, hg0, g0, f0, f1]); repeat' (first | (with_reducible refine c_split (fun hb => ?_) (fun hb => ?_) <;> try simp only [go_sem, hb, hA, e7, hil, hg0, g0, f0, f1]) | (with_reducible refine w_split (fun hb => ?_) (fun hb => ?_) <;> try simp only [go_sem, hb, hA, e7, hil, hg0, g0, f0, f1]) | (with_reducible refine tw_split (fun hb => ?_) (fun hb => ?_) <;> try simp only [go_sem, hb, hA, e7, hil, hg0, g0, f0, f1]) | (with_reducible refine draw_at 0 12 (by with_unfolding_all rfl) [(0, false, true), (1, false, true), (2, false, true), (3, false, true), (4, false, true), (5, false, true), (6, false, true), (7, false, true), (8, false, true), (9, false, true), (10, false, true), (11, false, true), (12, false, true), (13, false, true), (14, true, true), (15, true, true), (16, true, true), (17, true, true), (18, true, true), (19, true, true), (20, false, false), (21, false, false), (22, false, true), (23, false, true), (24, false, true)] (by kernel_rfl) ?_ <;> try simp only [go_sem, hA, e7, hil, hg0, g0, f0, f1]) | (refine call_c (c_isNo _ _ ?_) <;> try simp only [go_sem, hA, e7, hil, hg0, g0, f0, f1]) | (refine call_c (c_in _ _ _ _ ?_) <;> try simp only [go_sem, hA, e7, hil, hg0, g0, f0, f1]) | (fail))
        refine gc_trim 0 (by decide) (by simp only [go_sem]) (by simp only [go_sem]) (hJ _ _ hi (by simp only [go_sem, hA, e7]) ⟨?_, ?_, ?_⟩) <;> try simp only [go_sem, hA, e7, hw]
        exact hall
      · have hj : j < xs.length := by omega
        have hgj : xs[j]? = some xs[j] := List.getElem?_eq_getElem hj
        have g1 : decide ((0 : Int) < ((j + 1 : Nat) : Int)) = true := decide_eq_true (by omega)
        have g2 : wrap64 (((j + 1 : Nat) : Int) - 1) = (j : Int) := by unfold wrap64; omega
        rw [rowG_s hi, Bool.and_eq_true] at hr
        obtain ⟨hr, hlt⟩ := hr
        simp only [insP, Bool.and_eq_true] at hr
        obtain ⟨f0, f1⟩ := hr
        have hlt2 := insLt_f hlt
        (try simp only [go_sem, hA, e7, hil, hg0, g1, g2, hgj, hlt2, f0, f1]); repeat' (first | (with_reducible refine c_split (fun hb => ?_) (fun hb => ?_) <;> try simp only [go_sem, hb, hA, e7, hil, hg0, g1, g2, hgj, hlt2, f0, f1]) | (with_reducible refine w_split (fun hb => ?_) (fun hb => ?_) <;> try simp only [go_sem, hb, hA, e7, hil, hg0, g1, g2, hgj, hlt2, f0, f1]) | (with_reducible refine tw_split (fun hb => ?_) (fun hb => ?_) <;> try simp only [go_sem, hb, hA, e7, hil, hg0, g1, g2, hgj, hlt2, f0, f1]) | (with_reducible refine draw_at 0 12 (by with_unfolding_all rfl) [(0, false, true), (1, false, true), (2, false, true), (3, false, true), (4, false, true), (5, false, true), (6, false, true), (7, false, true), (8, false, true), (9, false, true), (10, false, true), (11, false, true), (12, false, true), (13, false, true), (14, true, true), (15, true, true), (16, true, true), (17, true, true), (18, true, true), (19, true, true), (20, false, false), (21, false, false), (22, false, true), (23, false, true), (24, false, true)] (by kernel_rfl) ?_ <;> try simp only [go_sem, hA, e7, hil, hg0, g1, g2, hgj, hlt2, f0, f1]) | (refine call_c (c_isNo _ _ ?_) <;> try simp only [go_sem, hA, e7, hil, hg0, g1, g2, hgj, hlt2, f0, f1]) | (refine call_c (c_in _ _ _ _ ?_) <;> try simp only [go_sem, hA, e7, hil, hg0, g1, g2, hgj, hlt2, f0, f1]) | (fail))
        refine gc_trim 0 (by decide) (by simp only [go_sem]) (by simp only [go_sem]) (hJ _ _ hi (by simp only [go_sem, hA, e7]) ⟨?_, ?_, ?_⟩) <;> try simp only [go_sem, hA, e7, hw]
        exact hall
    | false =>
      rw [instrsOk, okL_no hr hi] at hk
      rcases i with _ | j
      · have g0 : decide ((0 : Int) < ((0 : Nat) : Int)) = false := by decide
        rw [rowG_0 hi] at hr
        (try simp only [go_sem, hA, e7, hil, hg0, g0]); repeat' (first | (with_reducible refine c_split (fun hb => ?_) (fun hb => ?_) <;> try simp only [go_sem, hb, hA, e7, hil, hg0, g0]) | (with_reducible refine w_split (fun hb => ?_) (fun hb => ?_) <;> try simp only [go_sem, hb, hA, e7, hil, hg0, g0]) | (with_reducible refine tw_split (fun hb => ?_) (fun hb => ?_) <;> try simp only [go_sem, hb, hA, e7, hil, hg0, g0]) | (with_reducible refine draw_at 0 12 (by with_unfolding_all rfl) [(0, false, true), (1, false, true), (2, false, true), (3, false, true), (4, false, true), (5, false, true), (6, false, true), (7, false, true), (8, false, true), (9, false, true), (10, false, true), (11, false, true), (12, false, true), (13, false, true), (14, true, true), (15, true, true), (16, true, true), (17, true, true), (18, true, true), (19, true, true), (20, false, false), (21, false, false), (22, false, true), (23, false, true), (24, false, true)] (by kernel_rfl) ?_ <;> try simp only [go_sem, hA, e7, hil, hg0, g0]) | (refine call_c (c_isNo _ _ ?_) <;> try simp only [go_sem, hA, e7, hil, hg0, g0]) | (refine call_c (c_in _ _ _ _ ?_) <;> try simp only [go_sem, hA, e7, hil, hg0, g0]) | (with_reducible refine hQ _ _ ?_ <;> simp only [Tryz.f76, go_sem, hA, e7, hil, hg0, g0]))
        all_goals first | exact hk | exact (Bool.eq_false_iff.1 hr (by clear hr hJ hA hQ hQO; simp only [insP]; simp_all <;> omega)).elim
      · have hj : j < xs.length := by omega
        have hgj : xs[j]? = some xs[j] := List.getElem?_eq_getElem hj
        have g1 : decide ((0 : Int) < ((j + 1 : Nat) : Int)) = true := decide_eq_true (by omega)
        have g2 : wrap64 (((j + 1 : Nat) : Int) - 1) = (j : Int) := by unfold wrap64; omega
        rw [rowG_s hi] at hr
        (try simp only [go_sem, hA, e7, hil, hg0, g1, g2, hgj]); repeat' (first | (with_reducible refine c_split (fun hb => ?_) (fun hb => ?_) <;> try simp only [go_sem, hb, hA, e7, hil, hg0, g1, g2, hgj]) | (with_reducible refine w_split (fun hb => ?_) (fun hb => ?_) <;> try simp only [go_sem, hb, hA, e7, hil, hg0, g1, g2, hgj]) | (with_reducible refine tw_split (fun hb => ?_) (fun hb => ?_) <;> try simp only [go_sem, hb, hA, e7, hil, hg0, g1, g2, hgj]) | (with_reducible refine draw_at 0 12 (by with_unfolding_all rfl) [(0, false, true), (1, false, true), (2, false, true), (3, false, true), (4, false, true), (5, false, true), (6, false, true), (7, false, true), (8, false, true), (9, false, true), (10, false, true), (11, false, true), (12, false, true), (13, false, true), (14, true, true), (15, true, true), (16, true, true), (17, true, true), (18, true, true), (19, true, true), (20, false, false), (21, false, false), (22, false, true), (23, false, true), (24, false, true)] (by kernel_rfl) ?_ <;> try simp only [go_sem, hA, e7, hil, hg0, g1, g2, hgj]) | (refine call_c (c_isNo _ _ ?_) <;> try simp only [go_sem, hA, e7, hil, hg0, g1, g2, hgj]) | (refine call_c (c_in _ _ _ _ ?_) <;> try simp only [go_sem, hA, e7, hil, hg0, g1, g2, hgj]) | (with_reducible refine hQ _ _ ?_ <;> simp only [Tryz.f76, go_sem, hA, e7, hil, hg0, g1, g2, hgj]))
        all_goals first | exact hk | exact (Bool.eq_false_iff.1 hr (by clear hr hJ hA hQ hQO; simp only [insP, insLt]; simp_all <;> omega)).elim
set_option maxHeartbeats 2000000 in
theorem c_spec_InstrsOk (xs : List Account) (hn : xs.length ≤ 1000000000) (K : AV → AH → Prop) (hk : K (.one (.c (.bool (instrsOk xs)))) []) : ACalls Tryz.prog 64 [(.one (.im (xs.map accountC)))] [] K := by
  refine acall_c Tryz.f64.results.toList mixed Tryz.func64 rfl rfl (by kernel_rfl) ?_
  intro Q hQ hQO
  simp only [go_sem]
  (try simp only [go_sem]); repeat' (first | (with_reducible refine c_split (fun hb => ?_) (fun hb => ?_) <;> try simp only [go_sem, hb]) | (with_reducible refine w_split (fun hb => ?_) (fun hb => ?_) <;> try simp only [go_sem, hb]) | (with_reducible refine tw_split (fun hb => ?_) (fun hb => ?_) <;> try simp only [go_sem, hb]) | (with_reducible refine draw_at 0 13 (by with_unfolding_all rfl) [(0, true, true), (1, false, true), (2, false, true), (3, false, true), (4, false, true), (5, false, true), (6, false, true), (7, false, true), (8, true, true), (9, false, true), (10, false, true), (11, false, true), (12, false, true), (13, false, true), (14, false, true), (15, false, true), (16, false, true), (17, false, true), (18, false, true), (19, false, true), (20, true, true), (21, true, true), (22, true, true), (23, true, true), (24, true, true), (25, true, true), (26, true, false), (27, false, false), (28, false, false), (29, false, false), (30, false, false), (31, false, true), (32, false, true), (33, false, true)] (by kernel_rfl) ?_ <;> try simp only [go_sem]) | (fail))
  · rw [instrsOk, okL_long (of_decide_eq_true hb)] at hk
    (try simp only [go_sem]); repeat' (first | (with_reducible refine c_split (fun hb => ?_) (fun hb => ?_) <;> try simp only [go_sem, hb]) | (with_reducible refine w_split (fun hb => ?_) (fun hb => ?_) <;> try simp only [go_sem, hb]) | (with_reducible refine tw_split (fun hb => ?_) (fun hb => ?_) <;> try simp only [go_sem, hb]) | (with_reducible refine draw_at 0 13 (by with_unfolding_all rfl) [(0, true, true), (1, false, true), (2, false, true), (3, false, true), (4, false, true), (5, false, true), (6, false, true), (7, false, true), (8, true, true), (9, false, true), (10, false, true), (11, false, true), (12, false, true), (13, false, true), (14, false, true), (15, false, true), (16, false, true), (17, false, true), (18, false, true), (19, false, true), (20, true, true), (21, true, true), (22, true, true), (23, true, true), (24, true, true), (25, true, true), (26, true, false), (27, false, false), (28, false, false), (29, false, false), (30, false, false), (31, false, true), (32, false, true), (33, false, true)] (by kernel_rfl) ?_ <;> try simp only [go_sem]) | (with_reducible refine hQ _ _ ?_ <;> simp only [Tryz.f64, go_sem]))
    exact hk
  · have hlen := of_decide_eq_false hb
    refine for_at (xs.length) [0] (fun i f h => f 3 = (.one (.c (.int .i64 (i)))) ∧ h = [] ∧ allTo (rowG insP insLt xs) i = true) (GC.now ?_) ?_
    · simp only [go_sem, nc_0, true_and]
      rfl
    · rintro i f h J hi hA ⟨e3, rfl, hP⟩ hJ
      simp only [go_sem] at hA
      simp only [go_sem, hA, e3]
      refine c_split (fun hb => ?_) (fun hb => ?_)
      rotate_left
      · simp only [go_sem, hb, hA, e3]
        obtain rfl := ge_len hb hi
        (try simp only [go_sem, hA, e3]); repeat' (first | (with_reducible refine c_split (fun hb => ?_) (fun hb => ?_) <;> try simp only [go_sem, hb, hA, e3]) | (with_reducible refine w_split (fun hb => ?_) (fun hb => ?_) <;> try simp only [go_sem, hb, hA, e3]) | (with_reducible refine tw_split (fun hb => ?_) (fun hb => ?_) <;> try simp only [go_sem, hb, hA, e3]) | (with_reducible refine draw_at 0 13 (by with_unfolding_all rfl) [(0, true, true), (1, false, true), (2, false, true), (3, false, true), (4, false, true), (5, false, true), (6, false, true), (7, false, true), (8, true, true), (9, false, true), (10, false, true), (11, false, true), (12, false, true), (13, false, true), (14, false, true), (15, false, true), (16, false, true), (17, false, true), (18, false, true), (19, false, true), (20, true, true), (21, true, true), (22, true, true), (23, true, true), (24, true, true), (25, true, true), (26, true, false), (27, false, false), (28, false, false), (29, false, false), (30, false, false), (31, false, true), (32, false, true), (33, false, true)] (by kernel_rfl) ?_ <;> try simp only [go_sem, hA, e3]) | (with_reducible refine hQ _ _ ?_ <;> simp only [Tryz.f64, go_sem, hA, e3]))
        exact kB hk (by rw [instrsOk, okL, hP, Bool.true_and, decide_eq_true (by omega)])
      have hi := lt_len hb
      have hw := wrap_nat i (by omega)
      have hil : (i : Int) < ((xs.length : Nat) : Int) := Int.ofNat_lt.2 hi
      have hg0 : (xs)[i]? = some ((xs)[i]) := List.getElem?_eq_getElem (by omega)
      simp only [go_sem, hb, hA, e3, hg0]
      try simp only [go_sem, hA, e3, hil, hg0]
      cases hr : rowG insP insLt xs i with
      | true =>
        have hall := allTo_s hP hr
        rcases i with _ | j
        · have g0 : decide ((0 : Int) < ((0 : Nat) : Int)) = false := by decide
          rw [rowG_0 hi] at hr
          simp only [insP, Bool.and_eq_true] at hr
          obtain ⟨f0, f1⟩ := hr
          (try simp only [go_sem, hA, e3, hil, hg0, g0, f0, f1]); repeat' (first | (with_reducible refine c_split (fun hb => ?_) (fun hb => ?_) <;> try simp only [go_sem, hb, hA, e3, hil, hg0, g0, f0, f1]) | (with_reducible refine w_split (fun hb => ?_) (fun hb => ?_) <;> try simp only [go_sem, hb, hA, e3, hil, hg0, g0, f0, f1]) | (with_reducible refine tw_split (fun hb => ?_) (fun hb => ?_) <;> try simp only [go_sem, hb, hA, e3, hil, hg0, g0, f0, f1]) | (with_reducible refine draw_at 0 13 (by with_unfolding_all rfl) [(0, true, true), (1, false, true), (2, false, true), (3, false, true), (4, false, true), (5, false, true), (6, false, true), (7, false, true), (8, true, true), (9, false, true), (10, false, true), (11, false, true), (12, false, true), (13, false, true), (14, false, true), (15, false, true), (16, false, true), (17, false, true), (18, false, true), (19, false, true), (20, true, true), (21, true, true), (22, true, true), (23, true, true), (24, true, true), (25, true, true), (26, true, false), (27, false, false), (28, false, false), (29, false, false), (30, false, false), (31, false, true), (32, false, true), (33, false, true)] (by kernel_rfl) ?_ <;> try simp only [go_sem, hA, e3, hil, hg0, g0, f0, f1]) | (refine call_c (c_l3No _ _ ?_) <;> try simp only [go_sem, hA, e3, hil, hg0, g0, f0, f1]) | (refine call_c (c_l1In _ _ _ _ ?_) <;> try simp only [go_sem, hA, e3, hil, hg0, g0, f0, f1]) | (fail))
          refine gc_trim 0 (by decide) (by simp only [go_sem]) (by simp only [go_sem]) (hJ _ _ hi (by simp only [go_sem, hA, e3]) ⟨?_, ?_, ?_⟩) <;> try simp only [go_sem, hA, e3, hw]
          exact hall
        · have hj : j < xs.length := by omega
          have hgj : xs[j]? = some xs[j] := List.getElem?_eq_getElem hj
          have g1 : decide ((0 : Int) < ((j + 1 : Nat) : Int)) = true := decide_eq_true (by omega)
          have g2 : wrap64 (((j + 1 : Nat) : Int) - 1) = (j : Int) := by unfold wrap64; omega
          rw [rowG_s hi, Bool.and_eq_true] at hr
          obtain ⟨hr, hlt⟩ := hr
          simp only [insP, Bool.and_eq_true] at hr
          obtain ⟨f0, f1⟩ := hr
          have hlt2 := insLt_f hlt
          (try simp only [go_sem, hA, e3, hil, hg0, g1, g2, hgj, hlt2, f0, f1]); repeat' (first | (with_reducible refine c_split (fun hb => ?_) (fun hb => ?_) <;> try simp only [go_sem, hb, hA, e3, hil, hg0, g1, g2, hgj, hlt2, f0, f1]) | (with_reducible refine w_split (fun hb => ?_) (fun hb => ?_) <;> try simp only [go_sem, hb, hA, e3, hil, hg0, g1, g2, hgj, hlt2, f0, f1]) | (with_reducible refine tw_split (fun hb => ?_) (fun hb => ?_) <;> try simp only [go_sem, hb, hA, e3, hil, hg0, g1, g2, hgj, hlt2, f0, f1]) | (with_reducible refine draw_at 0 13 (by with_unfolding_all rfl) [(0, true, true), (1, false, true), (2, false, true), (3, false, true), (4, false, true), (5, false, true), (6, false, true), (7, false, true), (8, true, true), (9, false, true), (10, false, true), (11, false, true), (12, false, true), (13, false, true), (14, false, true), (15, false, true), (16, false, true), (17, false, true), (18, false, true), (19, false, true), (20, true, true), (21, true, true), (22, true, true), (23, true, true), (24, true, true), (25, true, true), (26, true, false), (27, false, false), (28, false, false), (29, false, false), (30, false, false), (31, false, true), (32, false, true), (33, false, true)] (by kernel_rfl) ?_ <;> try simp only [go_sem, hA, e3, hil, hg0, g1, g2, hgj, hlt2, f0, f1]) | (refine call_c (c_l3No _ _ ?_) <;> try simp only [go_sem, hA, e3, hil, hg0, g1, g2, hgj, hlt2, f0, f1]) | (refine call_c (c_l1In _ _ _ _ ?_) <;> try simp only [go_sem, hA, e3, hil, hg0, g1, g2, hgj, hlt2, f0, f1]) | (fail))
          refine gc_trim 0 (by decide) (by simp only [go_sem]) (by simp only [go_sem]) (hJ _ _ hi (by simp only [go_sem, hA, e3]) ⟨?_, ?_, ?_⟩) <;> try simp only [go_sem, hA, e3, hw]
          exact hall
      | false =>
        rw [instrsOk, okL_no hr hi] at hk
        rcases i with _ | j
        · have g0 : decide ((0 : Int) < ((0 : Nat) : Int)) = false := by decide
          rw [rowG_0 hi] at hr
          (try simp only [go_sem, hA, e3, hil, hg0, g0]); repeat' (first | (with_reducible refine c_split (fun hb => ?_) (fun hb => ?_) <;> try simp only [go_sem, hb, hA, e3, hil, hg0, g0]) | (with_reducible refine w_split (fun hb => ?_) (fun hb => ?_) <;> try simp only [go_sem, hb, hA, e3, hil, hg0, g0]) | (with_reducible refine tw_split (fun hb => ?_) (fun hb => ?_) <;> try simp only [go_sem, hb, hA, e3, hil, hg0, g0]) | (with_reducible refine draw_at 0 13 (by with_unfolding_all rfl) [(0, true, true), (1, false, true), (2, false, true), (3, false, true), (4, false, true), (5, false, true), (6, false, true), (7, false, true), (8, true, true), (9, false, true), (10, false, true), (11, false, true), (12, false, true), (13, false, true), (14, false, true), (15, false, true), (16, false, true), (17, false, true), (18, false, true), (19, false, true), (20, true, true), (21, true, true), (22, true, true), (23, true, true), (24, true, true), (25, true, true), (26, true, false), (27, false, false), (28, false, false), (29, false, false), (30, false, false), (31, false, true), (32, false, true), (33, false, true)] (by kernel_rfl) ?_ <;> try simp only [go_sem, hA, e3, hil, hg0, g0]) | (refine call_c (c_l3No _ _ ?_) <;> try simp only [go_sem, hA, e3, hil, hg0, g0]) | (refine call_c (c_l1In _ _ _ _ ?_) <;> try simp only [go_sem, hA, e3, hil, hg0, g0]) | (with_reducible refine hQ _ _ ?_ <;> simp only [Tryz.f64, go_sem, hA, e3, hil, hg0, g0]))
          all_goals first | exact hk | exact (Bool.eq_false_iff.1 hr (by clear hr hJ hA hQ hQO; simp only [insP]; simp_all <;> omega)).elim
        · have hj : j < xs.length := by omega
          have hgj : xs[j]? = some xs[j] := List.getElem?_eq_getElem hj
          have g1 : decide ((0 : Int) < ((j + 1 : Nat) : Int)) = true := decide_eq_true (by omega)
          have g2 : wrap64 (((j + 1 : Nat) : Int) - 1) = (j : Int) := by unfold wrap64; omega
          rw [rowG_s hi] at hr
          (try simp only [go_sem, hA, e3, hil, hg0, g1, g2, hgj]); repeat' (first | (with_reducible refine c_split (fun hb => ?_) (fun hb => ?_) <;> try simp only [go_sem, hb, hA, e3, hil, hg0, g1, g2, hgj]) | (with_reducible refine w_split (fun hb => ?_) (fun hb => ?_) <;> try simp only [go_sem, hb, hA, e3, hil, hg0, g1, g2, hgj]) | (with_reducible refine tw_split (fun hb => ?_) (fun hb => ?_) <;> try simp only [go_sem, hb, hA, e3, hil, hg0, g1, g2, hgj]) | (with_reducible refine draw_at 0 13 (by with_unfolding_all rfl) [(0, true, true), (1, false, true), (2, false, true), (3, false, true), (4, false, true), (5, false, true), (6, false, true), (7, false, true), (8, true, true), (9, false, true), (10, false, true), (11, false, true), (12, false, true), (13, false, true), (14, false, true), (15, false, true), (16, false, true), (17, false, true), (18, false, true), (19, false, true), (20, true, true), (21, true, true), (22, true, true), (23, true, true), (24, true, true), (25, true, true), (26, true, false), (27, false, false), (28, false, false), (29, false, false), (30, false, false), (31, false, true), (32, false, true), (33, false, true)] (by kernel_rfl) ?_ <;> try simp only [go_sem, hA, e3, hil, hg0, g1, g2, hgj]) | (refine call_c (c_l3No _ _ ?_) <;> try simp only [go_sem, hA, e3, hil, hg0, g1, g2, hgj]) | (refine call_c (c_l1In _ _ _ _ ?_) <;> try simp only [go_sem, hA, e3, hil, hg0, g1, g2, hgj]) | (with_reducible refine hQ _ _ ?_ <;> simp only [Tryz.f64, go_sem, hA, e3, hil, hg0, g1, g2, hgj]))
          all_goals first | exact hk | exact (Bool.eq_false_iff.1 hr (by clear hr hJ hA hQ hQO; simp only [insP, insLt]; simp_all <;> omega)).elim
/-- A pair of numbers stands ahead of another one. -/
def pairLt (a b c d : Int) : Bool := decide (a < c) || decide (a = c) && decide (b < d)
def byBoth (a b c d : Int) : Int := if pairLt a b c d = true then -1 else if a = c ∧ b = d then 0 else 1
theorem c_byBoth (a b c d : Int) (K : AV → AH → Prop) (hk : K (.one (.c (.int .i64 (byBoth a b c d)))) []) : ACalls Tryz.prog 118 [(.one (.c (.int .i64 (a)))), (.one (.c (.int .i64 (b)))), (.one (.c (.int .i64 (c)))), (.one (.c (.int .i64 (d))))] [] K := by
  refine acall_c Tryz.f118.results.toList mixed Tryz.func118 rfl rfl (by kernel_rfl) ?_
  intro Q hQ hQO
  simp only [go_sem]
  (try simp only [go_sem]); repeat' (first | (with_reducible refine c_split (fun hb => ?_) (fun hb => ?_) <;> try simp only [go_sem, hb]) | (with_reducible refine w_split (fun hb => ?_) (fun hb => ?_) <;> try simp only [go_sem, hb]) | (with_reducible refine hQ _ _ ?_ <;> simp only [Tryz.f118, go_sem]))
  all_goals refine (congrArg (fun q => K (.one (.c (.int .i64 q))) []) ?_).mp hk
  all_goals (unfold byBoth pairLt; simp_all; try omega)
theorem c_l4Before (a b c d : Int) (K : AV → AH → Prop) (hk : K (.one (.c (.bool (pairLt a b c d)))) []) : ACalls Tryz.prog 107 [(.one (.c (.int .i64 (a)))), (.one (.c (.int .i64 (b)))), (.one (.c (.int .i64 (c)))), (.one (.c (.int .i64 (d))))] [] K := by
  refine acall_c Tryz.f107.results.toList mixed Tryz.func107 rfl rfl (by kernel_rfl) ?_
  intro Q hQ hQO
  simp only [go_sem]
  (try simp only [go_sem]); repeat' (first | (with_reducible refine c_split (fun hb => ?_) (fun hb => ?_) <;> try simp only [go_sem, hb]) | (with_reducible refine w_split (fun hb => ?_) (fun hb => ?_) <;> try simp only [go_sem, hb]) | (with_reducible refine hQ _ _ ?_ <;> simp only [Tryz.f107, go_sem]))
  all_goals (refine kB hk ?_; unfold pairLt; simp_all; try omega)
theorem byBoth_lt {a b c d : Int} : (byBoth a b c d < 0 ↔ pairLt a b c d = true) ∧ (byBoth a b c d = 0 ↔ a = c ∧ b = d) := by
  unfold byBoth
  by_cases h : pairLt a b c d = true
  · rw [if_pos h]
    refine ⟨⟨fun _ => h, fun _ => by decide⟩, ⟨fun q => by omega, fun ⟨q1, q2⟩ => ?_⟩⟩
    subst q1 q2
    simp [pairLt] at h
  · rw [if_neg h]
    split
    · rename_i q; exact ⟨⟨fun q => by omega, fun q => absurd q h⟩, ⟨fun _ => q, fun _ => rfl⟩⟩
    · rename_i q; exact ⟨⟨fun q => by omega, fun q => absurd q h⟩, ⟨fun q => by omega, fun w => absurd w q⟩⟩
theorem pairLt_by {a b c d : Int} : pairLt a b c d = decide (byBoth a b c d < 0) := by
  by_cases h : pairLt a b c d = true
  · rw [h, decide_eq_true (byBoth_lt.1.2 h)]
  · rw [decide_eq_false (fun q => h (byBoth_lt.1.1 q))]; simpa using h
def balP (x : Bal) : Bool := noOk x.account && noOk x.instr && amtOk x.amount && !(x.amount == 0)
def balLt (y x : Bal) : Bool := pairLt y.account y.instr x.account x.instr
def balsOk (xs : List Bal) : Bool := okL balP balLt 160 xs
theorem balLt_i {y x : Bal} (h : balLt y x = true) : decide (0 ≤ byBoth y.account y.instr x.account x.instr) = false := decide_eq_false (by have := byBoth_lt.1.2 h; omega)
theorem balLt_s {y x : Bal} (h : balLt y x = true) : pairLt y.account y.instr x.account x.instr = true := h
set_option maxHeartbeats 2000000 in
theorem c_impl_BalsOk (xs : List Bal) (hn : xs.length ≤ 1000000000) (K : AV → AH → Prop) (hk : K (.one (.c (.bool (balsOk xs)))) []) : ACalls Tryz.prog 77 [(.one (.im (xs.map balC)))] [] K := by
  refine acall_c Tryz.f77.results.toList mixed Tryz.func77 rfl rfl (by kernel_rfl) ?_
  intro Q hQ hQO
  simp only [go_sem]
  refine for_at (xs.length) [0, 5, 6] (fun i f h => f 7 = (.one (.c (.int .i64 (i)))) ∧ h = [] ∧ allTo (rowG balP balLt xs) i = true) (GC.now ?_) ?_
  · simp only [go_sem, nc_0, true_and]
    rfl
  · rintro i f h J hi hA ⟨e7, rfl, hP⟩ hJ
    simp only [go_sem] at hA
    simp only [go_sem, hA, e7]
    refine c_split (fun hb => ?_) (fun hb => ?_)
    rotate_left
    · simp only [go_sem, hb, hA, e7]
      obtain rfl := ge_len hb hi
      (try simp only [go_sem, hA, e7]); repeat' (first | (with_reducible refine c_split (fun hb => ?_) (fun hb => ?_) <;> try simp only [go_sem, hb, hA, e7]) | (with_reducible refine w_split (fun hb => ?_) (fun hb => ?_) <;> try simp only [go_sem, hb, hA, e7]) | (with_reducible refine tw_split (fun hb => ?_) (fun hb => ?_) <;> try simp only [go_sem, hb, hA, e7]) | (with_reducible refine draw_at 0 33 (by with_unfolding_all rfl) [(0, false, true), (1, false, true), (2, false, true), (3, true, true), (4, true, true), (5, true, true), (6, true, true), (7, true, true), (8, true, true), (9, true, false), (10, true, false), (11, true, false), (12, true, false), (13, true, false), (14, true, false), (15, true, false), (16, true, false), (17, false, false), (18, false, false), (19, false, true), (20, false, true), (21, false, true)] (by kernel_rfl) ?_ <;> try simp only [go_sem, hA, e7]) | (with_reducible refine hQ _ _ ?_ <;> simp only [Tryz.f77, go_sem, hA, e7]))
      exact kB hk (by rw [balsOk, okL, hP, Bool.true_and])
    have hi := lt_len hb
    have hw := wrap_nat i (by omega)
    have hil : (i : Int) < ((xs.length : Nat) : Int) := Int.ofNat_lt.2 hi
    have hg0 : (xs)[i]? = some ((xs)[i]) := List.getElem?_eq_getElem (by omega)
    simp only [go_sem, hb, hA, e7, hg0]
    try simp only [go_sem, hA, e7, hil, hg0]
    cases hr : rowG balP balLt xs i with
    | true =>
      have hall := allTo_s hP hr
      rcases i with _ | j
      · have g0 : decide ((0 : Int) < ((0 : Nat) : Int)) = false := by decide
        rw [rowG_0 hi] at hr
        simp only [balP, Bool.and_eq_true] at hr
        obtain ⟨⟨⟨f0, f1⟩, f2⟩, f3⟩ := hr
        have f3 := not_tt f3
        (try simp only [go_sem, hA, e7, hil, hg0, g0, f0, f1, f2, f3]); repeat' (first | (with_reducible refine c_split (fun hb => ?_) (fun hb => ?_) <;> try simp only [go_sem, hb, hA, e7, hil, hg0, g0, f0, f1, f2, f3]) | (with_reducible refine w_split (fun hb => ?_) (fun hb => ?_) <;> try simp only [go_sem, hb, hA, e7, hil, hg0, g0, f0, f1, f2, f3]) | (with_reducible refine tw_split (fun hb => ?_) (fun hb => ?_) <;> try simp only [go_sem, hb, hA, e7, hil, hg0, g0, f0, f1, f2, f3]) | (with_reducible refine draw_at 0 33 (by with_unfolding_all rfl) [(0, false, true), (1, false, true), (2, false, true), (3, true, true), (4, true, true), (5, true, true), (6, true, true), (7, true, true), (8, true, true), (9, true, false), (10, true, false), (11, true, false), (12, true, false), (13, true, false), (14, true, false), (15, true, false), (16, true, false), (17, false, false), (18, false, false), (19, false, true), (20, false, true), (21, false, true)] (by kernel_rfl) ?_ <;> try simp only [go_sem, hA, e7, hil, hg0, g0, f0, f1, f2, f3]) | (refine call_c (c_isNo _ _ ?_) <;> try simp only [go_sem, hA, e7, hil, hg0, g0, f0, f1, f2, f3]) | (refine call_c (c_impl_AmountOk _ _ ?_) <;> try simp only [go_sem, hA, e7, hil, hg0, g0, f0, f1, f2, f3]) | (refine call_c (c_byBoth _ _ _ _ _ ?_) <;> try simp only [go_sem, hA, e7, hil, hg0, g0, f0, f1, f2, f3]) | (fail))
        refine gc_trim 0 (by decide) (by simp only [go_sem]) (by simp only [go_sem]) (hJ _ _ hi (by simp only [go_sem, hA, e7]) ⟨?_, ?_, ?_⟩) <;> try simp only [go_sem, hA, e7, hw]
        exact hall
      · have hj : j < xs.length := by omega
        have hgj : xs[j]? = some xs[j] := List.getElem?_eq_getElem hj
        have g1 : decide ((0 : Int) < ((j + 1 : Nat) : Int)) = true := decide_eq_true (by omega)
        have g2 : wrap64 (((j + 1 : Nat) : Int) - 1) = (j : Int) := by unfold wrap64; omega
        rw [rowG_s hi, Bool.and_eq_true] at hr
        obtain ⟨hr, hlt⟩ := hr
        simp only [balP, Bool.and_eq_true] at hr
        obtain ⟨⟨⟨f0, f1⟩, f2⟩, f3⟩ := hr
        have f3 := not_tt f3
        have hlt2 := balLt_i hlt
        (try simp only [go_sem, hA, e7, hil, hg0, g1, g2, hgj, hlt2, f0, f1, f2, f3]); repeat' (first | (with_reducible refine c_split (fun hb => ?_) (fun hb => ?_) <;> try simp only [go_sem, hb, hA, e7, hil, hg0, g1, g2, hgj, hlt2, f0, f1, f2, f3]) | (with_reducible refine w_split (fun hb => ?_) (fun hb => ?_) <;> try simp only [go_sem, hb, hA, e7, hil, hg0, g1, g2, hgj, hlt2, f0, f1, f2, f3]) | (with_reducible refine tw_split (fun hb => ?_) (fun hb => ?_) <;> try simp only [go_sem, hb, hA, e7, hil, hg0, g1, g2, hgj, hlt2, f0, f1, f2, f3]) | (with_reducible refine draw_at 0 33 (by with_unfolding_all rfl) [(0, false, true), (1, false, true), (2, false, true), (3, true, true), (4, true, true), (5, true, true), (6, true, true), (7, true, true), (8, true, true), (9, true, false), (10, true, false), (11, true, false), (12, true, false), (13, true, false), (14, true, false), (15, true, false), (16, true, false), (17, false, false), (18, false, false), (19, false, true), (20, false, true), (21, false, true)] (by kernel_rfl) ?_ <;> try simp only [go_sem, hA, e7, hil, hg0, g1, g2, hgj, hlt2, f0, f1, f2, f3]) | (refine call_c (c_isNo _ _ ?_) <;> try simp only [go_sem, hA, e7, hil, hg0, g1, g2, hgj, hlt2, f0, f1, f2, f3]) | (refine call_c (c_impl_AmountOk _ _ ?_) <;> try simp only [go_sem, hA, e7, hil, hg0, g1, g2, hgj, hlt2, f0, f1, f2, f3]) | (refine call_c (c_byBoth _ _ _ _ _ ?_) <;> try simp only [go_sem, hA, e7, hil, hg0, g1, g2, hgj, hlt2, f0, f1, f2, f3]) | (fail))
        refine gc_trim 0 (by decide) (by simp only [go_sem]) (by simp only [go_sem]) (hJ _ _ hi (by simp only [go_sem, hA, e7]) ⟨?_, ?_, ?_⟩) <;> try simp only [go_sem, hA, e7, hw]
        exact hall
    | false =>
      rw [balsOk, okL_no hr hi] at hk
      rcases i with _ | j
      · have g0 : decide ((0 : Int) < ((0 : Nat) : Int)) = false := by decide
        rw [rowG_0 hi] at hr
        (try simp only [go_sem, hA, e7, hil, hg0, g0]); repeat' (first | (with_reducible refine c_split (fun hb => ?_) (fun hb => ?_) <;> try simp only [go_sem, hb, hA, e7, hil, hg0, g0]) | (with_reducible refine w_split (fun hb => ?_) (fun hb => ?_) <;> try simp only [go_sem, hb, hA, e7, hil, hg0, g0]) | (with_reducible refine tw_split (fun hb => ?_) (fun hb => ?_) <;> try simp only [go_sem, hb, hA, e7, hil, hg0, g0]) | (with_reducible refine draw_at 0 33 (by with_unfolding_all rfl) [(0, false, true), (1, false, true), (2, false, true), (3, true, true), (4, true, true), (5, true, true), (6, true, true), (7, true, true), (8, true, true), (9, true, false), (10, true, false), (11, true, false), (12, true, false), (13, true, false), (14, true, false), (15, true, false), (16, true, false), (17, false, false), (18, false, false), (19, false, true), (20, false, true), (21, false, true)] (by kernel_rfl) ?_ <;> try simp only [go_sem, hA, e7, hil, hg0, g0]) | (refine call_c (c_isNo _ _ ?_) <;> try simp only [go_sem, hA, e7, hil, hg0, g0]) | (refine call_c (c_impl_AmountOk _ _ ?_) <;> try simp only [go_sem, hA, e7, hil, hg0, g0]) | (refine call_c (c_byBoth _ _ _ _ _ ?_) <;> try simp only [go_sem, hA, e7, hil, hg0, g0]) | (with_reducible refine hQ _ _ ?_ <;> simp only [Tryz.f77, go_sem, hA, e7, hil, hg0, g0]))
        all_goals first | exact hk | exact (Bool.eq_false_iff.1 hr (by clear hr hJ hA hQ hQO; simp only [balP]; simp_all <;> omega)).elim
      · have hj : j < xs.length := by omega
        have hgj : xs[j]? = some xs[j] := List.getElem?_eq_getElem hj
        have g1 : decide ((0 : Int) < ((j + 1 : Nat) : Int)) = true := decide_eq_true (by omega)
        have g2 : wrap64 (((j + 1 : Nat) : Int) - 1) = (j : Int) := by unfold wrap64; omega
        rw [rowG_s hi] at hr
        (try simp only [go_sem, hA, e7, hil, hg0, g1, g2, hgj]); repeat' (first | (with_reducible refine c_split (fun hb => ?_) (fun hb => ?_) <;> try simp only [go_sem, hb, hA, e7, hil, hg0, g1, g2, hgj]) | (with_reducible refine w_split (fun hb => ?_) (fun hb => ?_) <;> try simp only [go_sem, hb, hA, e7, hil, hg0, g1, g2, hgj]) | (with_reducible refine tw_split (fun hb => ?_) (fun hb => ?_) <;> try simp only [go_sem, hb, hA, e7, hil, hg0, g1, g2, hgj]) | (with_reducible refine draw_at 0 33 (by with_unfolding_all rfl) [(0, false, true), (1, false, true), (2, false, true), (3, true, true), (4, true, true), (5, true, true), (6, true, true), (7, true, true), (8, true, true), (9, true, false), (10, true, false), (11, true, false), (12, true, false), (13, true, false), (14, true, false), (15, true, false), (16, true, false), (17, false, false), (18, false, false), (19, false, true), (20, false, true), (21, false, true)] (by kernel_rfl) ?_ <;> try simp only [go_sem, hA, e7, hil, hg0, g1, g2, hgj]) | (refine call_c (c_isNo _ _ ?_) <;> try simp only [go_sem, hA, e7, hil, hg0, g1, g2, hgj]) | (refine call_c (c_impl_AmountOk _ _ ?_) <;> try simp only [go_sem, hA, e7, hil, hg0, g1, g2, hgj]) | (refine call_c (c_byBoth _ _ _ _ _ ?_) <;> try simp only [go_sem, hA, e7, hil, hg0, g1, g2, hgj]) | (with_reducible refine hQ _ _ ?_ <;> simp only [Tryz.f77, go_sem, hA, e7, hil, hg0, g1, g2, hgj]))
        all_goals first | exact hk | exact (Bool.eq_false_iff.1 hr (by clear hr hJ hA hQ hQO; simp only [balP, balLt, pairLt_by]; simp_all <;> omega)).elim
set_option maxHeartbeats 2000000 in
theorem c_spec_BalsOk (xs : List Bal) (hn : xs.length ≤ 1000000000) (K : AV → AH → Prop) (hk : K (.one (.c (.bool (balsOk xs)))) []) : ACalls Tryz.prog 65 [(.one (.im (xs.map balC)))] [] K := by
  refine acall_c Tryz.f65.results.toList mixed Tryz.func65 rfl rfl (by kernel_rfl) ?_
  intro Q hQ hQO
  simp only [go_sem]
  (try simp only [go_sem]); repeat' (first | (with_reducible refine c_split (fun hb => ?_) (fun hb => ?_) <;> try simp only [go_sem, hb]) | (with_reducible refine w_split (fun hb => ?_) (fun hb => ?_) <;> try simp only [go_sem, hb]) | (with_reducible refine tw_split (fun hb => ?_) (fun hb => ?_) <;> try simp only [go_sem, hb]) | (with_reducible refine draw_at 0 18 (by with_unfolding_all rfl) [(0, false, true), (1, false, true), (2, false, true), (3, false, true), (4, false, true), (5, false, true), (6, false, true), (7, false, true), (8, false, true), (9, false, true), (10, false, true), (11, false, true), (12, false, true), (13, false, true), (14, false, true), (15, false, true), (16, false, true), (17, false, true), (18, false, true), (19, false, true), (20, false, true), (21, false, true), (22, false, true), (23, false, true), (24, false, true), (25, true, true), (26, true, true), (27, true, true), (28, true, true), (29, true, true), (30, true, true), (31, true, false), (32, true, false), (33, true, false), (34, true, false), (35, true, false), (36, true, false), (37, true, false), (38, true, false), (39, false, false), (40, false, false), (41, false, true), (42, false, true), (43, false, true), (44, false, true)] (by kernel_rfl) ?_ <;> try simp only [go_sem]) | (fail))
  · rw [balsOk, okL_long (of_decide_eq_true hb)] at hk
    (try simp only [go_sem]); repeat' (first | (with_reducible refine c_split (fun hb => ?_) (fun hb => ?_) <;> try simp only [go_sem, hb]) | (with_reducible refine w_split (fun hb => ?_) (fun hb => ?_) <;> try simp only [go_sem, hb]) | (with_reducible refine tw_split (fun hb => ?_) (fun hb => ?_) <;> try simp only [go_sem, hb]) | (with_reducible refine draw_at 0 18 (by with_unfolding_all rfl) [(0, false, true), (1, false, true), (2, false, true), (3, false, true), (4, false, true), (5, false, true), (6, false, true), (7, false, true), (8, false, true), (9, false, true), (10, false, true), (11, false, true), (12, false, true), (13, false, true), (14, false, true), (15, false, true), (16, false, true), (17, false, true), (18, false, true), (19, false, true), (20, false, true), (21, false, true), (22, false, true), (23, false, true), (24, false, true), (25, true, true), (26, true, true), (27, true, true), (28, true, true), (29, true, true), (30, true, true), (31, true, false), (32, true, false), (33, true, false), (34, true, false), (35, true, false), (36, true, false), (37, true, false), (38, true, false), (39, false, false), (40, false, false), (41, false, true), (42, false, true), (43, false, true), (44, false, true)] (by kernel_rfl) ?_ <;> try simp only [go_sem]) | (with_reducible refine hQ _ _ ?_ <;> simp only [Tryz.f65, go_sem]))
    exact hk
  · have hlen := of_decide_eq_false hb
    refine for_at (xs.length) [0] (fun i f h => f 3 = (.one (.c (.int .i64 (i)))) ∧ h = [] ∧ allTo (rowG balP balLt xs) i = true) (GC.now ?_) ?_
    · simp only [go_sem, nc_0, true_and]
      rfl
    · rintro i f h J hi hA ⟨e3, rfl, hP⟩ hJ
      simp only [go_sem] at hA
      simp only [go_sem, hA, e3]
      refine c_split (fun hb => ?_) (fun hb => ?_)
      rotate_left
      · simp only [go_sem, hb, hA, e3]
        obtain rfl := ge_len hb hi
        (try simp only [go_sem, hA, e3]); repeat' (first | (with_reducible refine c_split (fun hb => ?_) (fun hb => ?_) <;> try simp only [go_sem, hb, hA, e3]) | (with_reducible refine w_split (fun hb => ?_) (fun hb => ?_) <;> try simp only [go_sem, hb, hA, e3]) | (with_reducible refine tw_split (fun hb => ?_) (fun hb => ?_) <;> try simp only [go_sem, hb, hA, e3]) | (with_reducible refine draw_at 0 18 (by with_unfolding_all rfl) [(0, false, true), (1, false, true), (2, false, true), (3, false, true), (4, false, true), (5, false, true), (6, false, true), (7, false, true), (8, false, true), (9, false, true), (10, false, true), (11, false, true), (12, false, true), (13, false, true), (14, false, true), (15, false, true), (16, false, true), (17, false, true), (18, false, true), (19, false, true), (20, false, true), (21, false, true), (22, false, true), (23, false, true), (24, false, true), (25, true, true), (26, true, true), (27, true, true), (28, true, true), (29, true, true), (30, true, true), (31, true, false), (32, true, false), (33, true, false), (34, true, false), (35, true, false), (36, true, false), (37, true, false), (38, true, false), (39, false, false), (40, false, false), (41, false, true), (42, false, true), (43, false, true), (44, false, true)] (by kernel_rfl) ?_ <;> try simp only [go_sem, hA, e3]) | (with_reducible refine hQ _ _ ?_ <;> simp only [Tryz.f65, go_sem, hA, e3]))
        exact kB hk (by rw [balsOk, okL, hP, Bool.true_and, decide_eq_true (by omega)])
      have hi := lt_len hb
      have hw := wrap_nat i (by omega)
      have hil : (i : Int) < ((xs.length : Nat) : Int) := Int.ofNat_lt.2 hi
      have hg0 : (xs)[i]? = some ((xs)[i]) := List.getElem?_eq_getElem (by omega)
      simp only [go_sem, hb, hA, e3, hg0]
      try simp only [go_sem, hA, e3, hil, hg0]
      cases hr : rowG balP balLt xs i with
      | true =>
        have hall := allTo_s hP hr
        rcases i with _ | j
        · have g0 : decide ((0 : Int) < ((0 : Nat) : Int)) = false := by decide
          rw [rowG_0 hi] at hr
          simp only [balP, Bool.and_eq_true] at hr
          obtain ⟨⟨⟨f0, f1⟩, f2⟩, f3⟩ := hr
          have f3 := not_tt f3
          (try simp only [go_sem, hA, e3, hil, hg0, g0, f0, f1, f2, f3]); repeat' (first | (with_reducible refine c_split (fun hb => ?_) (fun hb => ?_) <;> try simp only [go_sem, hb, hA, e3, hil, hg0, g0, f0, f1, f2, f3]) | (with_reducible refine w_split (fun hb => ?_) (fun hb => ?_) <;> try simp only [go_sem, hb, hA, e3, hil, hg0, g0, f0, f1, f2, f3]) | (with_reducible refine tw_split (fun hb => ?_) (fun hb => ?_) <;> try simp only [go_sem, hb, hA, e3, hil, hg0, g0, f0, f1, f2, f3]) | (with_reducible refine draw_at 0 18 (by with_unfolding_all rfl) [(0, false, true), (1, false, true), (2, false, true), (3, false, true), (4, false, true), (5, false, true), (6, false, true), (7, false, true), (8, false, true), (9, false, true), (10, false, true), (11, false, true), (12, false, true), (13, false, true), (14, false, true), (15, false, true), (16, false, true), (17, false, true), (18, false, true), (19, false, true), (20, false, true), (21, false, true), (22, false, true), (23, false, true), (24, false, true), (25, true, true), (26, true, true), (27, true, true), (28, true, true), (29, true, true), (30, true, true), (31, true, false), (32, true, false), (33, true, false), (34, true, false), (35, true, false), (36, true, false), (37, true, false), (38, true, false), (39, false, false), (40, false, false), (41, false, true), (42, false, true), (43, false, true), (44, false, true)] (by kernel_rfl) ?_ <;> try simp only [go_sem, hA, e3, hil, hg0, g0, f0, f1, f2, f3]) | (refine call_c (c_l3No _ _ ?_) <;> try simp only [go_sem, hA, e3, hil, hg0, g0, f0, f1, f2, f3]) | (refine call_c (c_spec_AmountOk _ _ ?_) <;> try simp only [go_sem, hA, e3, hil, hg0, g0, f0, f1, f2, f3]) | (refine call_c (c_l4Before _ _ _ _ _ ?_) <;> try simp only [go_sem, hA, e3, hil, hg0, g0, f0, f1, f2, f3]) | (fail))
          refine gc_trim 0 (by decide) (by simp only [go_sem]) (by simp only [go_sem]) (hJ _ _ hi (by simp only [go_sem, hA, e3]) ⟨?_, ?_, ?_⟩) <;> try simp only [go_sem, hA, e3, hw]
          exact hall
        · have hj : j < xs.length := by omega
          have hgj : xs[j]? = some xs[j] := List.getElem?_eq_getElem hj
          have g1 : decide ((0 : Int) < ((j + 1 : Nat) : Int)) = true := decide_eq_true (by omega)
          have g2 : wrap64 (((j + 1 : Nat) : Int) - 1) = (j : Int) := by unfold wrap64; omega
          rw [rowG_s hi, Bool.and_eq_true] at hr
          obtain ⟨hr, hlt⟩ := hr
          simp only [balP, Bool.and_eq_true] at hr
          obtain ⟨⟨⟨f0, f1⟩, f2⟩, f3⟩ := hr
          have f3 := not_tt f3
          have hlt2 := balLt_s hlt
          (try simp only [go_sem, hA, e3, hil, hg0, g1, g2, hgj, hlt2, f0, f1, f2, f3]); repeat' (first | (with_reducible refine c_split (fun hb => ?_) (fun hb => ?_) <;> try simp only [go_sem, hb, hA, e3, hil, hg0, g1, g2, hgj, hlt2, f0, f1, f2, f3]) | (with_reducible refine w_split (fun hb => ?_) (fun hb => ?_) <;> try simp only [go_sem, hb, hA, e3, hil, hg0, g1, g2, hgj, hlt2, f0, f1, f2, f3]) | (with_reducible refine tw_split (fun hb => ?_) (fun hb => ?_) <;> try simp only [go_sem, hb, hA, e3, hil, hg0, g1, g2, hgj, hlt2, f0, f1, f2, f3]) | (with_reducible refine draw_at 0 18 (by with_unfolding_all rfl) [(0, false, true), (1, false, true), (2, false, true), (3, false, true), (4, false, true), (5, false, true), (6, false, true), (7, false, true), (8, false, true), (9, false, true), (10, false, true), (11, false, true), (12, false, true), (13, false, true), (14, false, true), (15, false, true), (16, false, true), (17, false, true), (18, false, true), (19, false, true), (20, false, true), (21, false, true), (22, false, true), (23, false, true), (24, false, true), (25, true, true), (26, true, true), (27, true, true), (28, true, true), (29, true, true), (30, true, true), (31, true, false), (32, true, false), (33, true, false), (34, true, false), (35, true, false), (36, true, false), (37, true, false), (38, true, false), (39, false, false), (40, false, false), (41, false, true), (42, false, true), (43, false, true), (44, false, true)] (by kernel_rfl) ?_ <;> try simp only [go_sem, hA, e3, hil, hg0, g1, g2, hgj, hlt2, f0, f1, f2, f3]) | (refine call_c (c_l3No _ _ ?_) <;> try simp only [go_sem, hA, e3, hil, hg0, g1, g2, hgj, hlt2, f0, f1, f2, f3]) | (refine call_c (c_spec_AmountOk _ _ ?_) <;> try simp only [go_sem, hA, e3, hil, hg0, g1, g2, hgj, hlt2, f0, f1, f2, f3]) | (refine call_c (c_l4Before _ _ _ _ _ ?_) <;> try simp only [go_sem, hA, e3, hil, hg0, g1, g2, hgj, hlt2, f0, f1, f2, f3]) | (fail))
          refine gc_trim 0 (by decide) (by simp only [go_sem]) (by simp only [go_sem]) (hJ _ _ hi (by simp only [go_sem, hA, e3]) ⟨?_, ?_, ?_⟩) <;> try simp only [go_sem, hA, e3, hw]
          exact hall
      | false =>
        rw [balsOk, okL_no hr hi] at hk
        rcases i with _ | j
        · have g0 : decide ((0 : Int) < ((0 : Nat) : Int)) = false := by decide
          rw [rowG_0 hi] at hr
          (try simp only [go_sem, hA, e3, hil, hg0, g0]); repeat' (first | (with_reducible refine c_split (fun hb => ?_) (fun hb => ?_) <;> try simp only [go_sem, hb, hA, e3, hil, hg0, g0]) | (with_reducible refine w_split (fun hb => ?_) (fun hb => ?_) <;> try simp only [go_sem, hb, hA, e3, hil, hg0, g0]) | (with_reducible refine tw_split (fun hb => ?_) (fun hb => ?_) <;> try simp only [go_sem, hb, hA, e3, hil, hg0, g0]) | (with_reducible refine draw_at 0 18 (by with_unfolding_all rfl) [(0, false, true), (1, false, true), (2, false, true), (3, false, true), (4, false, true), (5, false, true), (6, false, true), (7, false, true), (8, false, true), (9, false, true), (10, false, true), (11, false, true), (12, false, true), (13, false, true), (14, false, true), (15, false, true), (16, false, true), (17, false, true), (18, false, true), (19, false, true), (20, false, true), (21, false, true), (22, false, true), (23, false, true), (24, false, true), (25, true, true), (26, true, true), (27, true, true), (28, true, true), (29, true, true), (30, true, true), (31, true, false), (32, true, false), (33, true, false), (34, true, false), (35, true, false), (36, true, false), (37, true, false), (38, true, false), (39, false, false), (40, false, false), (41, false, true), (42, false, true), (43, false, true), (44, false, true)] (by kernel_rfl) ?_ <;> try simp only [go_sem, hA, e3, hil, hg0, g0]) | (refine call_c (c_l3No _ _ ?_) <;> try simp only [go_sem, hA, e3, hil, hg0, g0]) | (refine call_c (c_spec_AmountOk _ _ ?_) <;> try simp only [go_sem, hA, e3, hil, hg0, g0]) | (refine call_c (c_l4Before _ _ _ _ _ ?_) <;> try simp only [go_sem, hA, e3, hil, hg0, g0]) | (with_reducible refine hQ _ _ ?_ <;> simp only [Tryz.f65, go_sem, hA, e3, hil, hg0, g0]))
          all_goals first | exact hk | exact (Bool.eq_false_iff.1 hr (by clear hr hJ hA hQ hQO; simp only [balP]; simp_all <;> omega)).elim
        · have hj : j < xs.length := by omega
          have hgj : xs[j]? = some xs[j] := List.getElem?_eq_getElem hj
          have g1 : decide ((0 : Int) < ((j + 1 : Nat) : Int)) = true := decide_eq_true (by omega)
          have g2 : wrap64 (((j + 1 : Nat) : Int) - 1) = (j : Int) := by unfold wrap64; omega
          rw [rowG_s hi] at hr
          (try simp only [go_sem, hA, e3, hil, hg0, g1, g2, hgj]); repeat' (first | (with_reducible refine c_split (fun hb => ?_) (fun hb => ?_) <;> try simp only [go_sem, hb, hA, e3, hil, hg0, g1, g2, hgj]) | (with_reducible refine w_split (fun hb => ?_) (fun hb => ?_) <;> try simp only [go_sem, hb, hA, e3, hil, hg0, g1, g2, hgj]) | (with_reducible refine tw_split (fun hb => ?_) (fun hb => ?_) <;> try simp only [go_sem, hb, hA, e3, hil, hg0, g1, g2, hgj]) | (with_reducible refine draw_at 0 18 (by with_unfolding_all rfl) [(0, false, true), (1, false, true), (2, false, true), (3, false, true), (4, false, true), (5, false, true), (6, false, true), (7, false, true), (8, false, true), (9, false, true), (10, false, true), (11, false, true), (12, false, true), (13, false, true), (14, false, true), (15, false, true), (16, false, true), (17, false, true), (18, false, true), (19, false, true), (20, false, true), (21, false, true), (22, false, true), (23, false, true), (24, false, true), (25, true, true), (26, true, true), (27, true, true), (28, true, true), (29, true, true), (30, true, true), (31, true, false), (32, true, false), (33, true, false), (34, true, false), (35, true, false), (36, true, false), (37, true, false), (38, true, false), (39, false, false), (40, false, false), (41, false, true), (42, false, true), (43, false, true), (44, false, true)] (by kernel_rfl) ?_ <;> try simp only [go_sem, hA, e3, hil, hg0, g1, g2, hgj]) | (refine call_c (c_l3No _ _ ?_) <;> try simp only [go_sem, hA, e3, hil, hg0, g1, g2, hgj]) | (refine call_c (c_spec_AmountOk _ _ ?_) <;> try simp only [go_sem, hA, e3, hil, hg0, g1, g2, hgj]) | (refine call_c (c_l4Before _ _ _ _ _ ?_) <;> try simp only [go_sem, hA, e3, hil, hg0, g1, g2, hgj]) | (with_reducible refine hQ _ _ ?_ <;> simp only [Tryz.f65, go_sem, hA, e3, hil, hg0, g1, g2, hgj]))
          all_goals first | exact hk | exact (Bool.eq_false_iff.1 hr (by clear hr hJ hA hQ hQO; simp only [balP, balLt]; simp_all <;> omega)).elim
end Go.Proofs.YtedkpjaojdkpcaaGreat
