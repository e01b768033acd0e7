/- Walks of functions of the program and the laws they rest on (3 of 6). Conditions: none. -/
import Derived.Sort.AssemblyPlain
import Derived.Sort.LotD4
import Derived.Test.YtkndmncgohmjmaaGreatM2
section
namespace Go.Proofs.YtkndmncgohmjmaaGreat
open Go.BL Go.RowKit
set_option linter.unusedVariables false
set_option linter.unusedSimpArgs false
set_option maxRecDepth 100000
theorem d163_0_LBooks1 : DrawL Tryz.prog 0 12 (.on [(0, false, true), (1, false, true), (2, false, true), (3, false, true), (4, false, true), (5, false, true), (6, false, true), (7, false, true), (8, false, true), (9, false, true), (10, false, true), (11, false, true), (12, false, true), (13, false, true), (14, true, true), (15, true, true), (16, true, true), (17, true, true), (18, true, true), (19, true, true), (20, false, false), (21, false, false), (22, false, true), (23, false, true), (24, false, true)] .nil) := draw_L
theorem d150_0_LBooks1 : DrawL Tryz.prog 0 13 (.on [(0, true, true), (1, false, true), (2, false, true), (3, false, true), (4, false, true), (5, false, true), (6, false, true), (7, false, true), (8, true, true), (9, false, true), (10, false, true), (11, false, true), (12, false, true), (13, false, true), (14, false, true), (15, false, true), (16, false, true), (17, false, true), (18, false, true), (19, false, true), (20, true, true), (21, true, true), (22, true, true), (23, true, true), (24, true, true), (25, true, true), (26, true, false), (27, false, false), (28, false, false), (29, false, false), (30, false, false), (31, false, true), (32, false, true), (33, false, true)] .nil) := draw_L
theorem d164_0_LBooks1 : DrawL Tryz.prog 0 12 (.on [(0, false, true), (1, false, true), (2, false, true), (3, false, true), (4, false, true), (5, false, true), (6, false, true), (7, false, true), (8, false, true), (9, false, true), (10, false, true), (11, false, true), (12, false, true), (13, false, true), (14, true, true), (15, true, true), (16, true, true), (17, true, true), (18, true, true), (19, true, true), (20, false, false), (21, false, false), (22, false, true), (23, false, true), (24, false, true)] .nil) := draw_L
theorem d151_0_LBooks1 : DrawL Tryz.prog 0 13 (.on [(0, true, true), (1, false, true), (2, false, true), (3, false, true), (4, false, true), (5, false, true), (6, false, true), (7, false, true), (8, true, true), (9, false, true), (10, false, true), (11, false, true), (12, false, true), (13, false, true), (14, false, true), (15, false, true), (16, false, true), (17, false, true), (18, false, true), (19, false, true), (20, true, true), (21, true, true), (22, true, true), (23, true, true), (24, true, true), (25, true, true), (26, true, false), (27, false, false), (28, false, false), (29, false, false), (30, false, false), (31, false, true), (32, false, true), (33, false, true)] .nil) := draw_L
theorem d165_0_LBooks1 : DrawL Tryz.prog 0 33 (.on [(0, false, true), (1, false, true), (2, false, true), (3, true, true), (4, true, true), (5, true, true), (6, true, true), (7, true, true), (8, true, true), (9, true, false), (10, true, false), (11, true, false), (12, true, false), (13, true, false), (14, true, false), (15, true, false), (16, true, false), (17, false, false), (18, false, false), (19, false, true), (20, false, true), (21, false, true)] .nil) := draw_L
theorem d152_0_LBooks1 : DrawL Tryz.prog 0 18 (.on [(0, false, true), (1, false, true), (2, false, true), (3, false, true), (4, false, true), (5, false, true), (6, false, true), (7, false, true), (8, false, true), (9, false, true), (10, false, true), (11, false, true), (12, false, true), (13, false, true), (14, false, true), (15, false, true), (16, false, true), (17, false, true), (18, false, true), (19, false, true), (20, false, true), (21, false, true), (22, false, true), (23, false, true), (24, false, true), (25, true, true), (26, true, true), (27, true, true), (28, true, true), (29, true, true), (30, true, true), (31, true, false), (32, true, false), (33, true, false), (34, true, false), (35, true, false), (36, true, false), (37, true, false), (38, true, false), (39, false, false), (40, false, false), (41, false, true), (42, false, true), (43, false, true), (44, false, true)] .nil) := draw_L
attribute [local go_sem] accountC balC lotC tradeC
def noOk (n : Int) : Bool := decide (1 ≤ n ∧ n ≤ 1000)
def amtOk (n : Int) : Bool := decide (-1000000000000000 ≤ n ∧ n ≤ 1000000000000000)
def allTo (p : Nat → Bool) : Nat → Bool
  | 0 => true
  | n + 1 => allTo p n && p n
theorem allTo_false {p : Nat → Bool} {i : Nat} (h : p i = false) : ∀ n, i < n → allTo p n = false
  | 0, hn => absurd hn (Nat.not_lt_zero i)
  | n + 1, hn => by
    rw [allTo]
    by_cases e : i = n
    · subst e; rw [h, Bool.and_false]
    · rw [allTo_false h n (by omega), Bool.false_and]
theorem allTo_at {p : Nat → Bool} : ∀ {n : Nat}, allTo p n = true → ∀ i, i < n → p i = true
  | 0, _, i, hi => absurd hi (Nat.not_lt_zero i)
  | n + 1, h, i, hi => by
    rw [allTo, Bool.and_eq_true] at h
    by_cases e : i = n
    · subst e; exact h.2
    · exact allTo_at h.1 i (by omega)
theorem c_isNo (n : Int) (K : AV → AH → Prop) (hk : K (.one (.c (.bool (noOk n)))) []) : ACalls Tryz.prog 247 [(.one (.c (.int .i64 (n))))] [] K := by
  refine acall_c Tryz.f247.results.toList mixed Tryz.func247 rfl rfl (by kernel_rfl) ?_
  intro Q hQ hQO
  simp only [go_sem]
  (try simp only [go_sem]); repeat' (first | (with_reducible first | refine c_split ?_ ?_ | refine w_split ?_ ?_) <;> intro hb <;> try simp only [go_sem, hb] | refine call_c (c_in _ _ _ _ ?_) <;> try simp only [go_sem] | with_reducible refine hQ _ _ ?_ <;> simp only [Tryz.f247, go_sem])
  exact hk
theorem c_l3No (n : Int) (K : AV → AH → Prop) (hk : K (.one (.c (.bool (noOk n)))) []) : ACalls Tryz.prog 243 [(.one (.c (.int .i64 (n))))] [] K := by
  refine acall_c Tryz.f243.results.toList mixed Tryz.func243 rfl rfl (by kernel_rfl) ?_
  intro Q hQ hQO
  simp only [go_sem]
  (try simp only [go_sem]); repeat' (first | (with_reducible first | refine c_split ?_ ?_ | refine w_split ?_ ?_) <;> intro hb <;> try simp only [go_sem, hb] | refine call_c (c_l1In _ _ _ _ ?_) <;> try simp only [go_sem] | with_reducible refine hQ _ _ ?_ <;> simp only [Tryz.f243, go_sem])
  exact hk
theorem c_impl_AmountOk (n : Int) (K : AV → AH → Prop) (hk : K (.one (.c (.bool (amtOk n)))) []) : ACalls Tryz.prog 248 [(.one (.c (.int .i64 (n))))] [] K := by
  refine acall_c Tryz.f248.results.toList mixed Tryz.func248 rfl rfl (by kernel_rfl) ?_
  intro Q hQ hQO
  simp only [go_sem]
  (try simp only [go_sem]); repeat' (first | (with_reducible first | refine c_split ?_ ?_ | refine w_split ?_ ?_) <;> intro hb <;> try simp only [go_sem, hb] | refine call_c (c_in _ _ _ _ ?_) <;> try simp only [go_sem] | with_reducible refine hQ _ _ ?_ <;> simp only [Tryz.f248, go_sem])
  exact hk
theorem c_spec_AmountOk (n : Int) (K : AV → AH → Prop) (hk : K (.one (.c (.bool (amtOk n)))) []) : ACalls Tryz.prog 189 [(.one (.c (.int .i64 (n))))] [] K := by
  refine acall_c Tryz.f189.results.toList mixed Tryz.func189 rfl rfl (by kernel_rfl) ?_
  intro Q hQ hQO
  simp only [go_sem]
  (try simp only [go_sem]); repeat' (first | (with_reducible first | refine c_split ?_ ?_ | refine w_split ?_ ?_) <;> intro hb <;> try simp only [go_sem, hb] | refine call_c (c_l1In _ _ _ _ ?_) <;> try simp only [go_sem] | with_reducible refine hQ _ _ ?_ <;> simp only [Tryz.f189, go_sem])
  exact hk
theorem c_l1Some (n lo : Int) (K : AV → AH → Prop) (hk : K (.one (.c (.bool (decide (lo ≤ n ∧ n ≤ 1000000000000000))))) []) : ACalls Tryz.prog 75 [(.one (.c (.int .i64 (n)))), (.one (.c (.int .i64 (lo))))] [] K := by
  refine acall_c Tryz.f75.results.toList mixed Tryz.func75 rfl rfl (by kernel_rfl) ?_
  intro Q hQ hQO
  simp only [go_sem]
  (try simp only [go_sem]); repeat' (first | (with_reducible first | refine c_split ?_ ?_ | refine w_split ?_ ?_) <;> intro hb <;> try simp only [go_sem, hb] | refine call_c (c_l1In _ _ _ _ ?_) <;> try simp only [go_sem] | with_reducible refine hQ _ _ ?_ <;> simp only [Tryz.f75, go_sem])
  exact hk
def upAt {α : Type} (key : α → Int) (xs : List α) (i : Nat) (x : α) : Bool := match i with
  | 0 => true
  | j + 1 => match xs[j]? with
    | some y => decide (key y < key x)
    | none => true
theorem not_tt {b : Bool} (h : (!b) = true) : b = false := by simpa using h
def rowG {α : Type} (p : α → Bool) (lt : α → α → Bool) (xs : List α) (i : Nat) : Bool := match xs[i]? with
  | some x => p x && (match i with | 0 => true | j + 1 => match xs[j]? with | some y => lt y x | none => false)
  | none => false
theorem rowG_0 {α : Type} {p : α → Bool} {lt : α → α → Bool} {xs : List α} (hi : 0 < xs.length) : rowG p lt xs 0 = p xs[0] := by simp [rowG, hi]
theorem rowG_s {α : Type} {p : α → Bool} {lt : α → α → Bool} {xs : List α} {j : Nat} (hi : j + 1 < xs.length) : rowG p lt xs (j + 1) = (p xs[j + 1] && lt xs[j] xs[j + 1]) := by
  have : j < xs.length := by omega
  simp [rowG, hi, this]
theorem allTo_s {p : Nat → Bool} {i : Nat} (h : allTo p i = true) (hi : p i = true) : allTo p (i + 1) = true := by rw [allTo, h, hi]; rfl
def okL {α : Type} (p : α → Bool) (lt : α → α → Bool) (m : Int) (xs : List α) : Bool := allTo (rowG p lt xs) xs.length && decide ((xs.length : Int) ≤ m)
theorem okL_no {α : Type} {p : α → Bool} {lt : α → α → Bool} {m : Int} {xs : List α} {i : Nat} (h : rowG p lt xs i = false) (hi : i < xs.length) : okL p lt m xs = false := by rw [okL, allTo_false h _ hi, Bool.false_and]
theorem okL_long {α : Type} {p : α → Bool} {lt : α → α → Bool} {m : Int} {xs : List α} (h : m < xs.length) : okL p lt m xs = false := by rw [okL, decide_eq_false (by omega), Bool.and_false]
theorem okL_len {α : Type} {p : α → Bool} {lt : α → α → Bool} {m : Int} {xs : List α} (h : okL p lt m xs = true) : (xs.length : Int) ≤ m := by
  rw [okL, Bool.and_eq_true] at h; exact of_decide_eq_true h.2
theorem okL_p {α : Type} {p : α → Bool} {lt : α → α → Bool} {m : Int} {xs : List α} (h : okL p lt m xs = true) {x : α} (hx : x ∈ xs) : p x = true := by
  rw [okL, Bool.and_eq_true] at h
  obtain ⟨i, hi, rfl⟩ := List.mem_iff_getElem.1 hx
  have := allTo_at h.1 i hi
  rcases i with _ | j
  · rwa [rowG_0 hi] at this
  · rw [rowG_s hi, Bool.and_eq_true] at this; exact this.1
theorem okL_lt {α : Type} {p : α → Bool} {lt : α → α → Bool} {m : Int} {xs : List α} (h : okL p lt m xs = true) {j : Nat} (hj : j + 1 < xs.length) : lt xs[j] xs[j + 1] = true := by
  rw [okL, Bool.and_eq_true] at h
  have := allTo_at h.1 (j + 1) hj
  rw [rowG_s hj, Bool.and_eq_true] at this; exact this.2
def accP (x : Account) : Bool := noOk x.no && decide (1 ≤ x.kind ∧ x.kind ≤ 4)
def accLt (y x : Account) : Bool := decide (y.no < x.no)
def accountsOk (xs : List Account) : Bool := okL accP accLt 20 xs
theorem accLt_f {y x : Account} (h : accLt y x = true) : decide (x.no ≤ y.no) = false := by have := of_decide_eq_true h; exact decide_eq_false (by omega)
def insP (x : Account) : Bool := noOk x.no && decide (1 ≤ x.kind ∧ x.kind ≤ 2)
def insLt (y x : Account) : Bool := decide (y.no < x.no)
def instrsOk (xs : List Account) : Bool := okL insP insLt 8 xs
theorem insLt_f {y x : Account} (h : insLt y x = true) : decide (x.no ≤ y.no) = false := by have := of_decide_eq_true h; exact decide_eq_false (by omega)
set_option maxHeartbeats 2000000 in
theorem c_impl_AccountsOk (xs : List Account) (hn : xs.length ≤ 1000000000) (K : AV → AH → Prop) (hk : K (.one (.c (.bool (accountsOk xs)))) []) : ACalls Tryz.prog 163 [(.one (.im (xs.map accountC)))] [] K := by
  refine acall_c Tryz.f163.results.toList mixed Tryz.func163 rfl rfl (by kernel_rfl) ?_
  intro Q hQ hQO
  simp only [go_sem]
  refine for_at (xs.length) [0, 5, 6] (fun i f h => f 7 = (.one (.c (.int .i64 (i)))) ∧ h = [] ∧ allTo (rowG accP accLt xs) i = true) (GC.now ?_) ?_
  · simp only [go_sem, nc_0, true_and]
    rfl
  · rintro i f h J hi hA ⟨e7, rfl, hP⟩ hJ
    simp only [go_sem] at hA
    simp only [go_sem, hA, e7]
    refine c_split (fun hb => ?_) (fun hb => ?_)
    rotate_left
    · simp only [go_sem, hb, hA, e7]
      obtain rfl := ge_len hb hi
      (try simp only [go_sem, hA, e7]); repeat' (first | (with_reducible first | refine c_split ?_ ?_ | refine w_split ?_ ?_ | refine tw_split ?_ ?_) <;> intro hb <;> try simp only [go_sem, hb, hA, e7] | with_reducible refine d163_0_LBooks1 (by with_unfolding_all rfl) (by kernel_rfl) ?_ <;> try simp only [go_sem, hA, e7] | with_reducible refine hQ _ _ ?_ <;> simp only [Tryz.f163, go_sem, hA, e7])
      exact kB hk (by rw [accountsOk, okL, hP, Bool.true_and])
    have hi := lt_len hb
    have hw := wrap_nat i (by omega)
    have hil : (i : Int) < ((xs.length : Nat) : Int) := Int.ofNat_lt.2 hi
    have hg0 : (xs)[i]? = some ((xs)[i]) := List.getElem?_eq_getElem (by omega)
    simp only [go_sem, hb, hA, e7, hg0]
    try simp only [go_sem, hA, e7, hil, hg0]
    cases hr : rowG accP accLt xs i with
    | true =>
      have hall := allTo_s hP hr
      rcases i with _ | j
      · have g0 : decide ((0 : Int) < ((0 : Nat) : Int)) = false := by decide
        rw [rowG_0 hi] at hr
        simp only [accP, Bool.and_eq_true] at hr
        obtain ⟨f0, f1⟩ := hr
        (try simp only [go_sem, hA, e7, hil, hg0, g0, f0, f1]); repeat' (first | (with_reducible first | refine c_split ?_ ?_ | refine w_split ?_ ?_ | refine tw_split ?_ ?_) <;> intro hb <;> try simp only [go_sem, hb, hA, e7, hil, hg0, g0, f0, f1] | (first | with_reducible refine d163_0_LBooks1 (by with_unfolding_all rfl) (by kernel_rfl) ?_ | refine call_c (c_isNo _ _ ?_) | refine call_c (c_in _ _ _ _ ?_) | fail) <;> try simp only [go_sem, hA, e7, hil, hg0, g0, f0, f1] | fail)
        refine gc_trim 0 (by decide) (by simp only [go_sem]) (by simp only [go_sem]) (hJ _ _ hi (by simp only [go_sem, hA, e7]) ⟨?_, ?_, ?_⟩) <;> try simp only [go_sem, hA, e7, hw]
        exact hall
      · have hj : j < xs.length := by omega
        have hgj : xs[j]? = some xs[j] := List.getElem?_eq_getElem hj
        have g1 : decide ((0 : Int) < ((j + 1 : Nat) : Int)) = true := decide_eq_true (by omega)
        have g2 : wrap64 (((j + 1 : Nat) : Int) - 1) = (j : Int) := by unfold wrap64; omega
        rw [rowG_s hi, Bool.and_eq_true] at hr
        obtain ⟨hr, hlt⟩ := hr
        simp only [accP, Bool.and_eq_true] at hr
        obtain ⟨f0, f1⟩ := hr
        have hlt2 := accLt_f hlt
        (try simp only [go_sem, hA, e7, hil, hg0, g1, g2, hgj, hlt2, f0, f1]); repeat' (first | (with_reducible first | refine c_split ?_ ?_ | refine w_split ?_ ?_ | refine tw_split ?_ ?_) <;> intro hb <;> try simp only [go_sem, hb, hA, e7, hil, hg0, g1, g2, hgj, hlt2, f0, f1] | (first | with_reducible refine d163_0_LBooks1 (by with_unfolding_all rfl) (by kernel_rfl) ?_ | refine call_c (c_isNo _ _ ?_) | refine call_c (c_in _ _ _ _ ?_) | fail) <;> try simp only [go_sem, hA, e7, hil, hg0, g1, g2, hgj, hlt2, f0, f1] | fail)
        refine gc_trim 0 (by decide) (by simp only [go_sem]) (by simp only [go_sem]) (hJ _ _ hi (by simp only [go_sem, hA, e7]) ⟨?_, ?_, ?_⟩) <;> try simp only [go_sem, hA, e7, hw]
        exact hall
    | false =>
      rw [accountsOk, okL_no hr hi] at hk
      rcases i with _ | j
      · have g0 : decide ((0 : Int) < ((0 : Nat) : Int)) = false := by decide
        rw [rowG_0 hi] at hr
        (try simp only [go_sem, hA, e7, hil, hg0, g0]); repeat' (first | (with_reducible first | refine c_split ?_ ?_ | refine w_split ?_ ?_ | refine tw_split ?_ ?_) <;> intro hb <;> try simp only [go_sem, hb, hA, e7, hil, hg0, g0] | (first | with_reducible refine d163_0_LBooks1 (by with_unfolding_all rfl) (by kernel_rfl) ?_ | refine call_c (c_isNo _ _ ?_) | refine call_c (c_in _ _ _ _ ?_) | fail) <;> try simp only [go_sem, hA, e7, hil, hg0, g0] | with_reducible refine hQ _ _ ?_ <;> simp only [Tryz.f163, go_sem, hA, e7, hil, hg0, g0])
        all_goals first | exact hk | exact (Bool.eq_false_iff.1 hr (by clear hr hJ hA hQ hQO; simp only [accP]; simp_all <;> omega)).elim
      · have hj : j < xs.length := by omega
        have hgj : xs[j]? = some xs[j] := List.getElem?_eq_getElem hj
        have g1 : decide ((0 : Int) < ((j + 1 : Nat) : Int)) = true := decide_eq_true (by omega)
        have g2 : wrap64 (((j + 1 : Nat) : Int) - 1) = (j : Int) := by unfold wrap64; omega
        rw [rowG_s hi] at hr
        (try simp only [go_sem, hA, e7, hil, hg0, g1, g2, hgj]); repeat' (first | (with_reducible first | refine c_split ?_ ?_ | refine w_split ?_ ?_ | refine tw_split ?_ ?_) <;> intro hb <;> try simp only [go_sem, hb, hA, e7, hil, hg0, g1, g2, hgj] | (first | with_reducible refine d163_0_LBooks1 (by with_unfolding_all rfl) (by kernel_rfl) ?_ | refine call_c (c_isNo _ _ ?_) | refine call_c (c_in _ _ _ _ ?_) | fail) <;> try simp only [go_sem, hA, e7, hil, hg0, g1, g2, hgj] | with_reducible refine hQ _ _ ?_ <;> simp only [Tryz.f163, go_sem, hA, e7, hil, hg0, g1, g2, hgj])
        all_goals first | exact hk | exact (Bool.eq_false_iff.1 hr (by clear hr hJ hA hQ hQO; simp only [accP, accLt]; simp_all <;> omega)).elim
set_option maxHeartbeats 2000000 in
theorem c_spec_AccountsOk (xs : List Account) (hn : xs.length ≤ 1000000000) (K : AV → AH → Prop) (hk : K (.one (.c (.bool (accountsOk xs)))) []) : ACalls Tryz.prog 150 [(.one (.im (xs.map accountC)))] [] K := by
  refine acall_c Tryz.f150.results.toList mixed Tryz.func150 rfl rfl (by kernel_rfl) ?_
  intro Q hQ hQO
  simp only [go_sem]
  (try simp only [go_sem]); repeat' (first | (with_reducible first | refine c_split ?_ ?_ | refine w_split ?_ ?_ | refine tw_split ?_ ?_) <;> intro hb <;> try simp only [go_sem, hb] | with_reducible refine d150_0_LBooks1 (by with_unfolding_all rfl) (by kernel_rfl) ?_ <;> try simp only [go_sem] | fail)
  · rw [accountsOk, okL_long (of_decide_eq_true hb)] at hk
    (try simp only [go_sem]); repeat' (first | (with_reducible first | refine c_split ?_ ?_ | refine w_split ?_ ?_ | refine tw_split ?_ ?_) <;> intro hb <;> try simp only [go_sem, hb] | with_reducible refine d150_0_LBooks1 (by with_unfolding_all rfl) (by kernel_rfl) ?_ <;> try simp only [go_sem] | with_reducible refine hQ _ _ ?_ <;> simp only [Tryz.f150, go_sem])
    exact hk
  · have hlen := of_decide_eq_false hb
    refine for_at (xs.length) [0] (fun i f h => f 3 = (.one (.c (.int .i64 (i)))) ∧ h = [] ∧ allTo (rowG accP accLt xs) i = true) (GC.now ?_) ?_
    · simp only [go_sem, nc_0, true_and]
      rfl
    · rintro i f h J hi hA ⟨e3, rfl, hP⟩ hJ
      simp only [go_sem] at hA
      simp only [go_sem, hA, e3]
      refine c_split (fun hb => ?_) (fun hb => ?_)
      rotate_left
      · simp only [go_sem, hb, hA, e3]
        obtain rfl := ge_len hb hi
        (try simp only [go_sem, hA, e3]); repeat' (first | (with_reducible first | refine c_split ?_ ?_ | refine w_split ?_ ?_ | refine tw_split ?_ ?_) <;> intro hb <;> try simp only [go_sem, hb, hA, e3] | with_reducible refine d150_0_LBooks1 (by with_unfolding_all rfl) (by kernel_rfl) ?_ <;> try simp only [go_sem, hA, e3] | with_reducible refine hQ _ _ ?_ <;> simp only [Tryz.f150, go_sem, hA, e3])
        exact kB hk (by rw [accountsOk, okL, hP, Bool.true_and, decide_eq_true (by omega)])
      have hi := lt_len hb
      have hw := wrap_nat i (by omega)
      have hil : (i : Int) < ((xs.length : Nat) : Int) := Int.ofNat_lt.2 hi
      have hg0 : (xs)[i]? = some ((xs)[i]) := List.getElem?_eq_getElem (by omega)
      simp only [go_sem, hb, hA, e3, hg0]
      try simp only [go_sem, hA, e3, hil, hg0]
      cases hr : rowG accP accLt xs i with
      | true =>
        have hall := allTo_s hP hr
        rcases i with _ | j
        · have g0 : decide ((0 : Int) < ((0 : Nat) : Int)) = false := by decide
          rw [rowG_0 hi] at hr
          simp only [accP, Bool.and_eq_true] at hr
          obtain ⟨f0, f1⟩ := hr
          (try simp only [go_sem, hA, e3, hil, hg0, g0, f0, f1]); repeat' (first | (with_reducible first | refine c_split ?_ ?_ | refine w_split ?_ ?_ | refine tw_split ?_ ?_) <;> intro hb <;> try simp only [go_sem, hb, hA, e3, hil, hg0, g0, f0, f1] | (first | with_reducible refine d150_0_LBooks1 (by with_unfolding_all rfl) (by kernel_rfl) ?_ | refine call_c (c_l3No _ _ ?_) | refine call_c (c_l1In _ _ _ _ ?_) | fail) <;> try simp only [go_sem, hA, e3, hil, hg0, g0, f0, f1] | fail)
          refine gc_trim 0 (by decide) (by simp only [go_sem]) (by simp only [go_sem]) (hJ _ _ hi (by simp only [go_sem, hA, e3]) ⟨?_, ?_, ?_⟩) <;> try simp only [go_sem, hA, e3, hw]
          exact hall
        · have hj : j < xs.length := by omega
          have hgj : xs[j]? = some xs[j] := List.getElem?_eq_getElem hj
          have g1 : decide ((0 : Int) < ((j + 1 : Nat) : Int)) = true := decide_eq_true (by omega)
          have g2 : wrap64 (((j + 1 : Nat) : Int) - 1) = (j : Int) := by unfold wrap64; omega
          rw [rowG_s hi, Bool.and_eq_true] at hr
          obtain ⟨hr, hlt⟩ := hr
          simp only [accP, Bool.and_eq_true] at hr
          obtain ⟨f0, f1⟩ := hr
          have hlt2 := accLt_f hlt
          (try simp only [go_sem, hA, e3, hil, hg0, g1, g2, hgj, hlt2, f0, f1]); repeat' (first | (with_reducible first | refine c_split ?_ ?_ | refine w_split ?_ ?_ | refine tw_split ?_ ?_) <;> intro hb <;> try simp only [go_sem, hb, hA, e3, hil, hg0, g1, g2, hgj, hlt2, f0, f1] | (first | with_reducible refine d150_0_LBooks1 (by with_unfolding_all rfl) (by kernel_rfl) ?_ | refine call_c (c_l3No _ _ ?_) | refine call_c (c_l1In _ _ _ _ ?_) | fail) <;> try simp only [go_sem, hA, e3, hil, hg0, g1, g2, hgj, hlt2, f0, f1] | fail)
          refine gc_trim 0 (by decide) (by simp only [go_sem]) (by simp only [go_sem]) (hJ _ _ hi (by simp only [go_sem, hA, e3]) ⟨?_, ?_, ?_⟩) <;> try simp only [go_sem, hA, e3, hw]
          exact hall
      | false =>
        rw [accountsOk, okL_no hr hi] at hk
        rcases i with _ | j
        · have g0 : decide ((0 : Int) < ((0 : Nat) : Int)) = false := by decide
          rw [rowG_0 hi] at hr
          (try simp only [go_sem, hA, e3, hil, hg0, g0]); repeat' (first | (with_reducible first | refine c_split ?_ ?_ | refine w_split ?_ ?_ | refine tw_split ?_ ?_) <;> intro hb <;> try simp only [go_sem, hb, hA, e3, hil, hg0, g0] | (first | with_reducible refine d150_0_LBooks1 (by with_unfolding_all rfl) (by kernel_rfl) ?_ | refine call_c (c_l3No _ _ ?_) | refine call_c (c_l1In _ _ _ _ ?_) | fail) <;> try simp only [go_sem, hA, e3, hil, hg0, g0] | with_reducible refine hQ _ _ ?_ <;> simp only [Tryz.f150, go_sem, hA, e3, hil, hg0, g0])
          all_goals first | exact hk | exact (Bool.eq_false_iff.1 hr (by clear hr hJ hA hQ hQO; simp only [accP]; simp_all <;> omega)).elim
        · have hj : j < xs.length := by omega
          have hgj : xs[j]? = some xs[j] := List.getElem?_eq_getElem hj
          have g1 : decide ((0 : Int) < ((j + 1 : Nat) : Int)) = true := decide_eq_true (by omega)
          have g2 : wrap64 (((j + 1 : Nat) : Int) - 1) = (j : Int) := by unfold wrap64; omega
          rw [rowG_s hi] at hr
          (try simp only [go_sem, hA, e3, hil, hg0, g1, g2, hgj]); repeat' (first | (with_reducible first | refine c_split ?_ ?_ | refine w_split ?_ ?_ | refine tw_split ?_ ?_) <;> intro hb <;> try simp only [go_sem, hb, hA, e3, hil, hg0, g1, g2, hgj] | (first | with_reducible refine d150_0_LBooks1 (by with_unfolding_all rfl) (by kernel_rfl) ?_ | refine call_c (c_l3No _ _ ?_) | refine call_c (c_l1In _ _ _ _ ?_) | fail) <;> try simp only [go_sem, hA, e3, hil, hg0, g1, g2, hgj] | with_reducible refine hQ _ _ ?_ <;> simp only [Tryz.f150, go_sem, hA, e3, hil, hg0, g1, g2, hgj])
          all_goals first | exact hk | exact (Bool.eq_false_iff.1 hr (by clear hr hJ hA hQ hQO; simp only [accP, accLt]; simp_all <;> omega)).elim
set_option maxHeartbeats 2000000 in
theorem c_impl_InstrsOk (xs : List Account) (hn : xs.length ≤ 1000000000) (K : AV → AH → Prop) (hk : K (.one (.c (.bool (instrsOk xs)))) []) : ACalls Tryz.prog 164 [(.one (.im (xs.map accountC)))] [] K := by
  refine acall_c Tryz.f164.results.toList mixed Tryz.func164 rfl rfl (by kernel_rfl) ?_
  intro Q hQ hQO
  simp only [go_sem]
  refine for_at (xs.length) [0, 5, 6] (fun i f h => f 7 = (.one (.c (.int .i64 (i)))) ∧ h = [] ∧ allTo (rowG insP insLt xs) i = true) (GC.now ?_) ?_
  · simp only [go_sem, nc_0, true_and]
    rfl
  · rintro i f h J hi hA ⟨e7, rfl, hP⟩ hJ
    simp only [go_sem] at hA
    simp only [go_sem, hA, e7]
    refine c_split (fun hb => ?_) (fun hb => ?_)
    rotate_left
    · simp only [go_sem, hb, hA, e7]
      obtain rfl := ge_len hb hi
      (try simp only [go_sem, hA, e7]); repeat' (first | (with_reducible first | refine c_split ?_ ?_ | refine w_split ?_ ?_ | refine tw_split ?_ ?_) <;> intro hb <;> try simp only [go_sem, hb, hA, e7] | with_reducible refine d164_0_LBooks1 (by with_unfolding_all rfl) (by kernel_rfl) ?_ <;> try simp only [go_sem, hA, e7] | with_reducible refine hQ _ _ ?_ <;> simp only [Tryz.f164, go_sem, hA, e7])
      exact kB hk (by rw [instrsOk, okL, hP, Bool.true_and])
    have hi := lt_len hb
    have hw := wrap_nat i (by omega)
    have hil : (i : Int) < ((xs.length : Nat) : Int) := Int.ofNat_lt.2 hi
    have hg0 : (xs)[i]? = some ((xs)[i]) := List.getElem?_eq_getElem (by omega)
    simp only [go_sem, hb, hA, e7, hg0]
    try simp only [go_sem, hA, e7, hil, hg0]
    cases hr : rowG insP insLt xs i with
    | true =>
      have hall := allTo_s hP hr
      rcases i with _ | j
      · have g0 : decide ((0 : Int) < ((0 : Nat) : Int)) = false := by decide
        rw [rowG_0 hi] at hr
        simp only [insP, Bool.and_eq_true] at hr
        obtain ⟨f0, f1⟩ := hr
        (try simp only [go_sem, hA, e7, hil, hg0, g0, f0, f1]); repeat' (first | (with_reducible first | refine c_split ?_ ?_ | refine w_split ?_ ?_ | refine tw_split ?_ ?_) <;> intro hb <;> try simp only [go_sem, hb, hA, e7, hil, hg0, g0, f0, f1] | (first | with_reducible refine d164_0_LBooks1 (by with_unfolding_all rfl) (by kernel_rfl) ?_ | refine call_c (c_isNo _ _ ?_) | refine call_c (c_in _ _ _ _ ?_) | fail) <;> try simp only [go_sem, hA, e7, hil, hg0, g0, f0, f1] | fail)
        refine gc_trim 0 (by decide) (by simp only [go_sem]) (by simp only [go_sem]) (hJ _ _ hi (by simp only [go_sem, hA, e7]) ⟨?_, ?_, ?_⟩) <;> try simp only [go_sem, hA, e7, hw]
        exact hall
      · have hj : j < xs.length := by omega
        have hgj : xs[j]? = some xs[j] := List.getElem?_eq_getElem hj
        have g1 : decide ((0 : Int) < ((j + 1 : Nat) : Int)) = true := decide_eq_true (by omega)
        have g2 : wrap64 (((j + 1 : Nat) : Int) - 1) = (j : Int) := by unfold wrap64; omega
        rw [rowG_s hi, Bool.and_eq_true] at hr
        obtain ⟨hr, hlt⟩ := hr
        simp only [insP, Bool.and_eq_true] at hr
        obtain ⟨f0, f1⟩ := hr
        have hlt2 := insLt_f hlt
        (try simp only [go_sem, hA, e7, hil, hg0, g1, g2, hgj, hlt2, f0, f1]); repeat' (first | (with_reducible first | refine c_split ?_ ?_ | refine w_split ?_ ?_ | refine tw_split ?_ ?_) <;> intro hb <;> try simp only [go_sem, hb, hA, e7, hil, hg0, g1, g2, hgj, hlt2, f0, f1] | (first | with_reducible refine d164_0_LBooks1 (by with_unfolding_all rfl) (by kernel_rfl) ?_ | refine call_c (c_isNo _ _ ?_) | refine call_c (c_in _ _ _ _ ?_) | fail) <;> try simp only [go_sem, hA, e7, hil, hg0, g1, g2, hgj, hlt2, f0, f1] | fail)
        refine gc_trim 0 (by decide) (by simp only [go_sem]) (by simp only [go_sem]) (hJ _ _ hi (by simp only [go_sem, hA, e7]) ⟨?_, ?_, ?_⟩) <;> try simp only [go_sem, hA, e7, hw]
        exact hall
    | false =>
      rw [instrsOk, okL_no hr hi] at hk
      rcases i with _ | j
      · have g0 : decide ((0 : Int) < ((0 : Nat) : Int)) = false := by decide
        rw [rowG_0 hi] at hr
        (try simp only [go_sem, hA, e7, hil, hg0, g0]); repeat' (first | (with_reducible first | refine c_split ?_ ?_ | refine w_split ?_ ?_ | refine tw_split ?_ ?_) <;> intro hb <;> try simp only [go_sem, hb, hA, e7, hil, hg0, g0] | (first | with_reducible refine d164_0_LBooks1 (by with_unfolding_all rfl) (by kernel_rfl) ?_ | refine call_c (c_isNo _ _ ?_) | refine call_c (c_in _ _ _ _ ?_) | fail) <;> try simp only [go_sem, hA, e7, hil, hg0, g0] | with_reducible refine hQ _ _ ?_ <;> simp only [Tryz.f164, go_sem, hA, e7, hil, hg0, g0])
        all_goals first | exact hk | exact (Bool.eq_false_iff.1 hr (by clear hr hJ hA hQ hQO; simp only [insP]; simp_all <;> omega)).elim
      · have hj : j < xs.length := by omega
        have hgj : xs[j]? = some xs[j] := List.getElem?_eq_getElem hj
        have g1 : decide ((0 : Int) < ((j + 1 : Nat) : Int)) = true := decide_eq_true (by omega)
        have g2 : wrap64 (((j + 1 : Nat) : Int) - 1) = (j : Int) := by unfold wrap64; omega
        rw [rowG_s hi] at hr
        (try simp only [go_sem, hA, e7, hil, hg0, g1, g2, hgj]); repeat' (first | (with_reducible first | refine c_split ?_ ?_ | refine w_split ?_ ?_ | refine tw_split ?_ ?_) <;> intro hb <;> try simp only [go_sem, hb, hA, e7, hil, hg0, g1, g2, hgj] | (first | with_reducible refine d164_0_LBooks1 (by with_unfolding_all rfl) (by kernel_rfl) ?_ | refine call_c (c_isNo _ _ ?_) | refine call_c (c_in _ _ _ _ ?_) | fail) <;> try simp only [go_sem, hA, e7, hil, hg0, g1, g2, hgj] | with_reducible refine hQ _ _ ?_ <;> simp only [Tryz.f164, go_sem, hA, e7, hil, hg0, g1, g2, hgj])
        all_goals first | exact hk | exact (Bool.eq_false_iff.1 hr (by clear hr hJ hA hQ hQO; simp only [insP, insLt]; simp_all <;> omega)).elim
set_option maxHeartbeats 2000000 in
theorem c_spec_InstrsOk (xs : List Account) (hn : xs.length ≤ 1000000000) (K : AV → AH → Prop) (hk : K (.one (.c (.bool (instrsOk xs)))) []) : ACalls Tryz.prog 151 [(.one (.im (xs.map accountC)))] [] K := by
  refine acall_c Tryz.f151.results.toList mixed Tryz.func151 rfl rfl (by kernel_rfl) ?_
  intro Q hQ hQO
  simp only [go_sem]
  (try simp only [go_sem]); repeat' (first | (with_reducible first | refine c_split ?_ ?_ | refine w_split ?_ ?_ | refine tw_split ?_ ?_) <;> intro hb <;> try simp only [go_sem, hb] | with_reducible refine d151_0_LBooks1 (by with_unfolding_all rfl) (by kernel_rfl) ?_ <;> try simp only [go_sem] | fail)
  · rw [instrsOk, okL_long (of_decide_eq_true hb)] at hk
    (try simp only [go_sem]); repeat' (first | (with_reducible first | refine c_split ?_ ?_ | refine w_split ?_ ?_ | refine tw_split ?_ ?_) <;> intro hb <;> try simp only [go_sem, hb] | with_reducible refine d151_0_LBooks1 (by with_unfolding_all rfl) (by kernel_rfl) ?_ <;> try simp only [go_sem] | with_reducible refine hQ _ _ ?_ <;> simp only [Tryz.f151, go_sem])
    exact hk
  · have hlen := of_decide_eq_false hb
    refine for_at (xs.length) [0] (fun i f h => f 3 = (.one (.c (.int .i64 (i)))) ∧ h = [] ∧ allTo (rowG insP insLt xs) i = true) (GC.now ?_) ?_
    · simp only [go_sem, nc_0, true_and]
      rfl
    · rintro i f h J hi hA ⟨e3, rfl, hP⟩ hJ
      simp only [go_sem] at hA
      simp only [go_sem, hA, e3]
      refine c_split (fun hb => ?_) (fun hb => ?_)
      rotate_left
      · simp only [go_sem, hb, hA, e3]
        obtain rfl := ge_len hb hi
        (try simp only [go_sem, hA, e3]); repeat' (first | (with_reducible first | refine c_split ?_ ?_ | refine w_split ?_ ?_ | refine tw_split ?_ ?_) <;> intro hb <;> try simp only [go_sem, hb, hA, e3] | with_reducible refine d151_0_LBooks1 (by with_unfolding_all rfl) (by kernel_rfl) ?_ <;> try simp only [go_sem, hA, e3] | with_reducible refine hQ _ _ ?_ <;> simp only [Tryz.f151, go_sem, hA, e3])
        exact kB hk (by rw [instrsOk, okL, hP, Bool.true_and, decide_eq_true (by omega)])
      have hi := lt_len hb
      have hw := wrap_nat i (by omega)
      have hil : (i : Int) < ((xs.length : Nat) : Int) := Int.ofNat_lt.2 hi
      have hg0 : (xs)[i]? = some ((xs)[i]) := List.getElem?_eq_getElem (by omega)
      simp only [go_sem, hb, hA, e3, hg0]
      try simp only [go_sem, hA, e3, hil, hg0]
      cases hr : rowG insP insLt xs i with
      | true =>
        have hall := allTo_s hP hr
        rcases i with _ | j
        · have g0 : decide ((0 : Int) < ((0 : Nat) : Int)) = false := by decide
          rw [rowG_0 hi] at hr
          simp only [insP, Bool.and_eq_true] at hr
          obtain ⟨f0, f1⟩ := hr
          (try simp only [go_sem, hA, e3, hil, hg0, g0, f0, f1]); repeat' (first | (with_reducible first | refine c_split ?_ ?_ | refine w_split ?_ ?_ | refine tw_split ?_ ?_) <;> intro hb <;> try simp only [go_sem, hb, hA, e3, hil, hg0, g0, f0, f1] | (first | with_reducible refine d151_0_LBooks1 (by with_unfolding_all rfl) (by kernel_rfl) ?_ | refine call_c (c_l3No _ _ ?_) | refine call_c (c_l1In _ _ _ _ ?_) | fail) <;> try simp only [go_sem, hA, e3, hil, hg0, g0, f0, f1] | fail)
          refine gc_trim 0 (by decide) (by simp only [go_sem]) (by simp only [go_sem]) (hJ _ _ hi (by simp only [go_sem, hA, e3]) ⟨?_, ?_, ?_⟩) <;> try simp only [go_sem, hA, e3, hw]
          exact hall
        · have hj : j < xs.length := by omega
          have hgj : xs[j]? = some xs[j] := List.getElem?_eq_getElem hj
          have g1 : decide ((0 : Int) < ((j + 1 : Nat) : Int)) = true := decide_eq_true (by omega)
          have g2 : wrap64 (((j + 1 : Nat) : Int) - 1) = (j : Int) := by unfold wrap64; omega
          rw [rowG_s hi, Bool.and_eq_true] at hr
          obtain ⟨hr, hlt⟩ := hr
          simp only [insP, Bool.and_eq_true] at hr
          obtain ⟨f0, f1⟩ := hr
          have hlt2 := insLt_f hlt
          (try simp only [go_sem, hA, e3, hil, hg0, g1, g2, hgj, hlt2, f0, f1]); repeat' (first | (with_reducible first | refine c_split ?_ ?_ | refine w_split ?_ ?_ | refine tw_split ?_ ?_) <;> intro hb <;> try simp only [go_sem, hb, hA, e3, hil, hg0, g1, g2, hgj, hlt2, f0, f1] | (first | with_reducible refine d151_0_LBooks1 (by with_unfolding_all rfl) (by kernel_rfl) ?_ | refine call_c (c_l3No _ _ ?_) | refine call_c (c_l1In _ _ _ _ ?_) | fail) <;> try simp only [go_sem, hA, e3, hil, hg0, g1, g2, hgj, hlt2, f0, f1] | fail)
          refine gc_trim 0 (by decide) (by simp only [go_sem]) (by simp only [go_sem]) (hJ _ _ hi (by simp only [go_sem, hA, e3]) ⟨?_, ?_, ?_⟩) <;> try simp only [go_sem, hA, e3, hw]
          exact hall
      | false =>
        rw [instrsOk, okL_no hr hi] at hk
        rcases i with _ | j
        · have g0 : decide ((0 : Int) < ((0 : Nat) : Int)) = false := by decide
          rw [rowG_0 hi] at hr
          (try simp only [go_sem, hA, e3, hil, hg0, g0]); repeat' (first | (with_reducible first | refine c_split ?_ ?_ | refine w_split ?_ ?_ | refine tw_split ?_ ?_) <;> intro hb <;> try simp only [go_sem, hb, hA, e3, hil, hg0, g0] | (first | with_reducible refine d151_0_LBooks1 (by with_unfolding_all rfl) (by kernel_rfl) ?_ | refine call_c (c_l3No _ _ ?_) | refine call_c (c_l1In _ _ _ _ ?_) | fail) <;> try simp only [go_sem, hA, e3, hil, hg0, g0] | with_reducible refine hQ _ _ ?_ <;> simp only [Tryz.f151, go_sem, hA, e3, hil, hg0, g0])
          all_goals first | exact hk | exact (Bool.eq_false_iff.1 hr (by clear hr hJ hA hQ hQO; simp only [insP]; simp_all <;> omega)).elim
        · have hj : j < xs.length := by omega
          have hgj : xs[j]? = some xs[j] := List.getElem?_eq_getElem hj
          have g1 : decide ((0 : Int) < ((j + 1 : Nat) : Int)) = true := decide_eq_true (by omega)
          have g2 : wrap64 (((j + 1 : Nat) : Int) - 1) = (j : Int) := by unfold wrap64; omega
          rw [rowG_s hi] at hr
          (try simp only [go_sem, hA, e3, hil, hg0, g1, g2, hgj]); repeat' (first | (with_reducible first | refine c_split ?_ ?_ | refine w_split ?_ ?_ | refine tw_split ?_ ?_) <;> intro hb <;> try simp only [go_sem, hb, hA, e3, hil, hg0, g1, g2, hgj] | (first | with_reducible refine d151_0_LBooks1 (by with_unfolding_all rfl) (by kernel_rfl) ?_ | refine call_c (c_l3No _ _ ?_) | refine call_c (c_l1In _ _ _ _ ?_) | fail) <;> try simp only [go_sem, hA, e3, hil, hg0, g1, g2, hgj] | with_reducible refine hQ _ _ ?_ <;> simp only [Tryz.f151, go_sem, hA, e3, hil, hg0, g1, g2, hgj])
          all_goals first | exact hk | exact (Bool.eq_false_iff.1 hr (by clear hr hJ hA hQ hQO; simp only [insP, insLt]; simp_all <;> omega)).elim
def pairLt (a b c d : Int) : Bool := decide (a < c) || decide (a = c) && decide (b < d)
def byBoth (a b c d : Int) : Int := if pairLt a b c d = true then -1 else if a = c ∧ b = d then 0 else 1
theorem c_byBoth (a b c d : Int) (K : AV → AH → Prop) (hk : K (.one (.c (.int .i64 (byBoth a b c d)))) []) : ACalls Tryz.prog 249 [(.one (.c (.int .i64 (a)))), (.one (.c (.int .i64 (b)))), (.one (.c (.int .i64 (c)))), (.one (.c (.int .i64 (d))))] [] K := by
  refine acall_c Tryz.f249.results.toList mixed Tryz.func249 rfl rfl (by kernel_rfl) ?_
  intro Q hQ hQO
  simp only [go_sem]
  (try simp only [go_sem]); repeat' (first | (with_reducible first | refine c_split ?_ ?_ | refine w_split ?_ ?_) <;> intro hb <;> try simp only [go_sem, hb] | with_reducible refine hQ _ _ ?_ <;> simp only [Tryz.f249, go_sem])
  all_goals refine (congrArg (fun q => K (.one (.c (.int .i64 q))) []) ?_).mp hk
  all_goals (unfold byBoth pairLt; simp_all; try omega)
theorem c_l4Before (a b c d : Int) (K : AV → AH → Prop) (hk : K (.one (.c (.bool (pairLt a b c d)))) []) : ACalls Tryz.prog 244 [(.one (.c (.int .i64 (a)))), (.one (.c (.int .i64 (b)))), (.one (.c (.int .i64 (c)))), (.one (.c (.int .i64 (d))))] [] K := by
  refine acall_c Tryz.f244.results.toList mixed Tryz.func244 rfl rfl (by kernel_rfl) ?_
  intro Q hQ hQO
  simp only [go_sem]
  (try simp only [go_sem]); repeat' (first | (with_reducible first | refine c_split ?_ ?_ | refine w_split ?_ ?_) <;> intro hb <;> try simp only [go_sem, hb] | with_reducible refine hQ _ _ ?_ <;> simp only [Tryz.f244, go_sem])
  all_goals (refine kB hk ?_; unfold pairLt; simp_all; try omega)
theorem byBoth_lt {a b c d : Int} : (byBoth a b c d < 0 ↔ pairLt a b c d = true) ∧ (byBoth a b c d = 0 ↔ a = c ∧ b = d) := by
  unfold byBoth
  by_cases h : pairLt a b c d = true
  · rw [if_pos h]
    refine ⟨⟨fun _ => h, fun _ => by decide⟩, ⟨fun q => by omega, fun ⟨q1, q2⟩ => ?_⟩⟩
    subst q1 q2
    simp [pairLt] at h
  · rw [if_neg h]
    split
    · rename_i q; exact ⟨⟨fun q => by omega, fun q => absurd q h⟩, ⟨fun _ => q, fun _ => rfl⟩⟩
    · rename_i q; exact ⟨⟨fun q => by omega, fun q => absurd q h⟩, ⟨fun q => by omega, fun w => absurd w q⟩⟩
theorem pairLt_by {a b c d : Int} : pairLt a b c d = decide (byBoth a b c d < 0) := by
  by_cases h : pairLt a b c d = true
  · rw [h, decide_eq_true (byBoth_lt.1.2 h)]
  · rw [decide_eq_false (fun q => h (byBoth_lt.1.1 q))]; simpa using h
def balP (x : Bal) : Bool := noOk x.account && noOk x.instr && amtOk x.amount && !(x.amount == 0)
def balLt (y x : Bal) : Bool := pairLt y.account y.instr x.account x.instr
def balsOk (xs : List Bal) : Bool := okL balP balLt 160 xs
theorem balLt_i {y x : Bal} (h : balLt y x = true) : decide (0 ≤ byBoth y.account y.instr x.account x.instr) = false := decide_eq_false (by have := byBoth_lt.1.2 h; omega)
theorem balLt_s {y x : Bal} (h : balLt y x = true) : pairLt y.account y.instr x.account x.instr = true := h
set_option maxHeartbeats 2000000 in
theorem c_impl_BalsOk (xs : List Bal) (hn : xs.length ≤ 1000000000) (K : AV → AH → Prop) (hk : K (.one (.c (.bool (balsOk xs)))) []) : ACalls Tryz.prog 165 [(.one (.im (xs.map balC)))] [] K := by
  refine acall_c Tryz.f165.results.toList mixed Tryz.func165 rfl rfl (by kernel_rfl) ?_
  intro Q hQ hQO
  simp only [go_sem]
  refine for_at (xs.length) [0, 5, 6] (fun i f h => f 7 = (.one (.c (.int .i64 (i)))) ∧ h = [] ∧ allTo (rowG balP balLt xs) i = true) (GC.now ?_) ?_
  · simp only [go_sem, nc_0, true_and]
    rfl
  · rintro i f h J hi hA ⟨e7, rfl, hP⟩ hJ
    simp only [go_sem] at hA
    simp only [go_sem, hA, e7]
    refine c_split (fun hb => ?_) (fun hb => ?_)
    rotate_left
    · simp only [go_sem, hb, hA, e7]
      obtain rfl := ge_len hb hi
      (try simp only [go_sem, hA, e7]); repeat' (first | (with_reducible first | refine c_split ?_ ?_ | refine w_split ?_ ?_ | refine tw_split ?_ ?_) <;> intro hb <;> try simp only [go_sem, hb, hA, e7] | with_reducible refine d165_0_LBooks1 (by with_unfolding_all rfl) (by kernel_rfl) ?_ <;> try simp only [go_sem, hA, e7] | with_reducible refine hQ _ _ ?_ <;> simp only [Tryz.f165, go_sem, hA, e7])
      exact kB hk (by rw [balsOk, okL, hP, Bool.true_and])
    have hi := lt_len hb
    have hw := wrap_nat i (by omega)
    have hil : (i : Int) < ((xs.length : Nat) : Int) := Int.ofNat_lt.2 hi
    have hg0 : (xs)[i]? = some ((xs)[i]) := List.getElem?_eq_getElem (by omega)
    simp only [go_sem, hb, hA, e7, hg0]
    try simp only [go_sem, hA, e7, hil, hg0]
    cases hr : rowG balP balLt xs i with
    | true =>
      have hall := allTo_s hP hr
      rcases i with _ | j
      · have g0 : decide ((0 : Int) < ((0 : Nat) : Int)) = false := by decide
        rw [rowG_0 hi] at hr
        simp only [balP, Bool.and_eq_true] at hr
        obtain ⟨⟨⟨f0, f1⟩, f2⟩, f3⟩ := hr
        have f3 := not_tt f3
        (try simp only [go_sem, hA, e7, hil, hg0, g0, f0, f1, f2, f3]); repeat' (first | (with_reducible first | refine c_split ?_ ?_ | refine w_split ?_ ?_ | refine tw_split ?_ ?_) <;> intro hb <;> try simp only [go_sem, hb, hA, e7, hil, hg0, g0, f0, f1, f2, f3] | (first | with_reducible refine d165_0_LBooks1 (by with_unfolding_all rfl) (by kernel_rfl) ?_ | refine call_c (c_isNo _ _ ?_) | refine call_c (c_impl_AmountOk _ _ ?_) | refine call_c (c_byBoth _ _ _ _ _ ?_) | fail) <;> try simp only [go_sem, hA, e7, hil, hg0, g0, f0, f1, f2, f3] | fail)
        refine gc_trim 0 (by decide) (by simp only [go_sem]) (by simp only [go_sem]) (hJ _ _ hi (by simp only [go_sem, hA, e7]) ⟨?_, ?_, ?_⟩) <;> try simp only [go_sem, hA, e7, hw]
        exact hall
      · have hj : j < xs.length := by omega
        have hgj : xs[j]? = some xs[j] := List.getElem?_eq_getElem hj
        have g1 : decide ((0 : Int) < ((j + 1 : Nat) : Int)) = true := decide_eq_true (by omega)
        have g2 : wrap64 (((j + 1 : Nat) : Int) - 1) = (j : Int) := by unfold wrap64; omega
        rw [rowG_s hi, Bool.and_eq_true] at hr
        obtain ⟨hr, hlt⟩ := hr
        simp only [balP, Bool.and_eq_true] at hr
        obtain ⟨⟨⟨f0, f1⟩, f2⟩, f3⟩ := hr
        have f3 := not_tt f3
        have hlt2 := balLt_i hlt
        (try simp only [go_sem, hA, e7, hil, hg0, g1, g2, hgj, hlt2, f0, f1, f2, f3]); repeat' (first | (with_reducible first | refine c_split ?_ ?_ | refine w_split ?_ ?_ | refine tw_split ?_ ?_) <;> intro hb <;> try simp only [go_sem, hb, hA, e7, hil, hg0, g1, g2, hgj, hlt2, f0, f1, f2, f3] | (first | with_reducible refine d165_0_LBooks1 (by with_unfolding_all rfl) (by kernel_rfl) ?_ | refine call_c (c_isNo _ _ ?_) | refine call_c (c_impl_AmountOk _ _ ?_) | refine call_c (c_byBoth _ _ _ _ _ ?_) | fail) <;> try simp only [go_sem, hA, e7, hil, hg0, g1, g2, hgj, hlt2, f0, f1, f2, f3] | fail)
        refine gc_trim 0 (by decide) (by simp only [go_sem]) (by simp only [go_sem]) (hJ _ _ hi (by simp only [go_sem, hA, e7]) ⟨?_, ?_, ?_⟩) <;> try simp only [go_sem, hA, e7, hw]
        exact hall
    | false =>
      rw [balsOk, okL_no hr hi] at hk
      rcases i with _ | j
      · have g0 : decide ((0 : Int) < ((0 : Nat) : Int)) = false := by decide
        rw [rowG_0 hi] at hr
        (try simp only [go_sem, hA, e7, hil, hg0, g0]); repeat' (first | (with_reducible first | refine c_split ?_ ?_ | refine w_split ?_ ?_ | refine tw_split ?_ ?_) <;> intro hb <;> try simp only [go_sem, hb, hA, e7, hil, hg0, g0] | (first | with_reducible refine d165_0_LBooks1 (by with_unfolding_all rfl) (by kernel_rfl) ?_ | refine call_c (c_isNo _ _ ?_) | refine call_c (c_impl_AmountOk _ _ ?_) | refine call_c (c_byBoth _ _ _ _ _ ?_) | fail) <;> try simp only [go_sem, hA, e7, hil, hg0, g0] | with_reducible refine hQ _ _ ?_ <;> simp only [Tryz.f165, go_sem, hA, e7, hil, hg0, g0])
        all_goals first | exact hk | exact (Bool.eq_false_iff.1 hr (by clear hr hJ hA hQ hQO; simp only [balP]; simp_all <;> omega)).elim
      · have hj : j < xs.length := by omega
        have hgj : xs[j]? = some xs[j] := List.getElem?_eq_getElem hj
        have g1 : decide ((0 : Int) < ((j + 1 : Nat) : Int)) = true := decide_eq_true (by omega)
        have g2 : wrap64 (((j + 1 : Nat) : Int) - 1) = (j : Int) := by unfold wrap64; omega
        rw [rowG_s hi] at hr
        (try simp only [go_sem, hA, e7, hil, hg0, g1, g2, hgj]); repeat' (first | (with_reducible first | refine c_split ?_ ?_ | refine w_split ?_ ?_ | refine tw_split ?_ ?_) <;> intro hb <;> try simp only [go_sem, hb, hA, e7, hil, hg0, g1, g2, hgj] | (first | with_reducible refine d165_0_LBooks1 (by with_unfolding_all rfl) (by kernel_rfl) ?_ | refine call_c (c_isNo _ _ ?_) | refine call_c (c_impl_AmountOk _ _ ?_) | refine call_c (c_byBoth _ _ _ _ _ ?_) | fail) <;> try simp only [go_sem, hA, e7, hil, hg0, g1, g2, hgj] | with_reducible refine hQ _ _ ?_ <;> simp only [Tryz.f165, go_sem, hA, e7, hil, hg0, g1, g2, hgj])
        all_goals first | exact hk | exact (Bool.eq_false_iff.1 hr (by clear hr hJ hA hQ hQO; simp only [balP, balLt, pairLt_by]; simp_all <;> omega)).elim
set_option maxHeartbeats 2000000 in
theorem c_spec_BalsOk (xs : List Bal) (hn : xs.length ≤ 1000000000) (K : AV → AH → Prop) (hk : K (.one (.c (.bool (balsOk xs)))) []) : ACalls Tryz.prog 152 [(.one (.im (xs.map balC)))] [] K := by
  refine acall_c Tryz.f152.results.toList mixed Tryz.func152 rfl rfl (by kernel_rfl) ?_
  intro Q hQ hQO
  simp only [go_sem]
  (try simp only [go_sem]); repeat' (first | (with_reducible first | refine c_split ?_ ?_ | refine w_split ?_ ?_ | refine tw_split ?_ ?_) <;> intro hb <;> try simp only [go_sem, hb] | with_reducible refine d152_0_LBooks1 (by with_unfolding_all rfl) (by kernel_rfl) ?_ <;> try simp only [go_sem] | fail)
  · rw [balsOk, okL_long (of_decide_eq_true hb)] at hk
    (try simp only [go_sem]); repeat' (first | (with_reducible first | refine c_split ?_ ?_ | refine w_split ?_ ?_ | refine tw_split ?_ ?_) <;> intro hb <;> try simp only [go_sem, hb] | with_reducible refine d152_0_LBooks1 (by with_unfolding_all rfl) (by kernel_rfl) ?_ <;> try simp only [go_sem] | with_reducible refine hQ _ _ ?_ <;> simp only [Tryz.f152, go_sem])
    exact hk
  · have hlen := of_decide_eq_false hb
    refine for_at (xs.length) [0] (fun i f h => f 3 = (.one (.c (.int .i64 (i)))) ∧ h = [] ∧ allTo (rowG balP balLt xs) i = true) (GC.now ?_) ?_
    · simp only [go_sem, nc_0, true_and]
      rfl
    · rintro i f h J hi hA ⟨e3, rfl, hP⟩ hJ
      simp only [go_sem] at hA
      simp only [go_sem, hA, e3]
      refine c_split (fun hb => ?_) (fun hb => ?_)
      rotate_left
      · simp only [go_sem, hb, hA, e3]
        obtain rfl := ge_len hb hi
        (try simp only [go_sem, hA, e3]); repeat' (first | (with_reducible first | refine c_split ?_ ?_ | refine w_split ?_ ?_ | refine tw_split ?_ ?_) <;> intro hb <;> try simp only [go_sem, hb, hA, e3] | with_reducible refine d152_0_LBooks1 (by with_unfolding_all rfl) (by kernel_rfl) ?_ <;> try simp only [go_sem, hA, e3] | with_reducible refine hQ _ _ ?_ <;> simp only [Tryz.f152, go_sem, hA, e3])
        exact kB hk (by rw [balsOk, okL, hP, Bool.true_and, decide_eq_true (by omega)])
      have hi := lt_len hb
      have hw := wrap_nat i (by omega)
      have hil : (i : Int) < ((xs.length : Nat) : Int) := Int.ofNat_lt.2 hi
      have hg0 : (xs)[i]? = some ((xs)[i]) := List.getElem?_eq_getElem (by omega)
      simp only [go_sem, hb, hA, e3, hg0]
      try simp only [go_sem, hA, e3, hil, hg0]
      cases hr : rowG balP balLt xs i with
      | true =>
        have hall := allTo_s hP hr
        rcases i with _ | j
        · have g0 : decide ((0 : Int) < ((0 : Nat) : Int)) = false := by decide
          rw [rowG_0 hi] at hr
          simp only [balP, Bool.and_eq_true] at hr
          obtain ⟨⟨⟨f0, f1⟩, f2⟩, f3⟩ := hr
          have f3 := not_tt f3
          (try simp only [go_sem, hA, e3, hil, hg0, g0, f0, f1, f2, f3]); repeat' (first | (with_reducible first | refine c_split ?_ ?_ | refine w_split ?_ ?_ | refine tw_split ?_ ?_) <;> intro hb <;> try simp only [go_sem, hb, hA, e3, hil, hg0, g0, f0, f1, f2, f3] | (first | with_reducible refine d152_0_LBooks1 (by with_unfolding_all rfl) (by kernel_rfl) ?_ | refine call_c (c_l3No _ _ ?_) | refine call_c (c_spec_AmountOk _ _ ?_) | refine call_c (c_l4Before _ _ _ _ _ ?_) | fail) <;> try simp only [go_sem, hA, e3, hil, hg0, g0, f0, f1, f2, f3] | fail)
          refine gc_trim 0 (by decide) (by simp only [go_sem]) (by simp only [go_sem]) (hJ _ _ hi (by simp only [go_sem, hA, e3]) ⟨?_, ?_, ?_⟩) <;> try simp only [go_sem, hA, e3, hw]
          exact hall
        · have hj : j < xs.length := by omega
          have hgj : xs[j]? = some xs[j] := List.getElem?_eq_getElem hj
          have g1 : decide ((0 : Int) < ((j + 1 : Nat) : Int)) = true := decide_eq_true (by omega)
          have g2 : wrap64 (((j + 1 : Nat) : Int) - 1) = (j : Int) := by unfold wrap64; omega
          rw [rowG_s hi, Bool.and_eq_true] at hr
          obtain ⟨hr, hlt⟩ := hr
          simp only [balP, Bool.and_eq_true] at hr
          obtain ⟨⟨⟨f0, f1⟩, f2⟩, f3⟩ := hr
          have f3 := not_tt f3
          have hlt2 := balLt_s hlt
          (try simp only [go_sem, hA, e3, hil, hg0, g1, g2, hgj, hlt2, f0, f1, f2, f3]); repeat' (first | (with_reducible first | refine c_split ?_ ?_ | refine w_split ?_ ?_ | refine tw_split ?_ ?_) <;> intro hb <;> try simp only [go_sem, hb, hA, e3, hil, hg0, g1, g2, hgj, hlt2, f0, f1, f2, f3] | (first | with_reducible refine d152_0_LBooks1 (by with_unfolding_all rfl) (by kernel_rfl) ?_ | refine call_c (c_l3No _ _ ?_) | refine call_c (c_spec_AmountOk _ _ ?_) | refine call_c (c_l4Before _ _ _ _ _ ?_) | fail) <;> try simp only [go_sem, hA, e3, hil, hg0, g1, g2, hgj, hlt2, f0, f1, f2, f3] | fail)
          refine gc_trim 0 (by decide) (by simp only [go_sem]) (by simp only [go_sem]) (hJ _ _ hi (by simp only [go_sem, hA, e3]) ⟨?_, ?_, ?_⟩) <;> try simp only [go_sem, hA, e3, hw]
          exact hall
      | false =>
        rw [balsOk, okL_no hr hi] at hk
        rcases i with _ | j
        · have g0 : decide ((0 : Int) < ((0 : Nat) : Int)) = false := by decide
          rw [rowG_0 hi] at hr
          (try simp only [go_sem, hA, e3, hil, hg0, g0]); repeat' (first | (with_reducible first | refine c_split ?_ ?_ | refine w_split ?_ ?_ | refine tw_split ?_ ?_) <;> intro hb <;> try simp only [go_sem, hb, hA, e3, hil, hg0, g0] | (first | with_reducible refine d152_0_LBooks1 (by with_unfolding_all rfl) (by kernel_rfl) ?_ | refine call_c (c_l3No _ _ ?_) | refine call_c (c_spec_AmountOk _ _ ?_) | refine call_c (c_l4Before _ _ _ _ _ ?_) | fail) <;> try simp only [go_sem, hA, e3, hil, hg0, g0] | with_reducible refine hQ _ _ ?_ <;> simp only [Tryz.f152, go_sem, hA, e3, hil, hg0, g0])
          all_goals first | exact hk | exact (Bool.eq_false_iff.1 hr (by clear hr hJ hA hQ hQO; simp only [balP]; simp_all <;> omega)).elim
        · have hj : j < xs.length := by omega
          have hgj : xs[j]? = some xs[j] := List.getElem?_eq_getElem hj
          have g1 : decide ((0 : Int) < ((j + 1 : Nat) : Int)) = true := decide_eq_true (by omega)
          have g2 : wrap64 (((j + 1 : Nat) : Int) - 1) = (j : Int) := by unfold wrap64; omega
          rw [rowG_s hi] at hr
          (try simp only [go_sem, hA, e3, hil, hg0, g1, g2, hgj]); repeat' (first | (with_reducible first | refine c_split ?_ ?_ | refine w_split ?_ ?_ | refine tw_split ?_ ?_) <;> intro hb <;> try simp only [go_sem, hb, hA, e3, hil, hg0, g1, g2, hgj] | (first | with_reducible refine d152_0_LBooks1 (by with_unfolding_all rfl) (by kernel_rfl) ?_ | refine call_c (c_l3No _ _ ?_) | refine call_c (c_spec_AmountOk _ _ ?_) | refine call_c (c_l4Before _ _ _ _ _ ?_) | fail) <;> try simp only [go_sem, hA, e3, hil, hg0, g1, g2, hgj] | with_reducible refine hQ _ _ ?_ <;> simp only [Tryz.f152, go_sem, hA, e3, hil, hg0, g1, g2, hgj])
          all_goals first | exact hk | exact (Bool.eq_false_iff.1 hr (by clear hr hJ hA hQ hQO; simp only [balP, balLt]; simp_all <;> omega)).elim
end Go.Proofs.YtkndmncgohmjmaaGreat
end
section
namespace Go.Proofs.YtkndmncgohmjmaaGreat
open Go.BL Go.RowKit
set_option linter.unusedVariables false
set_option linter.unusedSimpArgs false
set_option maxRecDepth 100000
theorem d167_0_LBooksT : DrawL Tryz.prog 0 47 (.on [(0, false, true), (1, false, true), (2, false, true), (3, false, true), (4, false, true), (5, false, true), (6, false, true), (7, false, true), (8, false, true), (9, false, true), (10, false, true), (11, false, true), (12, false, true), (13, false, true), (14, false, true), (15, false, true), (16, false, true), (17, false, true), (18, false, true), (19, false, true), (20, true, true), (21, true, true), (22, true, true), (23, true, true), (24, true, true), (25, true, true), (26, false, false), (27, false, false), (28, false, true), (29, false, true), (30, false, true)] .nil) := draw_L
theorem d153_0_LBooksT : DrawL Tryz.prog 0 18 (.on [(0, false, true), (1, false, true), (2, false, true), (3, false, true), (4, false, true), (5, false, true), (6, false, true), (7, false, true), (8, false, true), (9, false, true), (10, false, true), (11, false, true), (12, false, true), (13, false, true), (14, false, true), (15, false, true), (16, false, true), (17, false, true), (18, false, true), (19, false, true), (20, false, true), (21, false, true), (22, false, true), (23, false, true), (24, false, true), (25, false, true), (26, false, true), (27, false, true), (28, false, true), (29, true, true), (30, true, true), (31, false, false), (32, false, false), (33, false, true), (34, false, true), (35, false, true), (36, false, true), (37, false, true), (38, false, true), (39, false, true), (40, false, true), (41, false, true), (42, false, true), (43, false, true), (44, false, true), (45, false, true), (46, false, true), (47, false, true), (48, false, true), (49, false, true), (50, false, true), (51, false, true), (52, false, true), (53, false, true), (54, false, true), (55, false, true), (56, false, true), (57, true, true), (58, true, true), (59, true, true), (60, true, true), (61, true, true), (62, true, true), (63, false, false), (64, false, false), (65, false, false), (66, false, false), (67, false, false)] .nil) := draw_L
attribute [local go_sem] accountC balC lotC tradeC
def trP (x : Trade) : Bool := noOk x.no && noOk x.buyer && noOk x.seller && noOk x.paper && noOk x.cash && !(x.buyer == x.seller) && decide (1 ≤ x.qty ∧ x.qty ≤ 1000000000000000) && decide (0 ≤ x.price ∧ x.price ≤ 1000000000000000) && decide (1 ≤ x.state ∧ x.state ≤ 3)
def trLt (y x : Trade) : Bool := decide (y.no < x.no)
def tradesOk (xs : List Trade) : Bool := okL trP trLt 30 xs
theorem trLt_f {y x : Trade} (h : trLt y x = true) : decide (x.no ≤ y.no) = false := by have := of_decide_eq_true h; exact decide_eq_false (by omega)
set_option maxHeartbeats 2000000 in
theorem c_impl_TradesOk (xs : List Trade) (hn : xs.length ≤ 1000000000) (K : AV → AH → Prop) (hk : K (.one (.c (.bool (tradesOk xs)))) []) : ACalls Tryz.prog 167 [(.one (.im (xs.map tradeC)))] [] K := by
  refine acall_c Tryz.f167.results.toList mixed Tryz.func167 rfl rfl (by kernel_rfl) ?_
  intro Q hQ hQO
  simp only [go_sem]
  refine for_at (xs.length) [0, 5, 6] (fun i f h => f 7 = (.one (.c (.int .i64 (i)))) ∧ h = [] ∧ allTo (rowG trP trLt xs) i = true) (GC.now ?_) ?_
  · simp only [go_sem, nc_0, true_and]
    rfl
  · rintro i f h J hi hA ⟨e7, rfl, hP⟩ hJ
    simp only [go_sem] at hA
    simp only [go_sem, hA, e7]
    refine c_split (fun hb => ?_) (fun hb => ?_)
    rotate_left
    · simp only [go_sem, hb, hA, e7]
      obtain rfl := ge_len hb hi
      (try simp only [go_sem, hA, e7]); repeat' (first | (with_reducible first | refine c_split ?_ ?_ | refine w_split ?_ ?_ | refine tw_split ?_ ?_) <;> intro hb <;> try simp only [go_sem, hb, hA, e7] | with_reducible refine d167_0_LBooksT (by with_unfolding_all rfl) (by kernel_rfl) ?_ <;> try simp only [go_sem, hA, e7] | with_reducible refine hQ _ _ ?_ <;> simp only [Tryz.f167, go_sem, hA, e7])
      exact kB hk (by rw [tradesOk, okL, hP, Bool.true_and])
    have hi := lt_len hb
    have hw := wrap_nat i (by omega)
    have hil : (i : Int) < ((xs.length : Nat) : Int) := Int.ofNat_lt.2 hi
    have hg0 : (xs)[i]? = some ((xs)[i]) := List.getElem?_eq_getElem (by omega)
    simp only [go_sem, hb, hA, e7, hg0]
    try simp only [go_sem, hA, e7, hil, hg0]
    cases hr : rowG trP trLt xs i with
    | true =>
      have hall := allTo_s hP hr
      rcases i with _ | j
      · have g0 : decide ((0 : Int) < ((0 : Nat) : Int)) = false := by decide
        rw [rowG_0 hi] at hr
        simp only [trP, Bool.and_eq_true] at hr
        obtain ⟨⟨⟨⟨⟨⟨⟨⟨f0, f1⟩, f2⟩, f3⟩, f4⟩, f5⟩, f6⟩, f7⟩, f8⟩ := hr
        have f5 := not_tt f5
        (try simp only [go_sem, hA, e7, hil, hg0, g0, f0, f1, f2, f3, f4, f5, f6, f7, f8]); repeat' (first | (with_reducible first | refine c_split ?_ ?_ | refine w_split ?_ ?_ | refine tw_split ?_ ?_) <;> intro hb <;> try simp only [go_sem, hb, hA, e7, hil, hg0, g0, f0, f1, f2, f3, f4, f5, f6, f7, f8] | (first | with_reducible refine d167_0_LBooksT (by with_unfolding_all rfl) (by kernel_rfl) ?_ | refine call_c (c_isNo _ _ ?_) | refine call_c (c_in _ _ _ _ ?_) | fail) <;> try simp only [go_sem, hA, e7, hil, hg0, g0, f0, f1, f2, f3, f4, f5, f6, f7, f8] | fail)
        refine gc_trim 0 (by decide) (by simp only [go_sem]) (by simp only [go_sem]) (hJ _ _ hi (by simp only [go_sem, hA, e7]) ⟨?_, ?_, ?_⟩) <;> try simp only [go_sem, hA, e7, hw]
        exact hall
      · have hj : j < xs.length := by omega
        have hgj : xs[j]? = some xs[j] := List.getElem?_eq_getElem hj
        have g1 : decide ((0 : Int) < ((j + 1 : Nat) : Int)) = true := decide_eq_true (by omega)
        have g2 : wrap64 (((j + 1 : Nat) : Int) - 1) = (j : Int) := by unfold wrap64; omega
        rw [rowG_s hi, Bool.and_eq_true] at hr
        obtain ⟨hr, hlt⟩ := hr
        simp only [trP, Bool.and_eq_true] at hr
        obtain ⟨⟨⟨⟨⟨⟨⟨⟨f0, f1⟩, f2⟩, f3⟩, f4⟩, f5⟩, f6⟩, f7⟩, f8⟩ := hr
        have f5 := not_tt f5
        have hlt2 := trLt_f hlt
        (try simp only [go_sem, hA, e7, hil, hg0, g1, g2, hgj, hlt2, f0, f1, f2, f3, f4, f5, f6, f7, f8]); repeat' (first | (with_reducible first | refine c_split ?_ ?_ | refine w_split ?_ ?_ | refine tw_split ?_ ?_) <;> intro hb <;> try simp only [go_sem, hb, hA, e7, hil, hg0, g1, g2, hgj, hlt2, f0, f1, f2, f3, f4, f5, f6, f7, f8] | (first | with_reducible refine d167_0_LBooksT (by with_unfolding_all rfl) (by kernel_rfl) ?_ | refine call_c (c_isNo _ _ ?_) | refine call_c (c_in _ _ _ _ ?_) | fail) <;> try simp only [go_sem, hA, e7, hil, hg0, g1, g2, hgj, hlt2, f0, f1, f2, f3, f4, f5, f6, f7, f8] | fail)
        refine gc_trim 0 (by decide) (by simp only [go_sem]) (by simp only [go_sem]) (hJ _ _ hi (by simp only [go_sem, hA, e7]) ⟨?_, ?_, ?_⟩) <;> try simp only [go_sem, hA, e7, hw]
        exact hall
    | false =>
      rw [tradesOk, okL_no hr hi] at hk
      rcases i with _ | j
      · have g0 : decide ((0 : Int) < ((0 : Nat) : Int)) = false := by decide
        rw [rowG_0 hi] at hr
        (try simp only [go_sem, hA, e7, hil, hg0, g0]); repeat' (first | (with_reducible first | refine c_split ?_ ?_ | refine w_split ?_ ?_ | refine tw_split ?_ ?_) <;> intro hb <;> try simp only [go_sem, hb, hA, e7, hil, hg0, g0] | (first | with_reducible refine d167_0_LBooksT (by with_unfolding_all rfl) (by kernel_rfl) ?_ | refine call_c (c_isNo _ _ ?_) | refine call_c (c_in _ _ _ _ ?_) | fail) <;> try simp only [go_sem, hA, e7, hil, hg0, g0] | with_reducible refine hQ _ _ ?_ <;> simp only [Tryz.f167, go_sem, hA, e7, hil, hg0, g0])
        all_goals first | exact hk | exact (Bool.eq_false_iff.1 hr (by clear hr hJ hA hQ hQO; simp only [trP]; simp_all <;> omega)).elim
      · have hj : j < xs.length := by omega
        have hgj : xs[j]? = some xs[j] := List.getElem?_eq_getElem hj
        have g1 : decide ((0 : Int) < ((j + 1 : Nat) : Int)) = true := decide_eq_true (by omega)
        have g2 : wrap64 (((j + 1 : Nat) : Int) - 1) = (j : Int) := by unfold wrap64; omega
        rw [rowG_s hi] at hr
        (try simp only [go_sem, hA, e7, hil, hg0, g1, g2, hgj]); repeat' (first | (with_reducible first | refine c_split ?_ ?_ | refine w_split ?_ ?_ | refine tw_split ?_ ?_) <;> intro hb <;> try simp only [go_sem, hb, hA, e7, hil, hg0, g1, g2, hgj] | (first | with_reducible refine d167_0_LBooksT (by with_unfolding_all rfl) (by kernel_rfl) ?_ | refine call_c (c_isNo _ _ ?_) | refine call_c (c_in _ _ _ _ ?_) | fail) <;> try simp only [go_sem, hA, e7, hil, hg0, g1, g2, hgj] | with_reducible refine hQ _ _ ?_ <;> simp only [Tryz.f167, go_sem, hA, e7, hil, hg0, g1, g2, hgj])
        all_goals first | exact hk | exact (Bool.eq_false_iff.1 hr (by clear hr hJ hA hQ hQO; simp only [trP, trLt]; simp_all <;> omega)).elim
set_option maxHeartbeats 2000000 in
theorem c_spec_TradesOk (xs : List Trade) (hn : xs.length ≤ 1000000000) (K : AV → AH → Prop) (hk : K (.one (.c (.bool (tradesOk xs)))) []) : ACalls Tryz.prog 153 [(.one (.im (xs.map tradeC)))] [] K := by
  refine acall_c Tryz.f153.results.toList mixed Tryz.func153 rfl rfl (by kernel_rfl) ?_
  intro Q hQ hQO
  simp only [go_sem]
  (try simp only [go_sem]); repeat' (first | (with_reducible first | refine c_split ?_ ?_ | refine w_split ?_ ?_ | refine tw_split ?_ ?_) <;> intro hb <;> try simp only [go_sem, hb] | with_reducible refine d153_0_LBooksT (by with_unfolding_all rfl) (by kernel_rfl) ?_ <;> try simp only [go_sem] | fail)
  · rw [tradesOk, okL_long (of_decide_eq_true hb)] at hk
    (try simp only [go_sem]); repeat' (first | (with_reducible first | refine c_split ?_ ?_ | refine w_split ?_ ?_ | refine tw_split ?_ ?_) <;> intro hb <;> try simp only [go_sem, hb] | with_reducible refine d153_0_LBooksT (by with_unfolding_all rfl) (by kernel_rfl) ?_ <;> try simp only [go_sem] | with_reducible refine hQ _ _ ?_ <;> simp only [Tryz.f153, go_sem])
    exact hk
  · have hlen := of_decide_eq_false hb
    refine for_at (xs.length) [0] (fun i f h => f 3 = (.one (.c (.int .i64 (i)))) ∧ h = [] ∧ allTo (rowG trP trLt xs) i = true) (GC.now ?_) ?_
    · simp only [go_sem, nc_0, true_and]
      rfl
    · rintro i f h J hi hA ⟨e3, rfl, hP⟩ hJ
      simp only [go_sem] at hA
      simp only [go_sem, hA, e3]
      refine c_split (fun hb => ?_) (fun hb => ?_)
      rotate_left
      · simp only [go_sem, hb, hA, e3]
        obtain rfl := ge_len hb hi
        (try simp only [go_sem, hA, e3]); repeat' (first | (with_reducible first | refine c_split ?_ ?_ | refine w_split ?_ ?_ | refine tw_split ?_ ?_) <;> intro hb <;> try simp only [go_sem, hb, hA, e3] | with_reducible refine d153_0_LBooksT (by with_unfolding_all rfl) (by kernel_rfl) ?_ <;> try simp only [go_sem, hA, e3] | with_reducible refine hQ _ _ ?_ <;> simp only [Tryz.f153, go_sem, hA, e3])
        exact kB hk (by rw [tradesOk, okL, hP, Bool.true_and, decide_eq_true (by omega)])
      have hi := lt_len hb
      have hw := wrap_nat i (by omega)
      have hil : (i : Int) < ((xs.length : Nat) : Int) := Int.ofNat_lt.2 hi
      have hg0 : (xs)[i]? = some ((xs)[i]) := List.getElem?_eq_getElem (by omega)
      simp only [go_sem, hb, hA, e3, hg0]
      try simp only [go_sem, hA, e3, hil, hg0]
      cases hr : rowG trP trLt xs i with
      | true =>
        have hall := allTo_s hP hr
        rcases i with _ | j
        · have g0 : decide ((0 : Int) < ((0 : Nat) : Int)) = false := by decide
          rw [rowG_0 hi] at hr
          simp only [trP, Bool.and_eq_true] at hr
          obtain ⟨⟨⟨⟨⟨⟨⟨⟨f0, f1⟩, f2⟩, f3⟩, f4⟩, f5⟩, f6⟩, f7⟩, f8⟩ := hr
          have f5 := not_tt f5
          (try simp only [go_sem, hA, e3, hil, hg0, g0, f0, f1, f2, f3, f4, f5, f6, f7, f8]); repeat' (first | (with_reducible first | refine c_split ?_ ?_ | refine w_split ?_ ?_ | refine tw_split ?_ ?_) <;> intro hb <;> try simp only [go_sem, hb, hA, e3, hil, hg0, g0, f0, f1, f2, f3, f4, f5, f6, f7, f8] | (first | with_reducible refine d153_0_LBooksT (by with_unfolding_all rfl) (by kernel_rfl) ?_ | refine call_c (c_l3No _ _ ?_) | refine call_c (c_l1In _ _ _ _ ?_) | refine call_c (c_l1Some _ _ _ ?_) | fail) <;> try simp only [go_sem, hA, e3, hil, hg0, g0, f0, f1, f2, f3, f4, f5, f6, f7, f8] | fail)
          refine gc_trim 0 (by decide) (by simp only [go_sem]) (by simp only [go_sem]) (hJ _ _ hi (by simp only [go_sem, hA, e3]) ⟨?_, ?_, ?_⟩) <;> try simp only [go_sem, hA, e3, hw]
          exact hall
        · have hj : j < xs.length := by omega
          have hgj : xs[j]? = some xs[j] := List.getElem?_eq_getElem hj
          have g1 : decide ((0 : Int) < ((j + 1 : Nat) : Int)) = true := decide_eq_true (by omega)
          have g2 : wrap64 (((j + 1 : Nat) : Int) - 1) = (j : Int) := by unfold wrap64; omega
          rw [rowG_s hi, Bool.and_eq_true] at hr
          obtain ⟨hr, hlt⟩ := hr
          simp only [trP, Bool.and_eq_true] at hr
          obtain ⟨⟨⟨⟨⟨⟨⟨⟨f0, f1⟩, f2⟩, f3⟩, f4⟩, f5⟩, f6⟩, f7⟩, f8⟩ := hr
          have f5 := not_tt f5
          have hlt2 := trLt_f hlt
          (try simp only [go_sem, hA, e3, hil, hg0, g1, g2, hgj, hlt2, f0, f1, f2, f3, f4, f5, f6, f7, f8]); repeat' (first | (with_reducible first | refine c_split ?_ ?_ | refine w_split ?_ ?_ | refine tw_split ?_ ?_) <;> intro hb <;> try simp only [go_sem, hb, hA, e3, hil, hg0, g1, g2, hgj, hlt2, f0, f1, f2, f3, f4, f5, f6, f7, f8] | (first | with_reducible refine d153_0_LBooksT (by with_unfolding_all rfl) (by kernel_rfl) ?_ | refine call_c (c_l3No _ _ ?_) | refine call_c (c_l1In _ _ _ _ ?_) | refine call_c (c_l1Some _ _ _ ?_) | fail) <;> try simp only [go_sem, hA, e3, hil, hg0, g1, g2, hgj, hlt2, f0, f1, f2, f3, f4, f5, f6, f7, f8] | fail)
          refine gc_trim 0 (by decide) (by simp only [go_sem]) (by simp only [go_sem]) (hJ _ _ hi (by simp only [go_sem, hA, e3]) ⟨?_, ?_, ?_⟩) <;> try simp only [go_sem, hA, e3, hw]
          exact hall
      | false =>
        rw [tradesOk, okL_no hr hi] at hk
        rcases i with _ | j
        · have g0 : decide ((0 : Int) < ((0 : Nat) : Int)) = false := by decide
          rw [rowG_0 hi] at hr
          (try simp only [go_sem, hA, e3, hil, hg0, g0]); repeat' (first | (with_reducible first | refine c_split ?_ ?_ | refine w_split ?_ ?_ | refine tw_split ?_ ?_) <;> intro hb <;> try simp only [go_sem, hb, hA, e3, hil, hg0, g0] | (first | with_reducible refine d153_0_LBooksT (by with_unfolding_all rfl) (by kernel_rfl) ?_ | refine call_c (c_l3No _ _ ?_) | refine call_c (c_l1In _ _ _ _ ?_) | refine call_c (c_l1Some _ _ _ ?_) | fail) <;> try simp only [go_sem, hA, e3, hil, hg0, g0] | with_reducible refine hQ _ _ ?_ <;> simp only [Tryz.f153, go_sem, hA, e3, hil, hg0, g0])
          all_goals first | exact hk | exact (Bool.eq_false_iff.1 hr (by clear hr hJ hA hQ hQO; simp only [trP]; simp_all <;> omega)).elim
        · have hj : j < xs.length := by omega
          have hgj : xs[j]? = some xs[j] := List.getElem?_eq_getElem hj
          have g1 : decide ((0 : Int) < ((j + 1 : Nat) : Int)) = true := decide_eq_true (by omega)
          have g2 : wrap64 (((j + 1 : Nat) : Int) - 1) = (j : Int) := by unfold wrap64; omega
          rw [rowG_s hi] at hr
          (try simp only [go_sem, hA, e3, hil, hg0, g1, g2, hgj]); repeat' (first | (with_reducible first | refine c_split ?_ ?_ | refine w_split ?_ ?_ | refine tw_split ?_ ?_) <;> intro hb <;> try simp only [go_sem, hb, hA, e3, hil, hg0, g1, g2, hgj] | (first | with_reducible refine d153_0_LBooksT (by with_unfolding_all rfl) (by kernel_rfl) ?_ | refine call_c (c_l3No _ _ ?_) | refine call_c (c_l1In _ _ _ _ ?_) | refine call_c (c_l1Some _ _ _ ?_) | fail) <;> try simp only [go_sem, hA, e3, hil, hg0, g1, g2, hgj] | with_reducible refine hQ _ _ ?_ <;> simp only [Tryz.f153, go_sem, hA, e3, hil, hg0, g1, g2, hgj])
          all_goals first | exact hk | exact (Bool.eq_false_iff.1 hr (by clear hr hJ hA hQ hQO; simp only [trP, trLt]; simp_all <;> omega)).elim
end Go.Proofs.YtkndmncgohmjmaaGreat
end
section
namespace Go.Proofs.YtkndmncgohmjmaaGreat
open Go.BL Go.RowKit
set_option linter.unusedVariables false
set_option linter.unusedSimpArgs false
set_option maxRecDepth 100000
attribute [local go_sem] accountC balC lotC tradeC
theorem find_at {α : Type} {p : α → Bool} : ∀ {xs : List α} {i : Nat}, noneTo p xs i → ∀ (hi : i < xs.length), p xs[i] = true → xs.find? p = some xs[i]
  | [], i, _, hi, _ => absurd hi (Nat.not_lt_zero i)
  | x :: r, 0, _, _, hp => by rw [List.find?_cons]; simp at hp; rw [hp]; rfl
  | x :: r, i + 1, h, hi, hp => by
    have h0 : p x = false := h 0 (by simp) (by omega)
    rw [List.find?_cons, h0]
    exact find_at (xs := r) (i := i) (fun j hj hji => h (j + 1) (by simpa using hj) (by omega)) (by simpa using hi) (by simpa using hp)
theorem find_no {α : Type} {p : α → Bool} {xs : List α} (h : noneTo p xs xs.length) : xs.find? p = none := by
  rw [List.find?_eq_none]
  intro x hx
  obtain ⟨i, hi, rfl⟩ := List.mem_iff_getElem.1 hx
  rw [h i hi hi]; decide
def kindOf (xs : List Account) (no : Int) : Int := match xs.find? (fun a => a.no == no) with | some a => a.kind | none => 0
theorem c_accountKind (xs : List Account) (no : Int) (hn : xs.length ≤ 1000000000) (K : AV → AH → Prop) (hk : K (.one (.c (.int .i64 (kindOf xs no)))) []) : ACalls Tryz.prog 254 [(.one (.im (xs.map accountC))), (.one (.c (.int .i64 (no))))] [] K := by
  refine acall_c Tryz.f254.results.toList mixed Tryz.func254 rfl rfl (by kernel_rfl) ?_
  intro Q hQ hQO
  simp only [go_sem]
  refine for_at (xs.length) [1, 7, 8] (fun i f h => f 9 = (.one (.c (.int .i64 (i)))) ∧ h = [] ∧ noneTo (fun a => a.no == no) xs i) (GC.now ?_) ?_
  · simp only [go_sem, nc_0, true_and]
    exact noneTo_0 _ _
  · rintro i f h J hi hA ⟨e9, rfl, hP⟩ hJ
    simp only [go_sem] at hA
    simp only [go_sem, hA, e9]
    refine c_split (fun hb => ?_) (fun hb => ?_)
    rotate_left
    · simp only [go_sem, hb, hA, e9]
      obtain rfl := ge_len hb hi
      (try simp only [go_sem, hA, e9]); repeat' (first | (with_reducible first | refine c_split ?_ ?_ | refine w_split ?_ ?_) <;> intro hb <;> try simp only [go_sem, hb, hA, e9] | with_reducible refine hQ _ _ ?_ <;> simp only [Tryz.f254, go_sem, hA, e9])
      rw [kindOf, find_no hP] at hk
      exact hk
    have hi := lt_len hb
    have hw := wrap_nat i (by omega)
    have hil : (i : Int) < ((xs.length : Nat) : Int) := Int.ofNat_lt.2 hi
    have hg0 : (xs)[i]? = some ((xs)[i]) := List.getElem?_eq_getElem (by omega)
    simp only [go_sem, hb, hA, e9, hg0]
    try simp only [go_sem, hA, e9, hil, hg0]
    (try simp only [go_sem, hA, e9, hil, hg0]); repeat' (first | (with_reducible first | refine c_split ?_ ?_ | refine w_split ?_ ?_) <;> intro hb <;> try simp only [go_sem, hb, hA, e9, hil, hg0] | with_reducible refine hQ _ _ ?_ <;> simp only [Tryz.f254, go_sem, hA, e9, hil, hg0])
    · rw [kindOf, find_at hP hi hb] at hk
      exact hk
    · refine gc_trim 0 (by decide) (by simp only [go_sem]) (by simp only [go_sem]) (hJ _ _ hi (by simp only [go_sem, hA, e9]) ⟨?_, ?_, ?_⟩) <;> try simp only [go_sem, hA, e9, hw]
      exact noneTo_s hP hi hb
theorem c_instrKind (xs : List Account) (no : Int) (hn : xs.length ≤ 1000000000) (K : AV → AH → Prop) (hk : K (.one (.c (.int .i64 (kindOf xs no)))) []) : ACalls Tryz.prog 255 [(.one (.im (xs.map accountC))), (.one (.c (.int .i64 (no))))] [] K := by
  refine acall_c Tryz.f255.results.toList mixed Tryz.func255 rfl rfl (by kernel_rfl) ?_
  intro Q hQ hQO
  simp only [go_sem]
  refine for_at (xs.length) [1, 7, 8] (fun i f h => f 9 = (.one (.c (.int .i64 (i)))) ∧ h = [] ∧ noneTo (fun a => a.no == no) xs i) (GC.now ?_) ?_
  · simp only [go_sem, nc_0, true_and]
    exact noneTo_0 _ _
  · rintro i f h J hi hA ⟨e9, rfl, hP⟩ hJ
    simp only [go_sem] at hA
    simp only [go_sem, hA, e9]
    refine c_split (fun hb => ?_) (fun hb => ?_)
    rotate_left
    · simp only [go_sem, hb, hA, e9]
      obtain rfl := ge_len hb hi
      (try simp only [go_sem, hA, e9]); repeat' (first | (with_reducible first | refine c_split ?_ ?_ | refine w_split ?_ ?_) <;> intro hb <;> try simp only [go_sem, hb, hA, e9] | with_reducible refine hQ _ _ ?_ <;> simp only [Tryz.f255, go_sem, hA, e9])
      rw [kindOf, find_no hP] at hk
      exact hk
    have hi := lt_len hb
    have hw := wrap_nat i (by omega)
    have hil : (i : Int) < ((xs.length : Nat) : Int) := Int.ofNat_lt.2 hi
    have hg0 : (xs)[i]? = some ((xs)[i]) := List.getElem?_eq_getElem (by omega)
    simp only [go_sem, hb, hA, e9, hg0]
    try simp only [go_sem, hA, e9, hil, hg0]
    (try simp only [go_sem, hA, e9, hil, hg0]); repeat' (first | (with_reducible first | refine c_split ?_ ?_ | refine w_split ?_ ?_) <;> intro hb <;> try simp only [go_sem, hb, hA, e9, hil, hg0] | with_reducible refine hQ _ _ ?_ <;> simp only [Tryz.f255, go_sem, hA, e9, hil, hg0])
    · rw [kindOf, find_at hP hi hb] at hk
      exact hk
    · refine gc_trim 0 (by decide) (by simp only [go_sem]) (by simp only [go_sem]) (hJ _ _ hi (by simp only [go_sem, hA, e9]) ⟨?_, ?_, ?_⟩) <;> try simp only [go_sem, hA, e9, hw]
      exact noneTo_s hP hi hb
theorem c_AccountKind (xs : List Account) (no : Int) (hn : xs.length ≤ 1000000000) (hok : accountsOk xs = true) (K : AV → AH → Prop) (hk : K (.one (.c (.int .i64 (kindOf xs no)))) []) : ACalls Tryz.prog 156 [(.one (.im (xs.map accountC))), (.one (.c (.int .i64 (no))))] [] K := by
  refine acall_c Tryz.f156.results.toList mixed Tryz.func156 rfl rfl (by kernel_rfl) ?_
  intro Q hQ hQO
  simp only [go_sem]
  refine while_at (α := Nat) (fun j => xs.length - j) [0, 1] (fun j f h => f 5 = (.one (.c (.int .i64 ((j : Int))))) ∧ h = [] ∧ j ≤ xs.length ∧ noneTo (fun a => a.no == no) xs j) 0 (GC.now ?_) ?_
  · simp only [go_sem, nc_0, true_and]
    exact ⟨Nat.zero_le _, noneTo_0 _ _⟩
  · rintro j f h J hA ⟨e5, rfl, hP⟩ hJ
    simp only [go_sem] at hA
    try dsimp only at hJ
    simp only [go_sem, hA, e5]
    by_cases hi : j < xs.length
    · have hd : decide ((j : Int) < (xs.length : Int)) = true := decide_eq_true (Int.ofNat_lt.2 hi)
      have hil : (j : Int) < (xs.length : Int) := Int.ofNat_lt.2 hi
      have hg : xs[j]? = some xs[j] := List.getElem?_eq_getElem hi
      have hw := wrap_nat j (by omega)
      have hdec : xs.length - (j + 1) < xs.length - j := by omega
      (try simp only [go_sem, hA, e5, hd, hok, hg, hil]); repeat' (first | (with_reducible first | refine c_split ?_ ?_ | refine w_split ?_ ?_) <;> intro hb <;> try simp only [go_sem, hb, hA, e5, hd, hok, hg, hil] | refine call_c (c_spec_AccountsOk xs hn _ ?_) <;> try simp only [go_sem, hA, e5, hd, hok, hg, hil] | with_reducible refine hQ _ _ ?_ <;> simp only [Tryz.f156, go_sem, hA, e5, hd, hok, hg, hil])
      · rw [kindOf, find_at hP.2 hi hb] at hk
        exact hk
      · refine gc_trim 0 (by decide) (by simp only [go_sem]) (by simp only [go_sem, hw]) (hJ (j + 1) _ _ (by exact hdec) (by simp only [go_sem, hA, e5]) ⟨?_, ?_, ?_⟩) <;> try simp only [go_sem, hA, e5, hw]
        exact ⟨hi, noneTo_s hP.2 hi hb⟩
    · have hd : decide ((j : Int) < (xs.length : Int)) = false := decide_eq_false (fun q => hi (Int.ofNat_lt.1 q))
      have hj : j = xs.length := by omega
      subst hj
      (try simp only [go_sem, hA, e5, hd]); repeat' (first | (with_reducible first | refine c_split ?_ ?_ | refine w_split ?_ ?_) <;> intro hb <;> try simp only [go_sem, hb, hA, e5, hd] | with_reducible refine hQ _ _ ?_ <;> simp only [Tryz.f156, go_sem, hA, e5, hd])
      rw [kindOf, find_no hP.2] at hk
      exact hk
theorem c_InstrKind (xs : List Account) (no : Int) (hn : xs.length ≤ 1000000000) (hok : instrsOk xs = true) (K : AV → AH → Prop) (hk : K (.one (.c (.int .i64 (kindOf xs no)))) []) : ACalls Tryz.prog 157 [(.one (.im (xs.map accountC))), (.one (.c (.int .i64 (no))))] [] K := by
  refine acall_c Tryz.f157.results.toList mixed Tryz.func157 rfl rfl (by kernel_rfl) ?_
  intro Q hQ hQO
  simp only [go_sem]
  refine while_at (α := Nat) (fun j => xs.length - j) [0, 1] (fun j f h => f 5 = (.one (.c (.int .i64 ((j : Int))))) ∧ h = [] ∧ j ≤ xs.length ∧ noneTo (fun a => a.no == no) xs j) 0 (GC.now ?_) ?_
  · simp only [go_sem, nc_0, true_and]
    exact ⟨Nat.zero_le _, noneTo_0 _ _⟩
  · rintro j f h J hA ⟨e5, rfl, hP⟩ hJ
    simp only [go_sem] at hA
    try dsimp only at hJ
    simp only [go_sem, hA, e5]
    by_cases hi : j < xs.length
    · have hd : decide ((j : Int) < (xs.length : Int)) = true := decide_eq_true (Int.ofNat_lt.2 hi)
      have hil : (j : Int) < (xs.length : Int) := Int.ofNat_lt.2 hi
      have hg : xs[j]? = some xs[j] := List.getElem?_eq_getElem hi
      have hw := wrap_nat j (by omega)
      have hdec : xs.length - (j + 1) < xs.length - j := by omega
      (try simp only [go_sem, hA, e5, hd, hok, hg, hil]); repeat' (first | (with_reducible first | refine c_split ?_ ?_ | refine w_split ?_ ?_) <;> intro hb <;> try simp only [go_sem, hb, hA, e5, hd, hok, hg, hil] | refine call_c (c_spec_InstrsOk xs hn _ ?_) <;> try simp only [go_sem, hA, e5, hd, hok, hg, hil] | with_reducible refine hQ _ _ ?_ <;> simp only [Tryz.f157, go_sem, hA, e5, hd, hok, hg, hil])
      · rw [kindOf, find_at hP.2 hi hb] at hk
        exact hk
      · refine gc_trim 0 (by decide) (by simp only [go_sem]) (by simp only [go_sem, hw]) (hJ (j + 1) _ _ (by exact hdec) (by simp only [go_sem, hA, e5]) ⟨?_, ?_, ?_⟩) <;> try simp only [go_sem, hA, e5, hw]
        exact ⟨hi, noneTo_s hP.2 hi hb⟩
    · have hd : decide ((j : Int) < (xs.length : Int)) = false := decide_eq_false (fun q => hi (Int.ofNat_lt.1 q))
      have hj : j = xs.length := by omega
      subst hj
      (try simp only [go_sem, hA, e5, hd]); repeat' (first | (with_reducible first | refine c_split ?_ ?_ | refine w_split ?_ ?_) <;> intro hb <;> try simp only [go_sem, hb, hA, e5, hd] | with_reducible refine hQ _ _ ?_ <;> simp only [Tryz.f157, go_sem, hA, e5, hd])
      rw [kindOf, find_no hP.2] at hk
      exact hk
def sumB (xs : List Bal) (n : Int) : Int := (xs.map fun x => if (x.instr == n) = true then x.amount else 0).sum
theorem sumB_s (xs : List Bal) (n : Int) (i : Nat) (hi : i < xs.length) : sumB (xs.take (i + 1)) n = sumB (xs.take i) n + (if (xs[i].instr == n) = true then xs[i].amount else 0) := by
  rw [List.take_succ_eq_append_getElem hi, sumB, sumB, List.map_append, List.sum_append]; simp
theorem sumB_le (n : Int) : ∀ (xs : List Bal), (∀ x ∈ xs, amtOk x.amount = true) → -(1000000000000000 * (xs.length : Int)) ≤ sumB xs n ∧ sumB xs n ≤ 1000000000000000 * (xs.length : Int)
  | [], _ => by simp [sumB]
  | x :: r, h => by
    have ih := sumB_le n r (fun y hy => h y (List.mem_cons_of_mem _ hy))
    have hx : -1000000000000000 ≤ x.amount ∧ x.amount ≤ 1000000000000000 := of_decide_eq_true (h x (List.mem_cons_self ..))
    have e : sumB (x :: r) n = (if (x.instr == n) = true then x.amount else 0) + sumB r n := by simp [sumB]
    rw [e, List.length_cons]
    split <;> omega
theorem balsOk_amt {xs : List Bal} (h : balsOk xs = true) : (∀ x ∈ xs, amtOk x.amount = true) ∧ xs.length ≤ 160 := by
  refine ⟨fun x hx => ?_, by have := okL_len h; omega⟩
  have := okL_p h hx
  simp only [balP, Bool.and_eq_true] at this
  exact this.1.2
theorem sumB_w {xs : List Bal} (h : balsOk xs = true) (n : Int) {i : Nat} (hi : i < xs.length) : wrap64 (sumB (xs.take i) n + xs[i].amount) = sumB (xs.take i) n + xs[i].amount := by
  obtain ⟨h1, h2⟩ := balsOk_amt h
  have h3 := sumB_le n (xs.take i) (fun x hx => h1 x (List.mem_of_mem_take hx))
  have h4 : -1000000000000000 ≤ xs[i].amount ∧ xs[i].amount ≤ 1000000000000000 := of_decide_eq_true (h1 _ (List.getElem_mem hi))
  rw [List.length_take] at h3
  exact wrap_id _ (by omega) (by omega)
theorem c_balsSum (xs : List Bal) (n : Int) (hn : xs.length ≤ 1000000000) (hok : balsOk xs = true) (K : AV → AH → Prop) (hk : K (.one (.c (.int .i64 (sumB xs n)))) []) : ACalls Tryz.prog 256 [(.one (.im (xs.map balC))), (.one (.c (.int .i64 (n))))] [] K := by
  refine acall_c Tryz.f256.results.toList mixed Tryz.func256 rfl rfl (by kernel_rfl) ?_
  intro Q hQ hQO
  simp only [go_sem]
  refine for_at (xs.length) [1, 8, 9] (fun i f h => f 5 = (.one (.c (.int .i64 (sumB (xs.take i) n)))) ∧ f 10 = (.one (.c (.int .i64 (i)))) ∧ h = []) (GC.now ?_) ?_
  · simp only [go_sem, nc_0, true_and]
    rfl
  · rintro i f h J hi hA ⟨e5, e10, rfl⟩ hJ
    simp only [go_sem] at hA
    simp only [go_sem, hA, e5, e10]
    refine c_split (fun hb => ?_) (fun hb => ?_)
    rotate_left
    · simp only [go_sem, hb, hA, e5, e10]
      obtain rfl := ge_len hb hi
      (try simp only [go_sem, hA, e5, e10, List.take_length]); repeat' (first | (with_reducible first | refine c_split ?_ ?_ | refine w_split ?_ ?_) <;> intro hb <;> try simp only [go_sem, hb, hA, e5, e10, List.take_length] | with_reducible refine hQ _ _ ?_ <;> simp only [Tryz.f256, go_sem, hA, e5, e10, List.take_length])
      exact hk
    have hi := lt_len hb
    have hw := wrap_nat i (by omega)
    have hil : (i : Int) < ((xs.length : Nat) : Int) := Int.ofNat_lt.2 hi
    have hg0 : (xs)[i]? = some ((xs)[i]) := List.getElem?_eq_getElem (by omega)
    simp only [go_sem, hb, hA, e5, e10, hg0]
    try simp only [go_sem, hA, e5, e10, hil, hg0]
    have hs := sumB_s xs n i hi
    have hwv := sumB_w hok n hi
    (try simp only [go_sem, hA, e5, e10, hil, hg0]); repeat' (first | (with_reducible first | refine c_split ?_ ?_ | refine w_split ?_ ?_) <;> intro hb <;> try simp only [go_sem, hb, hA, e5, e10, hil, hg0] | fail)
    · rw [if_pos hb] at hs
      (try simp only [go_sem, hA, e5, e10, hil, hg0, hwv]); repeat' (first | (with_reducible first | refine c_split ?_ ?_ | refine w_split ?_ ?_) <;> intro hb <;> try simp only [go_sem, hb, hA, e5, e10, hil, hg0, hwv] | fail)
      refine gc_trim 0 (by decide) (by simp only [go_sem]) (by simp only [go_sem]) (hJ _ _ hi (by simp only [go_sem, hA, e5, e10]) ⟨?_, ?_, ?_⟩) <;> try simp only [go_sem, hA, e5, e10, hw, hs]
    · rw [if_neg (by rw [hb]; decide), Int.add_zero] at hs
      refine gc_trim 0 (by decide) (by simp only [go_sem]) (by simp only [go_sem]) (hJ _ _ hi (by simp only [go_sem, hA, e5, e10]) ⟨?_, ?_, ?_⟩) <;> try simp only [go_sem, hA, e5, e10, hw, hs]
theorem c_l1Told (x : Int) (ok : Bool) (K : AV → AH → Prop) (hk : K (.tup [(.one (.c (.int .i64 (if (ok && amtOk x) = true then x else 0)))), (.one (.c (.bool (ok && amtOk x))))]) []) : ACalls Tryz.prog 317 [(.one (.c (.int .i64 (x)))), (.one (.c (.bool (ok))))] [] K := by
  refine acall_c Tryz.f317.results.toList mixed Tryz.func317 rfl rfl (by kernel_rfl) ?_
  intro Q hQ hQO
  simp only [go_sem]
  (try simp only [go_sem]); repeat' (first | (with_reducible first | refine c_split ?_ ?_ | refine w_split ?_ ?_) <;> intro hb <;> try simp only [go_sem, hb] | refine call_c (c_spec_AmountOk _ _ ?_) <;> try simp only [go_sem] | with_reducible refine hQ _ _ ?_ <;> simp only [Tryz.f317, go_sem])
  · simp at hb; rw [hb] at hk; simpa using hk
  · simp at hb; simp [hb] at hk; exact hk
  · simp at hb; simp [hb] at hk; simp_all
theorem c_BalsSum (xs : List Bal) (n : Int) (hn : xs.length ≤ 1000000000) (hok : balsOk xs = true) (K : AV → AH → Prop) (hk : K (.tup [(.one (.c (.int .i64 (if amtOk (sumB xs n) = true then sumB xs n else 0)))), (.one (.c (.bool (amtOk (sumB xs n)))))]) []) : ACalls Tryz.prog 245 [(.one (.im (xs.map balC))), (.one (.c (.int .i64 (n))))] [] K := by
  refine acall_c Tryz.f245.results.toList mixed Tryz.func245 rfl rfl (by kernel_rfl) ?_
  intro Q hQ hQO
  simp only [go_sem]
  refine while_at (α := Nat) (fun j => xs.length - j) [0, 1] (fun j f h => f 6 = (.one (.c (.int .i64 (sumB (xs.take j) n)))) ∧ f 7 = (.one (.c (.int .i64 ((j : Int))))) ∧ h = [] ∧ j ≤ xs.length) 0 (GC.now ?_) ?_
  · simp only [go_sem, nc_0, true_and]
    exact ⟨rfl, Nat.zero_le _⟩
  · rintro j f h J hA ⟨e6, e7, rfl, hP⟩ hJ
    simp only [go_sem] at hA
    try dsimp only at hJ
    simp only [go_sem, hA, e6, e7]
    by_cases hi : j < xs.length
    · have hd : decide ((j : Int) < (xs.length : Int)) = true := decide_eq_true (Int.ofNat_lt.2 hi)
      have hil : (j : Int) < (xs.length : Int) := Int.ofNat_lt.2 hi
      have hg : xs[j]? = some xs[j] := List.getElem?_eq_getElem hi
      have hw := wrap_nat j (by omega)
      have hdec : xs.length - (j + 1) < xs.length - j := by omega
      have hs := sumB_s xs n j hi
      have hwv := sumB_w hok n hi
      (try simp only [go_sem, hA, e6, e7, hd, hok, hg, hil]); repeat' (first | (with_reducible first | refine c_split ?_ ?_ | refine w_split ?_ ?_) <;> intro hb <;> try simp only [go_sem, hb, hA, e6, e7, hd, hok, hg, hil] | refine call_c (c_spec_BalsOk xs hn _ ?_) <;> try simp only [go_sem, hA, e6, e7, hd, hok, hg, hil] | fail)
      · rw [if_pos hb] at hs
        (try simp only [go_sem, hA, e6, e7, hg, hil, hwv]); repeat' (first | (with_reducible first | refine c_split ?_ ?_ | refine w_split ?_ ?_) <;> intro hb <;> try simp only [go_sem, hb, hA, e6, e7, hg, hil, hwv] | fail)
        refine gc_trim 0 (by decide) (by simp only [go_sem]) (by simp only [go_sem, hw, hs]) (hJ (j + 1) _ _ (by exact hdec) (by simp only [go_sem, hA, e6, e7]) ⟨?_, ?_, ?_, ?_⟩) <;> try simp only [go_sem, hA, e6, e7, hw, hs]
        exact hi
      · rw [if_neg (by rw [hb]; decide), Int.add_zero] at hs
        refine gc_trim 0 (by decide) (by simp only [go_sem]) (by simp only [go_sem, hw, hs]) (hJ (j + 1) _ _ (by exact hdec) (by simp only [go_sem, hA, e6, e7]) ⟨?_, ?_, ?_, ?_⟩) <;> try simp only [go_sem, hA, e6, e7, hw, hs]
        exact hi
    · have hd : decide ((j : Int) < (xs.length : Int)) = false := decide_eq_false (fun q => hi (Int.ofNat_lt.1 q))
      have hj : j = xs.length := by omega
      subst hj
      rw [show amtOk (sumB xs n) = (true && amtOk (sumB xs n)) from (Bool.true_and _).symm] at hk
      (try simp only [go_sem, hA, e6, e7, hd, hok, List.take_length]); repeat' (first | (with_reducible first | refine c_split ?_ ?_ | refine w_split ?_ ?_) <;> intro hb <;> try simp only [go_sem, hb, hA, e6, e7, hd, hok, List.take_length] | (first | refine call_c (c_spec_BalsOk xs hn _ ?_) | refine call_c (c_l1Told (sumB xs n) true _ ?_) | fail) <;> try simp only [go_sem, hA, e6, e7, hd, hok, List.take_length] | with_reducible refine hQ _ _ ?_ <;> simp only [Tryz.f245, go_sem, hA, e6, e7, hd, hok, List.take_length])
      exact hk
end Go.Proofs.YtkndmncgohmjmaaGreat
end
section
namespace Go.Proofs.YtkndmncgohmjmaaGreat
open Go.BL Go.RowKit
set_option linter.unusedVariables false
set_option linter.unusedSimpArgs false
set_option maxRecDepth 100000
theorem findG_cases {α : Type} (p : α → Bool) (xs : List α) : (findG p xs = -1 ∧ xs.filter (fun x => !p x) = xs) ∨ ∃ (i : Nat) (hi : i < xs.length), findG p xs = i ∧ p xs[i] = true ∧ (xs.take (i + 1)).filter (fun x => !p x) = xs.take i := by
  unfold findG
  cases hf : xs.findIdx? p with
  | none =>
    rw [List.findIdx?_eq_none_iff] at hf
    exact .inl ⟨rfl, List.filter_eq_self.2 fun x hx => by simp [hf x hx]⟩
  | some i =>
    rw [List.findIdx?_eq_some_iff_getElem] at hf
    obtain ⟨hi, h1, h2⟩ := hf
    refine .inr ⟨i, hi, rfl, h1, ?_⟩
    rw [List.take_succ_eq_append_getElem hi, List.filter_append, List.filter_eq_self.2]
    · simp [h1]
    · intro x hx
      obtain ⟨j, hj, rfl⟩ := List.mem_iff_getElem.1 hx
      simp only [List.length_take] at hj
      have := h2 j (by omega)
      simpa using this
theorem del_arith {a m j n : Nat} (h : a + 1 + m = j) (hj : j < n) (hn : n ≤ 1000000000) : a < 9223372036854775807 ∧ j < 9223372036854775807 ∧ (a : Int) < (n : Int) ∧ n - (j + 1) < n - j ∧ j + 1 ≤ n ∧ a + 1 + 1 + m = j + 1 ∧ a + 1 + (m + 1) = j + 1 := by omega
theorem set_mid {α : Type} (A : List α) (m : α) (B : List α) (x : α) : (A ++ m :: B).set A.length x = A ++ x :: B := by
  rw [List.set_append_right _ _ (Nat.le_refl _), Nat.sub_self]; rfl
end Go.Proofs.YtkndmncgohmjmaaGreat
end
section
namespace Go.Proofs.YtkndmncgohmjmaaGreat
open Go.BL Go.RowKit
set_option linter.unusedVariables false
set_option linter.unusedSimpArgs false
set_option maxRecDepth 100000
attribute [local go_sem] accountC balC lotC tradeC
theorem okL_mono {α : Type} {p : α → Bool} {lt : α → α → Bool} {m : Int} {xs : List α} (tr : ∀ x y z, lt x y = true → lt y z = true → lt x z = true) (h : okL p lt m xs = true) : ∀ (d i : Nat) (hj : i + d + 1 < xs.length), lt (xs[i]'(by omega)) xs[i + d + 1] = true
  | 0, i, hj => okL_lt h hj
  | d + 1, i, hj => tr _ _ _ (okL_mono tr h d i (by omega)) (okL_lt h (j := i + d + 1) (by omega))
theorem pairLt_iff {a b c d : Int} : pairLt a b c d = true ↔ a < c ∨ a = c ∧ b < d := by simp [pairLt]
theorem balLt_tr (x y z : Bal) (h1 : balLt x y = true) (h2 : balLt y z = true) : balLt x z = true := by
  unfold balLt at *
  rw [pairLt_iff] at *
  omega
def balIs (a n : Int) (x : Bal) : Bool := x.account == a && x.instr == n
def balV (xs : List Bal) (a n : Int) : Int := match xs.find? (balIs a n) with | some x => x.amount | none => 0
theorem balIs_iff {a n : Int} {x : Bal} : balIs a n x = true ↔ x.account = a ∧ x.instr = n := by simp [balIs]
theorem bal_uniq {xs : List Bal} (h : balsOk xs = true) {i j : Nat} (hi : i < xs.length) (hj : j < xs.length) {a n : Int} (h1 : balIs a n xs[i] = true) (h2 : balIs a n xs[j] = true) : i = j := by
  have key : ∀ {i j : Nat} (hi : i < xs.length) (hj : j < xs.length), balIs a n xs[i] = true → balIs a n xs[j] = true → ¬ i < j := by
    intro i j hi hj h1 h2 hij
    obtain ⟨d, rfl⟩ : ∃ d, j = i + d + 1 := ⟨j - i - 1, by omega⟩
    have := okL_mono balLt_tr h d i hj
    rw [balIs_iff] at h1 h2
    unfold balLt at this
    rw [pairLt_iff] at this
    omega
  have k1 := key hi hj h1 h2
  have k2 := key hj hi h2 h1
  omega
theorem balV_at {xs : List Bal} (h : balsOk xs = true) {i : Nat} (hi : i < xs.length) {a n : Int} (h1 : balIs a n xs[i] = true) : balV xs a n = xs[i].amount := by
  unfold balV
  cases hf : xs.find? (balIs a n) with
  | none => exact absurd h1 ((List.find?_eq_none.1 hf) _ (List.getElem_mem hi))
  | some y =>
    obtain ⟨j, hj, rfl⟩ := List.mem_iff_getElem.1 (List.mem_of_find?_eq_some hf)
    have := bal_uniq h hi hj h1 (List.find?_some hf)
    subst this; rfl
theorem balV_no {xs : List Bal} {a n : Int} (h : ∀ x ∈ xs, balIs a n x = false) : balV xs a n = 0 := by
  have : xs.find? (balIs a n) = none := by rw [List.find?_eq_none]; intro x hx; rw [h x hx]; decide
  rw [balV, this]
theorem c_balAt (xs : List Bal) (a n : Int) (hn : xs.length ≤ 1000000000) (hok : balsOk xs = true) (K : AV → AH → Prop) (hk1 : ∀ (k : Nat) (hi : k < xs.length), balIs a n xs[k] = true → K (.tup [(.one (.c (.int .i64 ((k : Int))))), (.one (.c (.bool (true))))]) []) (hk2 : ∀ (k : Nat), (∀ x ∈ xs, balIs a n x = false) → K (.tup [(.one (.c (.int .i64 ((k : Int))))), (.one (.c (.bool (false))))]) []) : ACalls Tryz.prog 319 [(.one (.im (xs.map balC))), (.one (.c (.int .i64 (a)))), (.one (.c (.int .i64 (n))))] [] K := by
  refine acall_c Tryz.f319.results.toList mixed Tryz.func319 rfl rfl (by kernel_rfl) ?_
  intro Q hQ hQO
  simp only [go_sem]
  refine for_at (xs.length) [0, 1, 2, 11, 12] (fun i f h => f 13 = (.one (.c (.int .i64 (i)))) ∧ h = [] ∧ ∀ j (hj : j < xs.length), j < i → byBoth xs[j].account xs[j].instr a n < 0) (GC.now ?_) ?_
  · simp only [go_sem, nc_0, true_and]
    intro j hj q; omega
  · rintro i f h J hi hA ⟨e13, rfl, hP⟩ hJ
    simp only [go_sem] at hA
    simp only [go_sem, hA, e13]
    refine c_split (fun hb => ?_) (fun hb => ?_)
    rotate_left
    · simp only [go_sem, hb, hA, e13]
      obtain rfl := ge_len hb hi
      (try simp only [go_sem, hA, e13]); repeat' (first | (with_reducible first | refine c_split ?_ ?_ | refine w_split ?_ ?_) <;> intro hb <;> try simp only [go_sem, hb, hA, e13] | with_reducible refine hQ _ _ ?_ <;> simp only [Tryz.f319, go_sem, hA, e13])
      refine hk2 _ fun x hx => ?_
      obtain ⟨j, hj, rfl⟩ := List.mem_iff_getElem.1 hx
      have := hP j hj hj
      cases hc : balIs a n xs[j] with
      | false => rfl
      | true =>
        have h2 := byBoth_lt.2.2 (balIs_iff.1 hc)
        omega
    have hi := lt_len hb
    have hw := wrap_nat i (by omega)
    have hil : (i : Int) < ((xs.length : Nat) : Int) := Int.ofNat_lt.2 hi
    have hg0 : (xs)[i]? = some ((xs)[i]) := List.getElem?_eq_getElem (by omega)
    simp only [go_sem, hb, hA, e13, hg0]
    try simp only [go_sem, hA, e13, hil, hg0]
    (try simp only [go_sem, hA, e13, hil, hg0]); repeat' (first | (with_reducible first | refine c_split ?_ ?_ | refine w_split ?_ ?_) <;> intro hb <;> try simp only [go_sem, hb, hA, e13, hil, hg0] | refine call_c (c_byBoth _ _ _ _ _ ?_) <;> try simp only [go_sem, hA, e13, hil, hg0] | with_reducible refine hQ _ _ ?_ <;> simp only [Tryz.f319, go_sem, hA, e13, hil, hg0])
    · have hge := of_decide_eq_true hb
      by_cases h0 : byBoth xs[i].account xs[i].instr a n = 0
      · rw [h0]
        exact hk1 i hi (balIs_iff.2 (byBoth_lt.2.1 h0))
      · have hne : (byBoth xs[i].account xs[i].instr a n == 0) = false := beq_false_of_ne h0
        rw [hne]
        refine hk2 i fun x hx => ?_
        obtain ⟨j, hj, rfl⟩ := List.mem_iff_getElem.1 hx
        cases hc : balIs a n xs[j] with
        | false => rfl
        | true =>
          have h2 := byBoth_lt.2.2 (balIs_iff.1 hc)
          rcases Nat.lt_trichotomy j i with q | q | q
          · have := hP j hj q; omega
          · subst q; omega
          · obtain ⟨d, rfl⟩ : ∃ d, j = i + d + 1 := ⟨j - i - 1, by omega⟩
            have h3 := okL_mono balLt_tr hok d i hj
            have h4 := balIs_iff.1 hc
            unfold balLt at h3
            rw [h4.1, h4.2] at h3
            have := byBoth_lt.1.2 h3
            omega
    · have hlt := of_decide_eq_false hb
      refine gc_trim 0 (by decide) (by simp only [go_sem]) (by simp only [go_sem]) (hJ _ _ hi (by simp only [go_sem, hA, e13]) ⟨?_, ?_, ?_⟩) <;> try simp only [go_sem, hA, e13, hw]
      intro j hj q
      by_cases e : j = i
      · subst e; omega
      · exact hP j hj (by omega)
theorem c_balOf (xs : List Bal) (a n : Int) (hn : xs.length ≤ 1000000000) (hok : balsOk xs = true) (K : AV → AH → Prop) (hk : K (.one (.c (.int .i64 (balV xs a n)))) []) : ACalls Tryz.prog 257 [(.one (.im (xs.map balC))), (.one (.c (.int .i64 (a)))), (.one (.c (.int .i64 (n))))] [] K := by
  refine acall_c Tryz.f257.results.toList mixed Tryz.func257 rfl rfl (by kernel_rfl) ?_
  intro Q hQ hQO
  simp only [go_sem]
  (try simp only [go_sem]); repeat' (first | (with_reducible first | refine c_split ?_ ?_ | refine w_split ?_ ?_) <;> intro hb <;> try simp only [go_sem, hb] | fail)
  refine call_c (c_balAt xs a n hn hok _ (fun k hi h => ?_) (fun k h => ?_))
  · have hg : xs[k]? = some xs[k] := List.getElem?_eq_getElem hi
    have hil : (k : Int) < (xs.length : Int) := Int.ofNat_lt.2 hi
    rw [balV_at hok hi h] at hk
    (try simp only [go_sem, hg, hil]); repeat' (first | (with_reducible first | refine c_split ?_ ?_ | refine w_split ?_ ?_) <;> intro hb <;> try simp only [go_sem, hb, hg, hil] | with_reducible refine hQ _ _ ?_ <;> simp only [Tryz.f257, go_sem, hg, hil])
    exact hk
  · rw [balV_no h] at hk
    (try simp only [go_sem]); repeat' (first | (with_reducible first | refine c_split ?_ ?_ | refine w_split ?_ ?_) <;> intro hb <;> try simp only [go_sem, hb] | with_reducible refine hQ _ _ ?_ <;> simp only [Tryz.f257, go_sem])
    exact hk
theorem c_l4Of (xs : List Bal) (a n : Int) (hn : xs.length ≤ 1000000000) (K : AV → AH → Prop) (hk : K (.one (.c (.int .i64 (balV xs a n)))) []) : ACalls Tryz.prog 246 [(.one (.im (xs.map balC))), (.one (.c (.int .i64 (a)))), (.one (.c (.int .i64 (n))))] [] K := by
  refine acall_c Tryz.f246.results.toList mixed Tryz.func246 rfl rfl (by kernel_rfl) ?_
  intro Q hQ hQO
  simp only [go_sem]
  refine for_at (xs.length) [0, 1, 2] (fun i f h => f 7 = (.one (.c (.int .i64 (i)))) ∧ h = [] ∧ noneTo (balIs a n) xs i) (GC.now ?_) ?_
  · simp only [go_sem, nc_0, true_and]
    exact noneTo_0 _ _
  · rintro i f h J hi hA ⟨e7, rfl, hP⟩ hJ
    simp only [go_sem] at hA
    simp only [go_sem, hA, e7]
    refine c_split (fun hb => ?_) (fun hb => ?_)
    rotate_left
    · simp only [go_sem, hb, hA, e7]
      obtain rfl := ge_len hb hi
      (try simp only [go_sem, hA, e7]); repeat' (first | (with_reducible first | refine c_split ?_ ?_ | refine w_split ?_ ?_) <;> intro hb <;> try simp only [go_sem, hb, hA, e7] | with_reducible refine hQ _ _ ?_ <;> simp only [Tryz.f246, go_sem, hA, e7])
      rw [balV, find_no hP] at hk
      exact hk
    have hi := lt_len hb
    have hw := wrap_nat i (by omega)
    have hil : (i : Int) < ((xs.length : Nat) : Int) := Int.ofNat_lt.2 hi
    have hg0 : (xs)[i]? = some ((xs)[i]) := List.getElem?_eq_getElem (by omega)
    simp only [go_sem, hb, hA, e7, hg0]
    try simp only [go_sem, hA, e7, hil, hg0]
    (try simp only [go_sem, hA, e7, hil, hg0]); repeat' (first | (with_reducible first | refine c_split ?_ ?_ | refine w_split ?_ ?_) <;> intro hb <;> try simp only [go_sem, hb, hA, e7, hil, hg0] | with_reducible refine hQ _ _ ?_ <;> simp only [Tryz.f246, go_sem, hA, e7, hil, hg0])
    · rename_i hb1
      rw [balV, find_at hP hi (show (xs[i].account == a && xs[i].instr == n) = true by rw [hb1, hb]; rfl)] at hk
      exact hk
    · rename_i hb1
      refine gc_trim 0 (by decide) (by simp only [go_sem]) (by simp only [go_sem]) (hJ _ _ hi (by simp only [go_sem, hA, e7]) ⟨?_, ?_, ?_⟩) <;> try simp only [go_sem, hA, e7, hw]
      exact noneTo_s hP hi (show (xs[i].account == a && xs[i].instr == n) = false by rw [hb1, hb]; rfl)
    · refine gc_trim 0 (by decide) (by simp only [go_sem]) (by simp only [go_sem]) (hJ _ _ hi (by simp only [go_sem, hA, e7]) ⟨?_, ?_, ?_⟩) <;> try simp only [go_sem, hA, e7, hw]
      exact noneTo_s hP hi (show (xs[i].account == a && xs[i].instr == n) = false by rw [hb]; rfl)
end Go.Proofs.YtkndmncgohmjmaaGreat
end
section
namespace Go.Proofs.YtkndmncgohmjmaaGreat
open Go.BL Go.RowKit
set_option linter.unusedVariables false
set_option linter.unusedSimpArgs false
set_option maxRecDepth 100000
attribute [local go_sem] accountC balC lotC tradeC
theorem c_CloneLot (fs : List Lot) (hn : fs.length ≤ 1000000000) (K : AV → AH → Prop) (hk : ∀ cap, K (.one (.sl 0 0 0 fs.length)) [.own 0 112 5 cap (fs.map lotC)]) : ACalls Tryz.prog 173 [(.one (.im (fs.map lotC)))] [] K := by
  refine acall_c Tryz.f173.results.toList mixed Tryz.func173 rfl rfl (by kernel_rfl) ?_
  intro Q hQ hQO
  simp only [go_sem]
  by_cases hf : fs = []
  · subst hf
    simp only [go_sem, nq_im0, nqG]
    intro b
    (try simp only [go_sem]); repeat' (first | (with_reducible first | refine c_split ?_ ?_ | refine w_split ?_ ?_) <;> intro hb <;> try simp only [go_sem, hb] | fail)
    · refine hQO [0] _ _ (GC.step (Ghost.nlr 2 (by simp only [go_sem]) 112 5) (GC.now ?_)) <;> simp only [Tryz.f173, go_sem, List.nodup_cons, List.nodup_nil, List.mem_cons, List.not_mem_nil, or_false, not_false_eq_true, List.idxOf?_cons, List.idxOf?_nil, Option.map_none]
      exact hk _
    · refine ap_end rfl rfl (by decide) ?_
      (try simp only [go_sem]); repeat' (first | (with_reducible first | refine c_split ?_ ?_ | refine w_split ?_ ?_) <;> intro hb <;> try simp only [go_sem, hb] | fail)
      refine hQO [0] _ _ (GC.now ?_) <;> simp only [Tryz.f173, go_sem, List.nodup_cons, List.nodup_nil, List.mem_cons, List.not_mem_nil, or_false, not_false_eq_true, List.idxOf?_cons, List.idxOf?_nil, Option.map_none]
      exact hk _
  · have hne : fs.map lotC ≠ [] := by simpa using hf
    (try simp only [go_sem, nq_im _ hne, nqG]); repeat' (first | (with_reducible first | refine c_split ?_ ?_ | refine w_split ?_ ?_) <;> intro hb <;> try simp only [go_sem, hb, nq_im _ hne, nqG] | fail)
    refine ap_end rfl rfl (by simp; omega) ?_
    (try simp only [go_sem, Nat.zero_add]); repeat' (first | (with_reducible first | refine c_split ?_ ?_ | refine w_split ?_ ?_) <;> intro hb <;> try simp only [go_sem, hb, Nat.zero_add] | fail)
    refine hQO [0] _ _ (GC.now ?_) <;> simp only [Tryz.f173, go_sem, List.nodup_cons, List.nodup_nil, List.mem_cons, List.not_mem_nil, or_false, not_false_eq_true, List.idxOf?_cons, List.idxOf?_nil, Option.map_none]
    exact hk _
theorem c_IndexFuncLot (fs : List Lot) (g : Nat) (caps : List Nat) (p : Lot → Bool) (h0 : AH) (K : AV → AH → Prop) (hn : fs.length ≤ 1000000000)
    (hp : ∀ i (hi : i < fs.length) (K' : AV → AH → Prop), K' (.one (.c (.bool (p fs[i])))) h0 → callA Tryz.prog g ([.agg (lotC fs[i])] ++ caps.map fun l => .one (.pt l 0 0 0)) h0 K')
    (hk : K (.one (.c (.int .i64 (findG p fs)))) h0) : ACalls Tryz.prog 318 [(.one (.im (fs.map lotC))), .one (.clo g caps)] h0 K := by
  refine acall_m Tryz.f318.results.toList mixed Tryz.func318 rfl rfl (by kernel_rfl) ?_
  intro hwf Q hQ
  simp only [go_sem, ca_clos]
  refine for_at (fs.length) [0, 1, 7] (fun i f h => f 8 = (.one (.c (.int .i64 (i)))) ∧ f 7 = (.one (.c (.int .i64 (fs.length)))) ∧ h = h0 ∧ noneTo p fs i) (GC.now ?_) ?_
  · simp only [go_sem, nc_0, true_and, ca_clos]
    exact noneTo_0 p fs
  · rintro i f h J hi hA ⟨e8, e7, rfl, hP⟩ hJ
    simp only [go_sem, ca_clos] at hA
    simp only [go_sem, hA, e8, e7, ca_clos]
    refine c_split (fun hb => ?_) (fun hb => ?_)
    rotate_left
    · simp only [go_sem, hb, hA, e8, e7, ca_clos]
      obtain rfl := ge_len hb hi
      refine hQ (h) _ _ ?_; refine GC.now (ret_m (by simp only [go_sem, Tryz.f318, hA, e8, e7, ca_clos]; exact _root_.id rfl) (by simp only [go_sem]) (by simp) (by first | exact hwf | exact wf_set hwf (by simp only [go_sem, hA, e8, e7, ca_clos]) | exact wf_set2 hwf (by simp only [go_sem, hA, e8, e7, ca_clos]) (by simp only [go_sem, hA, e8, e7, ca_clos]) | (simp only [go_sem]; done)) (by first | exact ⟨_, _root_.id rfl⟩ | exact ⟨[], (List.append_nil _).symm⟩) ?_) <;> simp only [go_sem, hA, e8, e7, ca_clos]
      rw [findG_no hP] at hk
      exact hk
    have hi := lt_len hb
    have hw := wrap_nat i (by omega)
    have hil : (i : Int) < ((fs.length : Nat) : Int) := Int.ofNat_lt.2 hi
    have hg0 : (fs)[i]? = some ((fs)[i]) := List.getElem?_eq_getElem (by omega)
    simp only [go_sem, hb, hA, e8, e7, ca_clos, hg0]
    try simp only [go_sem, hA, e8, e7, ca_clos, hil, hg0]
    refine hp i hi _ ?_
    simp only [go_sem, hA, e8, e7, ca_clos, hil, hg0]
    (try simp only [go_sem, hA, e8, e7, ca_clos, hil, hg0]); repeat' (first | (with_reducible first | refine c_split ?_ ?_ | refine w_split ?_ ?_) <;> intro hb <;> try simp only [go_sem, hb, hA, e8, e7, ca_clos, hil, hg0] | fail)
    · refine hQ (h) _ _ ?_; refine GC.now (ret_m (by simp only [go_sem, Tryz.f318, hA, e8, e7, ca_clos, hil, hg0]; exact _root_.id rfl) (by simp only [go_sem]) (by simp) (by first | exact hwf | exact wf_set hwf (by simp only [go_sem, hA, e8, e7, ca_clos, hil, hg0]) | exact wf_set2 hwf (by simp only [go_sem, hA, e8, e7, ca_clos, hil, hg0]) (by simp only [go_sem, hA, e8, e7, ca_clos, hil, hg0]) | (simp only [go_sem]; done)) (by first | exact ⟨_, _root_.id rfl⟩ | exact ⟨[], (List.append_nil _).symm⟩) ?_) <;> simp only [go_sem, hA, e8, e7, ca_clos, hil, hg0]
      rw [findG_of hP hi hb] at hk
      exact hk
    · refine GC.now (hJ _ _ hi (by simp only [go_sem, hA, e8, e7, ca_clos]) ⟨?_, ?_, ?_, ?_⟩) <;> try simp only [go_sem, hA, e8, e7, ca_clos, hw]
      exact noneTo_s hP hi hb
def CloBLot (g : Nat) (caps : List Nat) (h0 : AH) (p : Lot → Bool) : Prop := ∀ (h1 : AH) (x : Lot) (K' : AV → AH → Prop), (∀ c ∈ caps, h1[c]? = h0[c]?) → K' (.one (.c (.bool (p x)))) h1 → callA Tryz.prog g ([.agg (lotC x)] ++ caps.map fun l => .one (.pt l 0 0 0)) h1 K'
theorem c_IndexFuncLot_sl (xs : List Lot) (l g : Nat) (cap : Option Nat) (gf : Nat) (caps : List Nat) (p : Lot → Bool) (h0 : AH) (hl : h0[l]? = some (.own g 112 5 cap (xs.map lotC))) (hn : xs.length ≤ 1000000000) (hp : CloBLot gf caps h0 p)
    (K : AV → AH → Prop) (hk : K (.one (.c (.int .i64 (findG p xs)))) h0) : ACalls Tryz.prog 318 [.one (.sl l g 0 xs.length), .one (.clo gf caps)] h0 K := by
  refine acall_m Tryz.f318.results.toList mixed Tryz.func318 rfl rfl (by kernel_rfl) ?_
  intro hwf Q hQ
  simp only [go_sem, hl, ca_clos]
  refine for_at (xs.length) [0, 1, 7] (fun i f h => f 8 = (.one (.c (.int .i64 (i)))) ∧ f 7 = (.one (.c (.int .i64 (xs.length)))) ∧ h = h0 ∧ noneTo p xs i) (GC.now ?_) ?_
  · simp only [go_sem, nc_0, true_and, hl, ca_clos]
    exact noneTo_0 p xs
  · rintro i f h J hi hA ⟨e8, e7, rfl, hP⟩ hJ
    simp only [go_sem, hl, ca_clos] at hA
    simp only [go_sem, hA, e8, e7, hl, ca_clos]
    refine c_split (fun hb => ?_) (fun hb => ?_)
    rotate_left
    · simp only [go_sem, hb, hA, e8, e7, hl, ca_clos]
      obtain rfl := ge_len hb hi
      refine hQ (h) _ _ ?_; refine GC.now (ret_m (by simp only [go_sem, Tryz.f318, hA, e8, e7, hl, ca_clos]; exact _root_.id rfl) (by simp only [go_sem]) (by simp) (by first | exact hwf | exact wf_set hwf (by simp only [go_sem, hA, e8, e7, hl, ca_clos]) | exact wf_set2 hwf (by simp only [go_sem, hA, e8, e7, hl, ca_clos]) (by simp only [go_sem, hA, e8, e7, hl, ca_clos]) | (simp only [go_sem]; done)) (by first | exact ⟨_, _root_.id rfl⟩ | exact ⟨[], (List.append_nil _).symm⟩) ?_) <;> simp only [go_sem, hA, e8, e7, hl, ca_clos]
      rw [findG_no hP] at hk
      exact hk
    have hi := lt_len hb
    have hw := wrap_nat i (by omega)
    have hil : (i : Int) < ((xs.length : Nat) : Int) := Int.ofNat_lt.2 hi
    have hg0 : (xs)[i]? = some ((xs)[i]) := List.getElem?_eq_getElem (by omega)
    simp only [go_sem, hb, hA, e8, e7, hl, ca_clos, hg0]
    try simp only [go_sem, hA, e8, e7, hl, ca_clos, hil, hg0]
    refine hp _ _ _ (fun _ _ => rfl) ?_
    simp only [go_sem, hA, e8, e7, hl, ca_clos, hil, hg0]
    (try simp only [go_sem, hA, e8, e7, hl, ca_clos, hil, hg0]); repeat' (first | (with_reducible first | refine c_split ?_ ?_ | refine w_split ?_ ?_) <;> intro hb <;> try simp only [go_sem, hb, hA, e8, e7, hl, ca_clos, hil, hg0] | fail)
    · refine hQ (h) _ _ ?_; refine GC.now (ret_m (by simp only [go_sem, Tryz.f318, hA, e8, e7, hl, ca_clos, hil, hg0]; exact _root_.id rfl) (by simp only [go_sem]) (by simp) (by first | exact hwf | exact wf_set hwf (by simp only [go_sem, hA, e8, e7, hl, ca_clos, hil, hg0]) | exact wf_set2 hwf (by simp only [go_sem, hA, e8, e7, hl, ca_clos, hil, hg0]) (by simp only [go_sem, hA, e8, e7, hl, ca_clos, hil, hg0]) | (simp only [go_sem]; done)) (by first | exact ⟨_, _root_.id rfl⟩ | exact ⟨[], (List.append_nil _).symm⟩) ?_) <;> simp only [go_sem, hA, e8, e7, hl, ca_clos, hil, hg0]
      rw [findG_of hP hi hb] at hk
      exact hk
    · refine GC.now (hJ _ _ hi (by simp only [go_sem, hA, e8, e7, hl, ca_clos]) ⟨?_, ?_, ?_, ?_⟩) <;> try simp only [go_sem, hA, e8, e7, hl, ca_clos, hw]
      exact noneTo_s hP hi hb
theorem c_DeleteFuncLot (xs : List Lot) (l g : Nat) (cap : Option Nat) (gf : Nat) (caps : List Nat) (p : Lot → Bool) (h0 : AH) (hl : h0[l]? = some (.own g 112 5 cap (xs.map lotC))) (hn : xs.length ≤ 1000000000) (hp : CloBLot gf caps h0 p) (hcl : l ∉ caps) (hct : caps.all (fun c => decide (c < h0.length)) = true)
    (K : AV → AH → Prop) (hk : ∀ rest : List Lot, K (.one (.sl l g 0 (xs.filter fun x => !p x).length)) (h0.set l (.own g 112 5 cap ((xs.filter (fun x => !p x) ++ rest).map lotC)))) : ACalls Tryz.prog 260 [.one (.sl l g 0 xs.length), .one (.clo gf caps)] h0 K := by
  have hlt := (List.getElem?_eq_some_iff.1 hl).1
  have hall : ∀ o, (h0.set l o)[l]? = some o := set_at hl
  refine acall_m Tryz.f260.results.toList mixed Tryz.func260 rfl rfl (by kernel_rfl) ?_
  intro hwf Q hQ
  simp only [go_sem, hl]
  refine call_h (c_IndexFuncLot_sl xs l g cap gf caps p h0 hl hn hp _ ?_)
  simp only [go_sem]
  rcases findG_cases p xs with ⟨hf, hx⟩ | ⟨i0, hi0, hf, hx, hx2⟩
  · (try simp only [go_sem, hf, BEq.rfl]); repeat' (first | (with_reducible first | refine c_split ?_ ?_ | refine w_split ?_ ?_) <;> intro hb <;> try simp only [go_sem, hb, hf, BEq.rfl] | fail)
    refine hQ (h0) _ _ ?_; refine GC.now (ret_m (by simp only [go_sem, Tryz.f260, hlt]; exact _root_.id rfl) (by simp only [go_sem]) (by simp) (by first | exact hwf | exact wf_set hwf (by simp only [go_sem, hlt]) | exact wf_set2 hwf (by simp only [go_sem, hlt]) (by simp only [go_sem, hlt]) | (simp only [go_sem]; done)) (by first | exact ⟨_, _root_.id rfl⟩ | exact ⟨[], (List.append_nil _).symm⟩) ?_) <;> simp only [go_sem, hlt]
    have := hk []
    rw [hx, List.append_nil, set_same hl] at this
    exact this
  have h1 : ((i0 : Int) == -1) = false := by simp
  have hw := wrap_nat i0 (by omega)
  have hmin : (xs.take i0).length = i0 := by simp; omega
  have hsp : xs.take i0 ++ xs[i0] :: xs.drop (i0 + 1) = xs := by rw [← List.drop_eq_getElem_cons hi0, List.take_append_drop]
  (try simp only [go_sem, hf, h1, hw]); repeat' (first | (with_reducible first | refine c_split ?_ ?_ | refine w_split ?_ ?_) <;> intro hb <;> try simp only [go_sem, hb, hf, h1, hw] | fail)
  refine while_at (α := Nat × Lot × List Lot) (fun ⟨j, m, mid⟩ => xs.length - j) [0, 1] (fun ⟨j, m, mid⟩ f h => f 5 = (.one (.c (.int .i64 ((((xs.take j).filter fun x => !p x).length : Nat))))) ∧ f 6 = (.one (.c (.int .i64 (j)))) ∧ h = h0.set l (.own g 112 5 cap (((xs.take j).filter (fun x => !p x) ++ m :: (mid ++ xs.drop j)).map lotC)) ∧ j ≤ xs.length ∧ ((xs.take j).filter fun x => !p x).length + 1 + mid.length = j) (i0 + 1, xs[i0], []) (GC.now ?_) ?_
  · simp only [go_sem, nc_0, true_and, hall, hlt, hct, tr_clo, ca_clos]
    rw [hx2]; simp only [hmin, hsp, List.nil_append, set_same hl, true_and]; exact ⟨by omega, by simp⟩
  · rintro ⟨j, m, mid⟩ f h J hA ⟨e5, e6, rfl, hP⟩ hJ
    simp only [go_sem, hall, hlt, hct, tr_clo, ca_clos] at hA
    try dsimp only at hJ
    simp only [go_sem, hA, e5, e6, hall, hlt, hct, tr_clo, ca_clos]
    obtain ⟨hj, hjm⟩ := hP
    generalize hAf : (xs.take j).filter (fun x => !p x) = A at *
    refine c_split (fun hb => ?_) (fun hb => ?_)
    · have hi := lt_len hb
      obtain ⟨ar1, ar2, hAi, ar4, ar5, ar6, ar7⟩ := del_arith hjm hi hn
      have hw := wrap_nat j ar2
      have hil : (j : Int) < (xs.length : Int) := Int.ofNat_lt.2 hi
      have hgj : (A ++ m :: (mid ++ xs.drop j))[j]? = some xs[j] := by
        rw [show A ++ m :: (mid ++ xs.drop j) = (A ++ m :: mid) ++ xs.drop j by simp, List.getElem?_append_right (by simp; omega), List.drop_eq_getElem_cons hi]
        rw [show j - (A ++ m :: mid).length = 0 by simp; omega]; rfl
      have hcap : ∀ o a, ∀ c ∈ caps, (h0.set l o ++ a)[c]? = h0[c]? := fun o a c hc => by
        have h1 : c < h0.length := by simpa using List.all_eq_true.1 hct c hc
        rw [List.getElem?_append_left (by simpa using h1), List.getElem?_set_ne (by rintro rfl; exact hcl hc)]
      have htk : (xs.take (j + 1)).filter (fun x => !p x) = A ++ (if p xs[j] = true then [] else [xs[j]]) := by
        rw [List.take_succ_eq_append_getElem hi, List.filter_append, hAf]
        cases hpj : p xs[j] <;> simp [hpj]
      have hmid : mid ++ xs.drop j = (mid ++ [xs[j]]) ++ xs.drop (j + 1) := by rw [List.drop_eq_getElem_cons hi]; simp
      have hnew : ∀ (o : AO) (a : AO), (h0.set l o ++ [a])[h0.length]? = some a := fun o a => by rw [List.getElem?_append_right (by simp)]; simp
      have hset : ∀ (o : AO) (a b : AO), (h0.set l o ++ [a]).set h0.length b = h0.set l o ++ [b] := fun o a b => by rw [List.set_append_right _ _ (by simp)]; simp
      have hold : ∀ (o : AO) (a : List AO), (h0.set l o ++ a)[l]? = some o := fun o a => h_old a (hall o)
      have hset2 : ∀ (o b : AO) (a : List AO), (h0.set l o ++ a).set l b = h0.set l b ++ a := fun o b a => by rw [List.set_append_left _ _ (by simpa using hlt)]; simp
      have hgA : (A ++ m :: (mid ++ xs.drop j))[A.length]? = some m := by rw [List.getElem?_append_right (Nat.le_refl _), Nat.sub_self]; rfl
      simp only [go_sem, hb, hA, e5, e6, hall, hlt, hct, tr_clo, ca_clos, hgj]
      simp only [go_sem, hA, e5, e6, hall, hlt, hct, tr_clo, ca_clos, hil, hgj, hnew, hset]
      refine hp _ _ _ (hcap _ _) ?_
      (try simp only [go_sem, hA, e5, e6, hall, hlt, hct, tr_clo, ca_clos, hgj, hAi, hgA, set_mid, hnew, hset, hold, hset2]); repeat' (first | (with_reducible first | refine c_split ?_ ?_ | refine w_split ?_ ?_) <;> intro hb <;> try simp only [go_sem, hb, hA, e5, e6, hall, hlt, hct, tr_clo, ca_clos, hgj, hAi, hgA, set_mid, hnew, hset, hold, hset2] | fail)
      · have hpj : p xs[j] = false := by simpa using hb
        have htk2 : (xs.take (j + 1)).filter (fun x => !p x) = A ++ [xs[j]] := by rw [htk, hpj]; rfl
        obtain ⟨m', mid', e⟩ : ∃ m' mid', mid ++ [xs[j]] = m' :: mid' := by cases mid with
          | nil => exact ⟨_, _, rfl⟩
          | cons a r => exact ⟨_, _, rfl⟩
        have e2 : A ++ xs[j] :: (mid ++ xs.drop j) = (A ++ [xs[j]]) ++ m' :: (mid' ++ xs.drop (j + 1)) := by rw [hmid, e]; simp
        have hl2 : mid'.length = mid.length := by have := congrArg List.length e; simp only [List.length_append, List.length_cons, List.length_nil, Nat.zero_add] at this; exact (Nat.succ.inj this).symm
        have hwA := wrap_nat A.length ar1
        have hA1 : (A ++ [xs[j]]).length = A.length + 1 := by simp
        refine gc_trim h0.length (Nat.le_refl _) (by simp) (by rw [take_app _ _ (by simp)]; first | exact hwf | exact wf_set hwf (by simp only [go_sem, htk2, hwA, hA1, e2])) (hJ (j + 1, m', mid') _ _ (by exact ar4) (by simp only [go_sem, hA, e5, e6, hall, hlt, hct, tr_clo, ca_clos, htk2, hwA, hA1, e2]) ⟨?_, ?_, ?_, ?_⟩) <;> try simp only [go_sem, take_app, hA, e5, e6, hall, hlt, hct, tr_clo, ca_clos, hw, htk2, hwA, hA1, e2]
        exact ⟨ar5, by rw [hl2]; exact ar6⟩
      · have hpj : p xs[j] = true := by simpa using hb
        have htk2 : (xs.take (j + 1)).filter (fun x => !p x) = A := by rw [htk, hpj]; simp
        have e2 : A ++ m :: (mid ++ xs.drop j) = A ++ m :: (mid ++ [xs[j]] ++ xs.drop (j + 1)) := by rw [hmid]
        refine gc_trim h0.length (Nat.le_refl _) (by simp) (by rw [take_app _ _ (by simp)]; first | exact hwf | exact wf_set hwf (by simp only [go_sem, htk2, e2])) (hJ (j + 1, m, mid ++ [xs[j]]) _ _ (by exact ar4) (by simp only [go_sem, hA, e5, e6, hall, hlt, hct, tr_clo, ca_clos, htk2, e2]) ⟨?_, ?_, ?_, ?_⟩) <;> try simp only [go_sem, take_app, hA, e5, e6, hall, hlt, hct, tr_clo, ca_clos, hw, htk2, e2]
        exact ⟨ar5, ar7⟩
    · simp only [go_sem, hb, hA, e5, e6, hall, hlt, hct, tr_clo, ca_clos]
      obtain rfl := ge_len hb hj
      rw [List.take_length] at hAf
      subst hAf
      have hz : ((xs.filter fun x => !p x) ++ m :: (mid ++ xs.drop xs.length)).length = xs.length := by rw [List.drop_length]; simp; omega
      have hA0 : (xs.filter fun x => !p x).length < xs.length := by omega
      have hA1 : (xs.filter fun x => !p x).length ≤ xs.length := Nat.le_of_lt hA0
      have hd0 : xs.drop xs.length = [] := List.drop_length
      rw [hd0] at hz ⊢
      rw [List.append_nil] at hz ⊢
      have hle : (List.filter (fun x => !p x) xs ++ m :: mid).length = xs.length := hz
      simp only [go_sem, hall, hA0, hA1, hd0, hz]
      refine cr_sl (by decide) (hall _) (by simp only [List.length_map, hle]; omega) ?_
      rw [cset_end _ _ _ (by simp only [List.length_map, hle, List.length_replicate]; omega)]
      have htk3 : (List.map lotC (xs.filter (fun x => !p x) ++ m :: mid)).take (xs.filter fun x => !p x).length = (xs.filter fun x => !p x).map lotC := by rw [← List.map_take, List.take_left]
      have hrep := lotC_rep (xs.length - (xs.filter fun x => !p x).length) 0 0 0 0 0
      rw [htk3, hrep, ← List.map_append]
      have hl3 : (xs.filter (fun x => !p x) ++ List.replicate (xs.length - (xs.filter fun x => !p x).length) (⟨0, 0, 0, 0, 0⟩ : Lot)).length = xs.length := by simp; omega
      (try simp only [go_sem, hA, e5, e6, hall, hlt, hct, tr_clo, ca_clos, hA1, hl3, Nat.zero_add]); repeat' (first | (with_reducible first | refine c_split ?_ ?_ | refine w_split ?_ ?_) <;> intro hb <;> try simp only [go_sem, hb, hA, e5, e6, hall, hlt, hct, tr_clo, ca_clos, hA1, hl3, Nat.zero_add] | fail)
      refine hQ (h0.set l (.own g 112 5 cap ((xs.filter (fun x => !p x) ++ List.replicate (xs.length - (xs.filter fun x => !p x).length) (⟨0, 0, 0, 0, 0⟩ : Lot)).map lotC))) _ _ ?_; refine GC.now (ret_m (by simp only [go_sem, Tryz.f260, hlt]; exact _root_.id rfl) (by simp only [go_sem]) (by simp) (by first | exact hwf | exact wf_set hwf (by simp only [go_sem, hlt]) | exact wf_set2 hwf (by simp only [go_sem, hlt]) (by simp only [go_sem, hlt]) | (simp only [go_sem]; done)) (by first | exact ⟨_, _root_.id rfl⟩ | exact ⟨[], (List.append_nil _).symm⟩) ?_) <;> simp only [go_sem, hlt]
      exact hk _
def lotIs (a n : Int) (x : Lot) : Bool := x.account == a && x.instr == n
def ownL (xs : List Lot) (a n : Int) : List Lot := xs.filter (lotIs a n)
def sumQ (xs : List Lot) : Int := (xs.map (·.qty)).sum
def sumC (xs : List Lot) : Int := (xs.map (·.cost)).sum
def Fine (xs : List Lot) : Prop := (∀ x ∈ xs, (0 ≤ x.qty ∧ x.qty ≤ 1000000000000000) ∧ 0 ≤ x.cost ∧ x.cost ≤ 1000000000000000) ∧ xs.length ≤ 1000
theorem Fine.own {xs : List Lot} (h : Fine xs) (a n : Int) : Fine (ownL xs a n) := ⟨fun x hx => h.1 x (List.mem_filter.1 hx).1, Nat.le_trans (List.length_filter_le _ _) h.2⟩
theorem sums_le : ∀ (xs : List Lot), (∀ x ∈ xs, (0 ≤ x.qty ∧ x.qty ≤ 1000000000000000) ∧ 0 ≤ x.cost ∧ x.cost ≤ 1000000000000000) → (0 ≤ sumQ xs ∧ sumQ xs ≤ 1000000000000000 * (xs.length : Int)) ∧ 0 ≤ sumC xs ∧ sumC xs ≤ 1000000000000000 * (xs.length : Int)
  | [], _ => by simp [sumQ, sumC]
  | x :: r, h => by
    have ih := sums_le r (fun y hy => h y (List.mem_cons_of_mem _ hy))
    have hx := h x (List.mem_cons_self ..)
    have e1 : sumQ (x :: r) = x.qty + sumQ r := by simp [sumQ]
    have e2 : sumC (x :: r) = x.cost + sumC r := by simp [sumC]
    rw [e1, e2, List.length_cons]
    omega
theorem sumQ_s (xs : List Lot) (i : Nat) (hi : i < xs.length) : sumQ (xs.take (i + 1)) = sumQ (xs.take i) + xs[i].qty ∧ sumC (xs.take (i + 1)) = sumC (xs.take i) + xs[i].cost := by
  constructor
  · rw [List.take_succ_eq_append_getElem hi, sumQ, sumQ, List.map_append, List.sum_append]; simp
  · rw [List.take_succ_eq_append_getElem hi, sumC, sumC, List.map_append, List.sum_append]; simp
theorem sums_w {xs : List Lot} (h : Fine xs) {i : Nat} (hi : i < xs.length) : wrap64 (sumQ (xs.take i) + xs[i].qty) = sumQ (xs.take i) + xs[i].qty ∧ wrap64 (sumC (xs.take i) + xs[i].cost) = sumC (xs.take i) + xs[i].cost := by
  have h1 := sums_le (xs.take i) (fun x hx => h.1 x (List.mem_of_mem_take hx))
  have h2 := h.1 _ (List.getElem_mem hi)
  have h3 := h.2
  rw [List.length_take] at h1
  exact ⟨wrap_id _ (by omega) (by omega), wrap_id _ (by omega) (by omega)⟩
theorem c_isLot (x : Lot) (a n : Int) (K : AV → AH → Prop) (hk : K (.one (.c (.bool (lotIs a n x)))) []) : ACalls Tryz.prog 262 [.agg (lotC x), (.one (.c (.int .i64 (a)))), (.one (.c (.int .i64 (n))))] [] K := by
  refine acall_c Tryz.f262.results.toList mixed Tryz.func262 rfl rfl (by kernel_rfl) ?_
  intro Q hQ hQO
  simp only [go_sem]
  (try simp only [go_sem]); repeat' (first | (with_reducible first | refine c_split ?_ ?_ | refine w_split ?_ ?_) <;> intro hb <;> try simp only [go_sem, hb] | with_reducible refine hQ _ _ ?_ <;> simp only [Tryz.f262, go_sem])
  · exact kB hk (by rw [lotIs, hb, Bool.true_and])
  · exact kB hk (by rw [lotIs, hb, Bool.false_and])
theorem c_lotsOf1 (x : Lot) (a n : Int) (h0 : AH) (c1 c2 : Nat) (hc1 : h0[c1]? = some (.own 0 3 1 (some 1) [[.c (.int .i64 (a))]])) (hc2 : h0[c2]? = some (.own 0 3 1 (some 1) [[.c (.int .i64 (n))]])) (K : AV → AH → Prop) (hk : K (.one (.c (.bool (!lotIs a n x)))) h0) : ACalls Tryz.prog 261 [.agg (lotC x), .one (.pt c1 0 0 0), .one (.pt c2 0 0 0)] h0 K := by
  refine acall_m Tryz.f261.results.toList mixed Tryz.func261 rfl rfl (by kernel_rfl) ?_
  intro hwf Q hQ
  simp only [go_sem, fun a => h_old a hc1, fun a => h_old a hc2]
  (try simp only [go_sem, fun a => h_old a hc1, fun a => h_old a hc2]); repeat' (first | (with_reducible first | refine c_split ?_ ?_ | refine w_split ?_ ?_) <;> intro hb <;> try simp only [go_sem, hb, fun a => h_old a hc1, fun a => h_old a hc2] | refine call_c (c_isLot x a n _ ?_) <;> try simp only [go_sem, fun a => h_old a hc1, fun a => h_old a hc2] | fail)
  refine hQ (h0) _ _ ?_; refine GC.now (ret_m (by simp only [go_sem, Tryz.f261]; exact _root_.id rfl) (by simp only [go_sem]) (by simp) (by first | exact hwf | exact wf_set hwf (by simp only [go_sem]) | exact wf_set2 hwf (by simp only [go_sem]) (by simp only [go_sem]) | (simp only [go_sem]; done)) (by first | exact ⟨_, _root_.id rfl⟩ | exact ⟨[], (List.append_nil _).symm⟩) ?_) <;> simp only [go_sem]
  exact hk
theorem c_lotsOf (xs : List Lot) (a n : Int) (hn : xs.length ≤ 1000000000) (K : AV → AH → Prop) (hk : K (.one (.im ((ownL xs a n).map lotC))) []) : ACalls Tryz.prog 171 [(.one (.im (xs.map lotC))), (.one (.c (.int .i64 (a)))), (.one (.c (.int .i64 (n))))] [] K := by
  refine acall_im ?_
  refine acall_c Tryz.f171.results.toList mixed Tryz.func171 rfl rfl (by kernel_rfl) ?_
  intro Q hQ hQO
  simp only [go_sem]
  (try simp only [go_sem]); repeat' (first | (with_reducible first | refine c_split ?_ ?_ | refine w_split ?_ ?_) <;> intro hb <;> try simp only [go_sem, hb] | refine call_c (c_CloneLot xs hn _ (fun cap => ?_)) <;> try simp only [go_sem] | fail)
  refine call_h (c_DeleteFuncLot xs 2 0 cap _ _ (fun x => !lotIs a n x) _ rfl hn ?_ (by decide) rfl _ (fun rest => ?_))
  · intro h1 x K' hcap hk'
    refine .inr (.inl ⟨rfl, c_lotsOf1 x a n h1 0 1 ?_ ?_ _ hk'⟩)
    · exact (hcap 0 (by simp)).trans rfl
    · exact (hcap 1 (by simp)).trans rfl
  · have hff : (xs.filter fun x => !!lotIs a n x) = ownL xs a n := by unfold ownL; congr 1; funext x; simp
    simp only [hff]
    simp only [go_sem]
    (try simp only [go_sem]); repeat' (first | (with_reducible first | refine c_split ?_ ?_ | refine w_split ?_ ?_) <;> intro hb <;> try simp only [go_sem, hb] | fail)
    have htk : (List.map lotC (ownL xs a n ++ rest)).take (ownL xs a n).length = (ownL xs a n).map lotC := by rw [← List.map_take, List.take_left]
    refine hQO [2] _ _ (GC.step (Ghost.cut (l := 2) rfl (ownL xs a n).length) (GC.now ?_)) <;> simp only [Tryz.f171, go_sem, List.nodup_cons, List.nodup_nil, List.mem_cons, List.not_mem_nil, or_false, not_false_eq_true, List.idxOf?_cons, List.idxOf?_nil, Option.map_none, htk]
    exact hk
theorem c_sumLots (xs : List Lot) (h : Fine xs) (K : AV → AH → Prop) (hk : K (.tup [(.one (.c (.int .i64 (sumQ xs)))), (.one (.c (.int .i64 (sumC xs))))]) []) : ACalls Tryz.prog 172 [(.one (.im (xs.map lotC)))] [] K := by
  have hn : xs.length ≤ 1000000000 := by have := h.2; omega
  refine acall_c Tryz.f172.results.toList mixed Tryz.func172 rfl rfl (by kernel_rfl) ?_
  intro Q hQ hQO
  simp only [go_sem]
  refine for_at (xs.length) [8, 9] (fun i f h => f 4 = (.one (.c (.int .i64 (sumQ (xs.take i))))) ∧ f 5 = (.one (.c (.int .i64 (sumC (xs.take i))))) ∧ f 10 = (.one (.c (.int .i64 (i)))) ∧ h = []) (GC.now ?_) ?_
  · simp only [go_sem, nc_0, true_and]
    exact ⟨rfl, rfl⟩
  · rintro i f h J hi hA ⟨e4, e5, e10, rfl⟩ hJ
    simp only [go_sem] at hA
    simp only [go_sem, hA, e4, e5, e10]
    refine c_split (fun hb => ?_) (fun hb => ?_)
    rotate_left
    · simp only [go_sem, hb, hA, e4, e5, e10]
      obtain rfl := ge_len hb hi
      (try simp only [go_sem, hA, e4, e5, e10, List.take_length]); repeat' (first | (with_reducible first | refine c_split ?_ ?_ | refine w_split ?_ ?_) <;> intro hb <;> try simp only [go_sem, hb, hA, e4, e5, e10, List.take_length] | with_reducible refine hQ _ _ ?_ <;> simp only [Tryz.f172, go_sem, hA, e4, e5, e10, List.take_length])
      exact hk
    have hi := lt_len hb
    have hw := wrap_nat i (by omega)
    have hil : (i : Int) < ((xs.length : Nat) : Int) := Int.ofNat_lt.2 hi
    have hg0 : (xs)[i]? = some ((xs)[i]) := List.getElem?_eq_getElem (by omega)
    simp only [go_sem, hb, hA, e4, e5, e10, hg0]
    try simp only [go_sem, hA, e4, e5, e10, hil, hg0]
    obtain ⟨s1, s2⟩ := sumQ_s xs i hi
    obtain ⟨w1, w2⟩ := sums_w h hi
    (try simp only [go_sem, hA, e4, e5, e10, hil, hg0, w1, w2]); repeat' (first | (with_reducible first | refine c_split ?_ ?_ | refine w_split ?_ ?_) <;> intro hb <;> try simp only [go_sem, hb, hA, e4, e5, e10, hil, hg0, w1, w2] | fail)
    refine gc_trim 0 (by decide) (by simp only [go_sem]) (by simp only [go_sem]) (hJ _ _ hi (by simp only [go_sem, hA, e4, e5, e10]) ⟨?_, ?_, ?_, ?_⟩) <;> try simp only [go_sem, hA, e4, e5, e10, hw, s1, s2]
def badLot (xs : List Lot) (x : Lot) : Bool := !amtOk (sumQ (ownL xs x.account x.instr)) || !amtOk (sumC (ownL xs x.account x.instr))
theorem c_LotsOk1 (x : Lot) (xs : List Lot) (hf : Fine xs) (h0 : AH) (c : Nat) (hc : h0[c]? = some (.own 0 30 1 (some 1) [[.im (xs.map lotC)]])) (K : AV → AH → Prop) (hk : K (.one (.c (.bool (badLot xs x)))) h0) : ACalls Tryz.prog 253 [.agg (lotC x), .one (.pt c 0 0 0)] h0 K := by
  have hn : xs.length ≤ 1000000000 := by have := hf.2; omega
  refine acall_m Tryz.f253.results.toList mixed Tryz.func253 rfl rfl (by kernel_rfl) ?_
  intro hwf Q hQ
  simp only [go_sem, fun a => h_old a hc]
  (try simp only [go_sem, fun a => h_old a hc]); repeat' (first | (with_reducible first | refine c_split ?_ ?_ | refine w_split ?_ ?_) <;> intro hb <;> try simp only [go_sem, hb, fun a => h_old a hc] | (first | refine call_c (c_lotsOf xs x.account x.instr hn _ ?_) | refine call_c (c_sumLots (ownL xs x.account x.instr) (hf.own _ _) _ ?_) | refine call_c (c_impl_AmountOk _ _ ?_) | fail) <;> try simp only [go_sem, fun a => h_old a hc] | fail)
  · refine hQ (h0) _ _ ?_; refine GC.now (ret_m (by simp only [go_sem, Tryz.f253]; exact _root_.id rfl) (by simp only [go_sem]) (by simp) (by first | exact hwf | exact wf_set hwf (by simp only [go_sem]) | exact wf_set2 hwf (by simp only [go_sem]) (by simp only [go_sem]) | (simp only [go_sem]; done)) (by first | exact ⟨_, _root_.id rfl⟩ | exact ⟨[], (List.append_nil _).symm⟩) ?_) <;> simp only [go_sem]
    exact kB hk (by rw [badLot, hb]; rfl)
  · refine hQ (h0) _ _ ?_; refine GC.now (ret_m (by simp only [go_sem, Tryz.f253]; exact _root_.id rfl) (by simp only [go_sem]) (by simp) (by first | exact hwf | exact wf_set hwf (by simp only [go_sem]) | exact wf_set2 hwf (by simp only [go_sem]) (by simp only [go_sem]) | (simp only [go_sem]; done)) (by first | exact ⟨_, _root_.id rfl⟩ | exact ⟨[], (List.append_nil _).symm⟩) ?_) <;> simp only [go_sem]
    exact kB hk (by rw [badLot, hb]; rfl)
theorem c_ContainsLot (xs : List Lot) (g : Nat) (c : Nat) (p : Lot → Bool) (h0 : AH) (K : AV → AH → Prop) (hn : xs.length ≤ 1000000000)
    (hp : ∀ i (hi : i < xs.length) (K' : AV → AH → Prop), K' (.one (.c (.bool (p xs[i])))) h0 → callA Tryz.prog g ([.agg (lotC xs[i])] ++ [c].map fun l => .one (.pt l 0 0 0)) h0 K')
    (hk : K (.one (.c (.bool (decide (0 ≤ findG p xs))))) h0) : ACalls Tryz.prog 252 [(.one (.im (xs.map lotC))), .one (.clo g [c])] h0 K := by
  refine acall_m Tryz.f252.results.toList mixed Tryz.func252 rfl rfl (by kernel_rfl) ?_
  intro hwf Q hQ
  simp only [go_sem, ca_clos]
  refine .inr (.inl ⟨rfl, c_IndexFuncLot xs g [c] p _ _ hn hp ?_⟩)
  simp only [go_sem]
  (try simp only [go_sem]); repeat' (first | (with_reducible first | refine c_split ?_ ?_ | refine w_split ?_ ?_) <;> intro hb <;> try simp only [go_sem, hb] | fail)
  refine hQ (h0) _ _ ?_; refine GC.now (ret_m (by simp only [go_sem, Tryz.f252]; exact _root_.id rfl) (by simp only [go_sem]) (by simp) (by first | exact hwf | exact wf_set hwf (by simp only [go_sem]) | exact wf_set2 hwf (by simp only [go_sem]) (by simp only [go_sem]) | (simp only [go_sem]; done)) (by first | exact ⟨_, _root_.id rfl⟩ | exact ⟨[], (List.append_nil _).symm⟩) ?_) <;> simp only [go_sem]
  exact hk
def lotP (x : Lot) : Bool := noOk x.account && noOk x.instr && decide (1 ≤ x.no ∧ x.no ≤ 1000000000) && decide (1 ≤ x.qty ∧ x.qty ≤ 1000000000000000) && decide (0 ≤ x.cost ∧ x.cost ≤ 1000000000000000)
def lotLt (y x : Lot) : Bool := pairLt y.account y.instr x.account x.instr || (decide (y.account = x.account) && decide (y.instr = x.instr) && decide (y.no < x.no))
def lotCmp (y x : Lot) : Int := if byBoth y.account y.instr x.account x.instr = 0 then (if y.no < x.no then -1 else if x.no < y.no then 1 else 0) else byBoth y.account y.instr x.account x.instr
theorem lotLt_iff {y x : Lot} : lotLt y x = true ↔ (y.account < x.account ∨ y.account = x.account ∧ y.instr < x.instr) ∨ (y.account = x.account ∧ y.instr = x.instr) ∧ y.no < x.no := by
  simp [lotLt, pairLt]
theorem lotCmp_lt {y x : Lot} : lotLt y x = decide (lotCmp y x < 0) := by
  have h1 := byBoth_lt (a := y.account) (b := y.instr) (c := x.account) (d := x.instr)
  by_cases hl : lotLt y x = true
  · rw [hl]
    refine (decide_eq_true ?_).symm
    have := lotLt_iff.1 hl
    unfold lotCmp
    split
    · rename_i h0
      have := h1.2.1 h0
      split
      · decide
      · omega
    · rename_i h0
      exact h1.1.2 (pairLt_iff.2 (by have := fun q => h0 (h1.2.2 q); omega))
  · rw [show lotLt y x = false by simpa using hl]
    refine (decide_eq_false fun q => hl (lotLt_iff.2 ?_)).symm
    unfold lotCmp at q
    split at q
    · rename_i h0
      have := h1.2.1 h0
      split at q
      · omega
      · split at q <;> omega
    · have := pairLt_iff.1 (h1.1.1 q); omega
theorem c_lotForm (x : Lot) (K : AV → AH → Prop) (hk : K (.one (.c (.bool (lotP x)))) []) : ACalls Tryz.prog 250 [.agg (lotC x)] [] K := by
  refine acall_c Tryz.f250.results.toList mixed Tryz.func250 rfl rfl (by kernel_rfl) ?_
  intro Q hQ hQO
  simp only [go_sem]
  (try simp only [go_sem]); repeat' (first | (with_reducible first | refine c_split ?_ ?_ | refine w_split ?_ ?_) <;> intro hb <;> try simp only [go_sem, hb] | (first | refine call_c (c_isNo _ _ ?_) | refine call_c (c_in _ _ _ _ ?_) | fail) <;> try simp only [go_sem] | with_reducible refine hQ _ _ ?_ <;> simp only [Tryz.f250, go_sem])
  all_goals (refine kB hk ?_; simp only [lotP]; simp_all <;> (intros; omega))
theorem c_l5Right (x : Lot) (K : AV → AH → Prop) (hk : K (.one (.c (.bool (lotP x)))) []) : ACalls Tryz.prog 240 [.agg (lotC x)] [] K := by
  refine acall_c Tryz.f240.results.toList mixed Tryz.func240 rfl rfl (by kernel_rfl) ?_
  intro Q hQ hQO
  simp only [go_sem]
  (try simp only [go_sem]); repeat' (first | (with_reducible first | refine c_split ?_ ?_ | refine w_split ?_ ?_) <;> intro hb <;> try simp only [go_sem, hb] | (first | refine call_c (c_l3No _ _ ?_) | refine call_c (c_l1In _ _ _ _ ?_) | refine call_c (c_l1Some _ _ _ ?_) | fail) <;> try simp only [go_sem] | with_reducible refine hQ _ _ ?_ <;> simp only [Tryz.f240, go_sem])
  all_goals (refine kB hk ?_; simp only [lotP]; simp_all <;> (intros; omega))
theorem c_lotBefore (y x : Lot) (K : AV → AH → Prop) (hk : K (.one (.c (.int .i64 (lotCmp y x)))) []) : ACalls Tryz.prog 251 [.agg (lotC y), .agg (lotC x)] [] K := by
  refine acall_c Tryz.f251.results.toList mixed Tryz.func251 rfl rfl (by kernel_rfl) ?_
  intro Q hQ hQO
  simp only [go_sem]
  (try simp only [go_sem]); repeat' (first | (with_reducible first | refine c_split ?_ ?_ | refine w_split ?_ ?_) <;> intro hb <;> try simp only [go_sem, hb] | refine call_c (c_byBoth _ _ _ _ _ ?_) <;> try simp only [go_sem] | with_reducible refine hQ _ _ ?_ <;> simp only [Tryz.f251, go_sem])
  all_goals refine (congrArg (fun q => K (.one (.c (.int .i64 q))) []) ?_).mp hk
  all_goals (unfold lotCmp; simp_all; try omega)
theorem c_l5Before (y x : Lot) (K : AV → AH → Prop) (hk : K (.one (.c (.bool (lotLt y x)))) []) : ACalls Tryz.prog 241 [.agg (lotC y), .agg (lotC x)] [] K := by
  refine acall_c Tryz.f241.results.toList mixed Tryz.func241 rfl rfl (by kernel_rfl) ?_
  intro Q hQ hQO
  simp only [go_sem]
  (try simp only [go_sem]); repeat' (first | (with_reducible first | refine c_split ?_ ?_ | refine w_split ?_ ?_) <;> intro hb <;> try simp only [go_sem, hb] | refine call_c (c_l4Before _ _ _ _ _ ?_) <;> try simp only [go_sem] | with_reducible refine hQ _ _ ?_ <;> simp only [Tryz.f241, go_sem])
  all_goals (refine kB hk ?_; simp only [lotLt]; simp_all)
end Go.Proofs.YtkndmncgohmjmaaGreat
end
section
namespace Go.Proofs.YtkndmncgohmjmaaGreat
open Go.BL Go.RowKit
set_option linter.unusedVariables false
set_option linter.unusedSimpArgs false
set_option maxRecDepth 100000
theorem d363_0_LSort1 : DrawL Tryz.prog 0 18 (.on [(0, true, true), (1, false, true), (2, false, true), (3, false, true), (4, true, true), (5, true, true), (6, true, true), (7, true, true), (8, true, true), (9, true, false), (10, false, false), (11, false, false), (12, false, false), (13, false, false), (14, false, true), (15, false, true), (16, false, true)] .nil) := draw_L
theorem d363_1_LSort1 : DrawL Tryz.prog 0 37 (.on [(0, true, true), (1, true, true), (2, true, true), (3, true, true), (4, true, true), (5, true, true), (6, true, true), (7, true, true), (8, true, true), (9, true, true), (10, true, false), (11, false, false), (12, false, false), (13, false, false), (14, false, true), (15, false, true), (16, false, true), (17, false, true)] .nil) := draw_L
attribute [local go_sem] lotC
open Go.Sort
instance : Inhabited Lot := ⟨⟨0, 0, 0, 0, 0⟩⟩
def arrO (g : Nat) (cap : Option Nat) (d : Array Lot) : AO := .own g 112 5 cap (d.toList.map lotC)
theorem arr_get (d : Array Lot) {i : Nat} (h : i < d.size) : d.toList[i]? = some d[i]! := by
  rw [Array.getElem?_toList, Array.getElem?_eq_getElem h, getElem!_pos d i h]
theorem arr_swp (d : Array Lot) (i j : Nat) : ((d.toList.set i ⟨d[j]!.account, d[j]!.instr, d[j]!.no, d[j]!.qty, d[j]!.cost⟩).set j ⟨d[i]!.account, d[i]!.instr, d[i]!.no, d[i]!.qty, d[i]!.cost⟩) = (swp d i j).toList := by
  unfold swp
  rw [Array.toList_setIfInBounds, Array.toList_setIfInBounds]
theorem arr_len (d : Array Lot) : d.toList.length = d.size := rfl
theorem insInner_stop {lt : Lot → Lot → Bool} {a j : Nat} (h : j ≤ a) (y : Array Lot) : insInner lt a j y = y := by
  cases j with
  | zero => rfl
  | succ k => rw [insInner, if_neg (by simp; omega)]
theorem insInner_go {lt : Lot → Lot → Bool} {a k : Nat} (h : a < k + 1) (y : Array Lot) : insInner lt a (k + 1) y = if lt y[k + 1]! y[k]! = true then insInner lt a k (swp y (k + 1) k) else y := by
  rw [insInner]
  simp [h]
theorem insOuter_end {lt : Lot → Lot → Bool} {a b i : Nat} (h : ¬ i < b) (x : Array Lot) : insOuter lt a b i x = x := by rw [insOuter, if_neg h]
theorem insOuter_go {lt : Lot → Lot → Bool} {a b i : Nat} (h : i < b) (x : Array Lot) : insOuter lt a b i x = insOuter lt a b (i + 1) (insInner lt a i x) := by rw [insOuter, if_pos h]
theorem st_w {k n : Nat} (h : k + 1 < n) (h2 : n ≤ 1000) : wrap64 (((k + 1 : Nat) : Int) - 1) = (k : Int) := by unfold wrap64; omega
theorem st_n {k n : Nat} (h : k < n) (h2 : n ≤ 1000) : k < 9223372036854775807 := by omega
set_option maxHeartbeats 8000000 in
theorem h_insertionSort (d : Array Lot) (g : Nat) (cap : Option Nat) (a b : Nat) (hab : a ≤ b) (hb : b ≤ d.size) (hn : d.size ≤ 1000) (K : AV → AH → Prop) (hk : K (.tup []) [arrO g cap (insertionSort lotLt d a b)]) : ACalls Tryz.prog 363 [.one (.sl 0 g 0 d.size), (.one (.c (.int .i64 ((a : Int))))), (.one (.c (.int .i64 ((b : Int))))), .one (.clo 251 [])] [arrO g cap d] K := by
  have hwa := wrap_nat a (by omega)
  refine acall_h Tryz.f363.results.toList mixed Tryz.func363 rfl rfl (by kernel_rfl) ?_
  intro Q hQ hQN
  simp only [go_sem, arrO]
  (try simp only [go_sem, hwa]); repeat' (first | (with_reducible first | refine c_split ?_ ?_ | refine w_split ?_ ?_ | refine tw_split ?_ ?_) <;> intro hb <;> try simp only [go_sem, hb, hwa] | (first | with_reducible refine d363_0_LSort1 (by with_unfolding_all rfl) (by kernel_rfl) ?_ | with_reducible refine d363_1_LSort1 (by with_unfolding_all rfl) (by kernel_rfl) ?_ | fail) <;> try simp only [go_sem, hwa] | fail)
  refine while_at (α := Nat × Array Lot) (fun ⟨i, x⟩ => b - i) [0, 1, 2, 3] (fun ⟨i, x⟩ f h => f 8 = (.one (.c (.int .i64 ((i : Int))))) ∧ h = [.own g 112 5 cap (x.toList.map lotC)] ∧ a < i ∧ x.size = d.size ∧ insOuter lotLt a b (a + 1) d = insOuter lotLt a b i x) (a + 1, d) (GC.now ?_) ?_
  · simp only [go_sem, nc_0, true_and]
    exact Nat.lt_succ_self a
  · rintro ⟨i, x⟩ f h J hA ⟨e8, rfl, hP⟩ hJ
    simp only [go_sem] at hA
    try dsimp only at hJ
    simp only [go_sem, hA, e8]
    obtain ⟨hai, hxs, hm⟩ := hP
    by_cases hi : i < b
    · have hd : decide ((i : Int) < (b : Int)) = true := decide_eq_true (Int.ofNat_lt.2 hi)
      have hin : i < d.size := Nat.lt_of_lt_of_le hi hb
      have hw := wrap_nat i (st_n hin hn)
      have hdec : b - (i + 1) < b - i := Nat.sub_lt_sub_left hi (Nat.lt_succ_self i)
      rw [insOuter_go hi] at hm
      (try simp only [go_sem, hA, e8, hd]); repeat' (first | (with_reducible first | refine c_split ?_ ?_ | refine w_split ?_ ?_ | refine tw_split ?_ ?_) <;> intro hb <;> try simp only [go_sem, hb, hA, e8, hd] | (first | with_reducible refine d363_0_LSort1 (by with_unfolding_all rfl) (by kernel_rfl) ?_ | with_reducible refine d363_1_LSort1 (by with_unfolding_all rfl) (by kernel_rfl) ?_ | fail) <;> try simp only [go_sem, hA, e8, hd] | fail)
      have hA1 := hA
      have hJ1 := hJ
      have e1 := e8
      clear hJ
      refine while_at (α := Nat × Array Lot) (fun ⟨j, y⟩ => j) [0, 1, 2, 3, 8] (fun ⟨j, y⟩ f h => f 9 = (.one (.c (.int .i64 ((j : Int))))) ∧ h = [.own g 112 5 cap (y.toList.map lotC)] ∧ j ≤ i ∧ y.size = d.size ∧ insInner lotLt a i x = insInner lotLt a j y) (i, x) (GC.now ?_) ?_
      · simp only [go_sem, nc_0, true_and, hA1, e1]
        exact hxs
      · rintro ⟨j, y⟩ f h J hA ⟨e9, rfl, hP⟩ hJ
        simp only [go_sem, hA1, e1] at hA
        try dsimp only at hJ
        simp only [go_sem, hA, e9, hA1, e1]
        obtain ⟨hji, hys, hm2⟩ := hP
        by_cases hja : j ≤ a
        · have hd2 : decide ((a : Int) < (j : Int)) = false := decide_eq_false (fun q => Nat.not_lt.2 hja (Int.ofNat_lt.1 q))
          rw [insInner_stop hja] at hm2
          rw [hm2] at hm
          (try simp only [go_sem, hA, e9, hA1, e1, hd2]); repeat' (first | (with_reducible first | refine c_split ?_ ?_ | refine w_split ?_ ?_ | refine tw_split ?_ ?_) <;> intro hb <;> try simp only [go_sem, hb, hA, e9, hA1, e1, hd2] | (first | with_reducible refine d363_0_LSort1 (by with_unfolding_all rfl) (by kernel_rfl) ?_ | with_reducible refine d363_1_LSort1 (by with_unfolding_all rfl) (by kernel_rfl) ?_ | fail) <;> try simp only [go_sem, hA, e9, hA1, e1, hd2] | fail)
          refine GC.now (hJ1 (i + 1, y) _ _ hdec (by simp only [go_sem, hA, e9, hA1, e1]) ⟨?_, ?_, ?_⟩) <;> try simp only [go_sem, hA, e9, hA1, e1, hw]
          exact ⟨Nat.lt_succ_of_lt hai, hys, hm⟩
        · obtain ⟨k, rfl⟩ : ∃ k, j = k + 1 := ⟨j - 1, by omega⟩
          have hak : a < k + 1 := Nat.lt_of_not_le hja
          have hd2 : decide ((a : Int) < ((k + 1 : Nat) : Int)) = true := decide_eq_true (Int.ofNat_lt.2 hak)
          have hk1 : k + 1 < y.size := by rw [hys]; exact Nat.lt_of_le_of_lt hji hin
          have hk0 : k < y.size := Nat.lt_of_succ_lt hk1
          have hg1 := arr_get y hk1
          have hg0 := arr_get y hk0
          have hl1 : ((k + 1 : Nat) : Int) < (d.size : Int) := Int.ofNat_lt.2 (hys ▸ hk1)
          have hl0 : (k : Int) < (d.size : Int) := Int.ofNat_lt.2 (hys ▸ hk0)
          have hwk := st_w (hys ▸ hk1) hn
          rw [insInner_go hak] at hm2
          cases hc : lotLt y[k + 1]! y[k]! with
          | false =>
            rw [if_neg (by rw [hc]; decide)] at hm2
            rw [hm2] at hm
            have hcd : decide (lotCmp y[k + 1]! y[k]! < 0) = false := by rw [← lotCmp_lt]; exact hc
            (try simp only [go_sem, hA, e9, hA1, e1, hd2, hg1, hg0, hl1, hl0, hwk, hcd]); repeat' (first | (with_reducible first | refine c_split ?_ ?_ | refine w_split ?_ ?_ | refine tw_split ?_ ?_) <;> intro hb <;> try simp only [go_sem, hb, hA, e9, hA1, e1, hd2, hg1, hg0, hl1, hl0, hwk, hcd] | (first | with_reducible refine d363_0_LSort1 (by with_unfolding_all rfl) (by kernel_rfl) ?_ | with_reducible refine d363_1_LSort1 (by with_unfolding_all rfl) (by kernel_rfl) ?_ | refine call_c (c_lotBefore _ _ _ ?_) | fail) <;> try simp only [go_sem, hA, e9, hA1, e1, hd2, hg1, hg0, hl1, hl0, hwk, hcd] | fail)
            refine GC.now (hJ1 (i + 1, y) _ _ hdec (by simp only [go_sem, hA, e9, hA1, e1]) ⟨?_, ?_, ?_⟩) <;> try simp only [go_sem, hA, e9, hA1, e1, hw]
            exact ⟨Nat.lt_succ_of_lt hai, hys, hm⟩
          | true =>
            rw [if_pos hc] at hm2
            have hcd : decide (lotCmp y[k + 1]! y[k]! < 0) = true := by rw [← lotCmp_lt]; exact hc
            have hsw := arr_swp y (k + 1) k
            have hgs : ∀ z, (y.toList.set (k + 1) z)[k]? = some y[k]! := fun z => by rw [List.getElem?_set_ne (Nat.succ_ne_self k)]; exact hg0
            (try simp only [go_sem, hA, e9, hA1, e1, hd2, hg1, hg0, hl1, hl0, hwk, hcd, hgs, hsw]); repeat' (first | (with_reducible first | refine c_split ?_ ?_ | refine w_split ?_ ?_ | refine tw_split ?_ ?_) <;> intro hb <;> try simp only [go_sem, hb, hA, e9, hA1, e1, hd2, hg1, hg0, hl1, hl0, hwk, hcd, hgs, hsw] | (first | with_reducible refine d363_0_LSort1 (by with_unfolding_all rfl) (by kernel_rfl) ?_ | with_reducible refine d363_1_LSort1 (by with_unfolding_all rfl) (by kernel_rfl) ?_ | refine call_c (c_lotBefore _ _ _ ?_) | fail) <;> try simp only [go_sem, hA, e9, hA1, e1, hd2, hg1, hg0, hl1, hl0, hwk, hcd, hgs, hsw] | fail)
            refine GC.now (hJ (k, swp y (k + 1) k) _ _ (by exact Nat.lt_succ_self k) (by simp only [go_sem, hA, e9, hA1, e1]) ⟨?_, ?_, ?_⟩) <;> try simp only [go_sem, hA, e9, hA1, e1, hsw]
            exact ⟨Nat.le_of_succ_le hji, by rw [swp_size]; exact hys, hm2⟩
    · have hd : decide ((i : Int) < (b : Int)) = false := decide_eq_false (fun q => hi (Int.ofNat_lt.1 q))
      rw [insOuter_end hi] at hm
      rw [insertionSort, hm] at hk
      (try simp only [go_sem, hA, e8, hd]); repeat' (first | (with_reducible first | refine c_split ?_ ?_ | refine w_split ?_ ?_ | refine tw_split ?_ ?_) <;> intro hb <;> try simp only [go_sem, hb, hA, e8, hd] | (first | with_reducible refine d363_0_LSort1 (by with_unfolding_all rfl) (by kernel_rfl) ?_ | with_reducible refine d363_1_LSort1 (by with_unfolding_all rfl) (by kernel_rfl) ?_ | fail) <;> try simp only [go_sem, hA, e8, hd] | fail)
      refine hQN [] _ _ (GC.now ?_) <;> simp only [Tryz.f363, go_sem, List.nodup_cons, List.nodup_nil, List.mem_cons, List.not_mem_nil, or_false, not_false_eq_true, List.idxOf?_cons, List.idxOf?_nil, Option.map_none, forall_eq]
      exact hk
end Go.Proofs.YtkndmncgohmjmaaGreat
end
section
namespace Go.Proofs.YtkndmncgohmjmaaGreat
open Go.BL Go.RowKit
set_option linter.unusedVariables false
set_option linter.unusedSimpArgs false
set_option maxRecDepth 100000
theorem d398_0_LSort2 : DrawL Tryz.prog 0 19 (.on [(0, true, true), (1, true, true), (2, false, true), (3, false, true), (4, false, true), (5, true, true), (6, true, true), (7, true, true), (8, true, true), (9, true, true), (10, true, true), (11, true, true), (12, true, false), (13, true, false), (14, false, false), (15, false, false), (16, false, false), (17, false, false), (18, false, false), (19, false, true), (20, false, true), (21, false, true)] .nil) := draw_L
theorem d398_1_LSort2 : DrawL Tryz.prog 0 43 (.on [(0, true, true), (1, true, true), (2, true, true), (3, true, true), (4, true, true), (5, true, true), (6, true, true), (7, true, false), (8, true, false), (9, false, false), (10, false, false), (11, false, false), (12, false, false), (13, false, true), (14, false, true), (15, false, true)] .nil) := draw_L
theorem d398_2_LSort2 : DrawL Tryz.prog 0 59 (.on [(0, true, true), (1, true, true), (2, true, true), (3, true, true), (4, true, true), (5, true, true), (6, true, true), (7, true, true), (8, true, true), (9, true, true), (10, true, true), (11, true, true), (12, true, true), (13, true, true), (14, true, false), (15, true, false), (16, false, false), (17, false, false), (18, false, false), (19, false, false), (20, false, true), (21, false, true), (22, false, true), (23, false, true)] .nil) := draw_L
attribute [local go_sem] lotC
open Go.Sort
def chld (lt : Lot → Lot → Bool) (hi first root : Nat) (d : Array Lot) : Nat := if (decide (2 * root + 1 + 1 < hi) && lt d[first + (2 * root + 1)]! d[first + (2 * root + 1 + 1)]!) = true then 2 * root + 1 + 1 else 2 * root + 1
theorem sd_end {lt : Lot → Lot → Bool} {hi first root : Nat} {d : Array Lot} (h : 2 * root + 1 ≥ hi) : siftDown lt hi first root d = d := by rw [siftDown, dif_pos h]
theorem sd_go {lt : Lot → Lot → Bool} {hi first root : Nat} {d : Array Lot} (h : ¬ 2 * root + 1 ≥ hi) : siftDown lt hi first root d = if lt d[first + root]! d[first + chld lt hi first root d]! = true then siftDown lt hi first (chld lt hi first root d) (swp d (first + root) (first + chld lt hi first root d)) else d := by
  rw [siftDown, dif_neg h, chld]
  have e : first + (2 * root + 1) + 1 = first + (2 * root + 1 + 1) := by omega
  rw [e]
  by_cases h1 : (decide (2 * root + 1 + 1 < hi) && lt d[first + (2 * root + 1)]! d[first + (2 * root + 1 + 1)]!) = true
  · rw [if_pos h1, if_pos h1]
    have h2 : 2 * root + 2 < hi := by simp only [Bool.and_eq_true, decide_eq_true_eq] at h1; exact h1.1
    rw [dif_pos h2]
    cases lt d[first + root]! d[first + (2 * root + 2)]! <;> simp
  · rw [if_neg h1, if_neg h1]
    cases lt d[first + root]! d[first + (2 * root + 1)]! <;> simp
theorem chld_lt {lt : Lot → Lot → Bool} {hi first root : Nat} {d : Array Lot} (h : ¬ 2 * root + 1 ≥ hi) : root < chld lt hi first root d ∧ chld lt hi first root d < hi := by
  unfold chld
  split
  · rename_i h1; simp only [Bool.and_eq_true, decide_eq_true_eq] at h1; omega
  · omega
theorem sd_w {root hi first n : Nat} (h : 2 * root + 1 < hi) (h2 : first + hi ≤ n) (h3 : n ≤ 1000) : wrap64 (2 * (root : Int)) = ((2 * root : Nat) : Int) ∧ wrap64 (((2 * root : Nat) : Int) + 1) = ((2 * root + 1 : Nat) : Int) ∧ wrap64 (((2 * root + 1 : Nat) : Int) + 1) = ((2 * root + 1 + 1 : Nat) : Int) ∧ wrap64 ((first : Int) + (root : Int)) = ((first + root : Nat) : Int) := ⟨by unfold wrap64; omega, by unfold wrap64; omega, by unfold wrap64; omega, by unfold wrap64; omega⟩
theorem sd_f {c first hi n : Nat} (h : c < hi) (h2 : first + hi ≤ n) (h3 : n ≤ 1000) : wrap64 ((first : Int) + (c : Int)) = ((first + c : Nat) : Int) ∧ first + c < n ∧ wrap64 (((first + c : Nat) : Int) + 1) = ((first + (c + 1) : Nat) : Int) := ⟨by unfold wrap64; omega, by omega, by unfold wrap64; omega⟩
theorem sd_wl {root n hi : Nat} (h : root ≤ hi) (h3 : hi ≤ 1000) : wrap64 (2 * (root : Int)) = ((2 * root : Nat) : Int) ∧ wrap64 (((2 * root : Nat) : Int) + 1) = ((2 * root + 1 : Nat) : Int) := ⟨by unfold wrap64; omega, by unfold wrap64; omega⟩
theorem get_set_ne (d : Array Lot) {i j : Nat} (hj : j < d.size) (hne : j ≠ i) (z : Lot) : (d.toList.set i z)[j]? = some d[j]! := by rw [List.getElem?_set_ne (Ne.symm hne)]; exact arr_get d hj
theorem sd_ne {root c first : Nat} (h : root < c) : first + c ≠ first + root := by omega
set_option maxHeartbeats 8000000 in
theorem h_siftDown (d : Array Lot) (g : Nat) (cap : Option Nat) (lo hi first : Nat) (hlo : lo ≤ hi) (hb : first + hi ≤ d.size) (hn : d.size ≤ 1000) (K : AV → AH → Prop) (hk : K (.tup []) [arrO g cap (siftDown lotLt hi first lo d)]) : ACalls Tryz.prog 398 [.one (.sl 0 g 0 d.size), (.one (.c (.int .i64 ((lo : Int))))), (.one (.c (.int .i64 ((hi : Int))))), (.one (.c (.int .i64 ((first : Int))))), .one (.clo 251 [])] [arrO g cap d] K := by
  refine acall_h Tryz.f398.results.toList mixed Tryz.func398 rfl rfl (by kernel_rfl) ?_
  intro Q hQ hQN
  simp only [go_sem, arrO]
  (try simp only [go_sem]); repeat' (first | (with_reducible first | refine c_split ?_ ?_ | refine w_split ?_ ?_ | refine tw_split ?_ ?_) <;> intro hb <;> try simp only [go_sem, hb] | (first | with_reducible refine d398_0_LSort2 (by with_unfolding_all rfl) (by kernel_rfl) ?_ | with_reducible refine d398_1_LSort2 (by with_unfolding_all rfl) (by kernel_rfl) ?_ | with_reducible refine d398_2_LSort2 (by with_unfolding_all rfl) (by kernel_rfl) ?_ | fail) <;> try simp only [go_sem] | fail)
  refine while_at (α := Nat × Array Lot) (fun ⟨root, y⟩ => hi - root) [0, 2, 3, 4] (fun ⟨root, y⟩ f h => f 10 = (.one (.c (.int .i64 ((root : Int))))) ∧ h = [.own g 112 5 cap (y.toList.map lotC)] ∧ root ≤ hi ∧ y.size = d.size ∧ siftDown lotLt hi first lo d = siftDown lotLt hi first root y) (lo, d) (GC.now ?_) ?_
  · simp only [go_sem, nc_0, true_and]
    exact hlo
  · rintro ⟨root, y⟩ f h J hA ⟨e10, rfl, hP⟩ hJ
    simp only [go_sem] at hA
    try dsimp only at hJ
    simp only [go_sem, hA, e10]
    obtain ⟨hrh, hys, hm⟩ := hP
    have hhi : hi ≤ 1000 := Nat.le_trans (Nat.le_trans (Nat.le_add_left _ _) hb) hn
    obtain ⟨w1, w2⟩ := sd_wl (n := 0) hrh hhi
    by_cases hc : 2 * root + 1 ≥ hi
    · have hd : decide ((hi : Int) ≤ ((2 * root + 1 : Nat) : Int)) = true := decide_eq_true (Int.ofNat_le.2 hc)
      rw [sd_end hc] at hm
      rw [hm] at hk
      (try simp only [go_sem, hA, e10, w1, w2, hd]); repeat' (first | (with_reducible first | refine c_split ?_ ?_ | refine w_split ?_ ?_ | refine tw_split ?_ ?_) <;> intro hb <;> try simp only [go_sem, hb, hA, e10, w1, w2, hd] | (first | with_reducible refine d398_0_LSort2 (by with_unfolding_all rfl) (by kernel_rfl) ?_ | with_reducible refine d398_1_LSort2 (by with_unfolding_all rfl) (by kernel_rfl) ?_ | with_reducible refine d398_2_LSort2 (by with_unfolding_all rfl) (by kernel_rfl) ?_ | fail) <;> try simp only [go_sem, hA, e10, w1, w2, hd] | fail)
      refine hQN [] _ _ (GC.now ?_) <;> simp only [Tryz.f398, go_sem, List.nodup_cons, List.nodup_nil, List.mem_cons, List.not_mem_nil, or_false, not_false_eq_true, List.idxOf?_cons, List.idxOf?_nil, Option.map_none, forall_eq]
      exact hk
    · have hd : decide ((hi : Int) ≤ ((2 * root + 1 : Nat) : Int)) = false := decide_eq_false (fun q => hc (Int.ofNat_le.1 q))
      have hlt : 2 * root + 1 < hi := Nat.lt_of_not_le hc
      obtain ⟨-, -, w3, w4⟩ := sd_w hlt hb hn
      obtain ⟨hch1, hch2⟩ := chld_lt (lt := lotLt) (first := first) (d := y) hc
      rw [sd_go hc] at hm
      have hrhi : root < hi := Nat.lt_trans hch1 hch2
      obtain ⟨-, r1, -⟩ := sd_f hrhi hb hn
      obtain ⟨v1, v2, v3⟩ := sd_f hlt hb hn
      have gr := arr_get y (hys ▸ r1)
      have lr : ((first + root : Nat) : Int) < (d.size : Int) := Int.ofNat_lt.2 r1
      have g1 := arr_get y (hys ▸ v2)
      have l1 : ((first + (2 * root + 1) : Nat) : Int) < (d.size : Int) := Int.ofNat_lt.2 v2
      by_cases hc2 : 2 * root + 1 + 1 < hi
      · have hd2 : decide (((2 * root + 1 + 1 : Nat) : Int) < (hi : Int)) = true := decide_eq_true (Int.ofNat_lt.2 hc2)
        obtain ⟨-, x2, -⟩ := sd_f hc2 hb hn
        have g2 := arr_get y (hys ▸ x2)
        have l2 : ((first + (2 * root + 1 + 1) : Nat) : Int) < (d.size : Int) := Int.ofNat_lt.2 x2
        cases k1 : lotLt y[first + (2 * root + 1)]! y[first + (2 * root + 1 + 1)]! with
        | true =>
          have kc : decide (lotCmp y[first + (2 * root + 1)]! y[first + (2 * root + 1 + 1)]! < 0) = true := by rw [← lotCmp_lt]; exact k1
          have hce : chld lotLt hi first root y = 2 * root + 1 + 1 := by rw [chld, if_pos (by rw [k1, decide_eq_true hc2]; rfl)]
          rw [hce] at hm hch1 hch2
          obtain ⟨u1, u2, -⟩ := sd_f hch2 hb hn
          have gc := arr_get y (hys ▸ u2)
          have lc : ((first + (2 * root + 1 + 1) : Nat) : Int) < (d.size : Int) := Int.ofNat_lt.2 u2
          cases k2 : lotLt y[first + root]! y[first + (2 * root + 1 + 1)]! with
          | false =>
            rw [if_neg (by rw [k2]; decide)] at hm
            rw [hm] at hk
            have kd : decide (lotCmp y[first + root]! y[first + (2 * root + 1 + 1)]! < 0) = false := by rw [← lotCmp_lt]; exact k2
            (try simp only [go_sem, hA, e10, w1, w2, w3, w4, v1, v3, hd, gr, lr, g1, l1, hd2, g2, l2, kc, u1, gc, lc, kd]); repeat' (first | (with_reducible first | refine c_split ?_ ?_ | refine w_split ?_ ?_ | refine tw_split ?_ ?_) <;> intro hb <;> try simp only [go_sem, hb, hA, e10, w1, w2, w3, w4, v1, v3, hd, gr, lr, g1, l1, hd2, g2, l2, kc, u1, gc, lc, kd] | (first | with_reducible refine d398_0_LSort2 (by with_unfolding_all rfl) (by kernel_rfl) ?_ | with_reducible refine d398_1_LSort2 (by with_unfolding_all rfl) (by kernel_rfl) ?_ | with_reducible refine d398_2_LSort2 (by with_unfolding_all rfl) (by kernel_rfl) ?_ | refine call_c (c_lotBefore _ _ _ ?_) | fail) <;> try simp only [go_sem, hA, e10, w1, w2, w3, w4, v1, v3, hd, gr, lr, g1, l1, hd2, g2, l2, kc, u1, gc, lc, kd] | fail)
            refine hQ [] _ _ (GC.now ?_) <;> simp only [Tryz.f398, go_sem, List.nodup_cons, List.nodup_nil, List.mem_cons, List.not_mem_nil, or_false, not_false_eq_true, List.idxOf?_cons, List.idxOf?_nil, Option.map_none, forall_eq]
            exact hk
          | true =>
            rw [if_pos k2] at hm
            have kd : decide (lotCmp y[first + root]! y[first + (2 * root + 1 + 1)]! < 0) = true := by rw [← lotCmp_lt]; exact k2
            have hsw := arr_swp y (first + root) (first + (2 * root + 1 + 1))
            have hgs := fun z => get_set_ne y (i := first + root) (j := first + (2 * root + 1 + 1)) (hys ▸ u2) (sd_ne hch1) z
            (try simp only [go_sem, hA, e10, w1, w2, w3, w4, v1, v3, hd, gr, lr, g1, l1, hd2, g2, l2, kc, u1, gc, lc, kd, hgs, hsw]); repeat' (first | (with_reducible first | refine c_split ?_ ?_ | refine w_split ?_ ?_ | refine tw_split ?_ ?_) <;> intro hb <;> try simp only [go_sem, hb, hA, e10, w1, w2, w3, w4, v1, v3, hd, gr, lr, g1, l1, hd2, g2, l2, kc, u1, gc, lc, kd, hgs, hsw] | (first | with_reducible refine d398_0_LSort2 (by with_unfolding_all rfl) (by kernel_rfl) ?_ | with_reducible refine d398_1_LSort2 (by with_unfolding_all rfl) (by kernel_rfl) ?_ | with_reducible refine d398_2_LSort2 (by with_unfolding_all rfl) (by kernel_rfl) ?_ | refine call_c (c_lotBefore _ _ _ ?_) | fail) <;> try simp only [go_sem, hA, e10, w1, w2, w3, w4, v1, v3, hd, gr, lr, g1, l1, hd2, g2, l2, kc, u1, gc, lc, kd, hgs, hsw] | fail)
            refine GC.now (hJ (2 * root + 1 + 1, swp y (first + root) (first + (2 * root + 1 + 1))) _ _ (by exact Nat.sub_lt_sub_left (Nat.lt_trans hch1 hch2) hch1) (by simp only [go_sem, hA, e10]) ⟨?_, ?_, ?_⟩) <;> try simp only [go_sem, hA, e10, hsw]
            exact ⟨Nat.le_of_lt hch2, by rw [swp_size]; exact hys, hm⟩
        | false =>
          have kc : decide (lotCmp y[first + (2 * root + 1)]! y[first + (2 * root + 1 + 1)]! < 0) = false := by rw [← lotCmp_lt]; exact k1
          have hce : chld lotLt hi first root y = 2 * root + 1 := by rw [chld, if_neg (by rw [k1]; simp)]
          rw [hce] at hm hch1 hch2
          obtain ⟨u1, u2, -⟩ := sd_f hch2 hb hn
          have gc := arr_get y (hys ▸ u2)
          have lc : ((first + (2 * root + 1) : Nat) : Int) < (d.size : Int) := Int.ofNat_lt.2 u2
          cases k2 : lotLt y[first + root]! y[first + (2 * root + 1)]! with
          | false =>
            rw [if_neg (by rw [k2]; decide)] at hm
            rw [hm] at hk
            have kd : decide (lotCmp y[first + root]! y[first + (2 * root + 1)]! < 0) = false := by rw [← lotCmp_lt]; exact k2
            (try simp only [go_sem, hA, e10, w1, w2, w3, w4, v1, v3, hd, gr, lr, g1, l1, hd2, g2, l2, kc, u1, gc, lc, kd]); repeat' (first | (with_reducible first | refine c_split ?_ ?_ | refine w_split ?_ ?_ | refine tw_split ?_ ?_) <;> intro hb <;> try simp only [go_sem, hb, hA, e10, w1, w2, w3, w4, v1, v3, hd, gr, lr, g1, l1, hd2, g2, l2, kc, u1, gc, lc, kd] | (first | with_reducible refine d398_0_LSort2 (by with_unfolding_all rfl) (by kernel_rfl) ?_ | with_reducible refine d398_1_LSort2 (by with_unfolding_all rfl) (by kernel_rfl) ?_ | with_reducible refine d398_2_LSort2 (by with_unfolding_all rfl) (by kernel_rfl) ?_ | refine call_c (c_lotBefore _ _ _ ?_) | fail) <;> try simp only [go_sem, hA, e10, w1, w2, w3, w4, v1, v3, hd, gr, lr, g1, l1, hd2, g2, l2, kc, u1, gc, lc, kd] | fail)
            refine hQ [] _ _ (GC.now ?_) <;> simp only [Tryz.f398, go_sem, List.nodup_cons, List.nodup_nil, List.mem_cons, List.not_mem_nil, or_false, not_false_eq_true, List.idxOf?_cons, List.idxOf?_nil, Option.map_none, forall_eq]
            exact hk
          | true =>
            rw [if_pos k2] at hm
            have kd : decide (lotCmp y[first + root]! y[first + (2 * root + 1)]! < 0) = true := by rw [← lotCmp_lt]; exact k2
            have hsw := arr_swp y (first + root) (first + (2 * root + 1))
            have hgs := fun z => get_set_ne y (i := first + root) (j := first + (2 * root + 1)) (hys ▸ u2) (sd_ne hch1) z
            (try simp only [go_sem, hA, e10, w1, w2, w3, w4, v1, v3, hd, gr, lr, g1, l1, hd2, g2, l2, kc, u1, gc, lc, kd, hgs, hsw]); repeat' (first | (with_reducible first | refine c_split ?_ ?_ | refine w_split ?_ ?_ | refine tw_split ?_ ?_) <;> intro hb <;> try simp only [go_sem, hb, hA, e10, w1, w2, w3, w4, v1, v3, hd, gr, lr, g1, l1, hd2, g2, l2, kc, u1, gc, lc, kd, hgs, hsw] | (first | with_reducible refine d398_0_LSort2 (by with_unfolding_all rfl) (by kernel_rfl) ?_ | with_reducible refine d398_1_LSort2 (by with_unfolding_all rfl) (by kernel_rfl) ?_ | with_reducible refine d398_2_LSort2 (by with_unfolding_all rfl) (by kernel_rfl) ?_ | refine call_c (c_lotBefore _ _ _ ?_) | fail) <;> try simp only [go_sem, hA, e10, w1, w2, w3, w4, v1, v3, hd, gr, lr, g1, l1, hd2, g2, l2, kc, u1, gc, lc, kd, hgs, hsw] | fail)
            refine GC.now (hJ (2 * root + 1, swp y (first + root) (first + (2 * root + 1))) _ _ (by exact Nat.sub_lt_sub_left (Nat.lt_trans hch1 hch2) hch1) (by simp only [go_sem, hA, e10]) ⟨?_, ?_, ?_⟩) <;> try simp only [go_sem, hA, e10, hsw]
            exact ⟨Nat.le_of_lt hch2, by rw [swp_size]; exact hys, hm⟩
      · have hd2 : decide (((2 * root + 1 + 1 : Nat) : Int) < (hi : Int)) = false := decide_eq_false (fun q => hc2 (Int.ofNat_lt.1 q))
        have hce : chld lotLt hi first root y = 2 * root + 1 := by rw [chld, if_neg (by rw [decide_eq_false hc2]; simp)]
        rw [hce] at hm hch1 hch2
        obtain ⟨u1, u2, -⟩ := sd_f hch2 hb hn
        have gc := arr_get y (hys ▸ u2)
        have lc : ((first + (2 * root + 1) : Nat) : Int) < (d.size : Int) := Int.ofNat_lt.2 u2
        cases k2 : lotLt y[first + root]! y[first + (2 * root + 1)]! with
        | false =>
          rw [if_neg (by rw [k2]; decide)] at hm
          rw [hm] at hk
          have kd : decide (lotCmp y[first + root]! y[first + (2 * root + 1)]! < 0) = false := by rw [← lotCmp_lt]; exact k2
          (try simp only [go_sem, hA, e10, w1, w2, w3, w4, v1, v3, hd, gr, lr, g1, l1, hd2, u1, gc, lc, kd]); repeat' (first | (with_reducible first | refine c_split ?_ ?_ | refine w_split ?_ ?_ | refine tw_split ?_ ?_) <;> intro hb <;> try simp only [go_sem, hb, hA, e10, w1, w2, w3, w4, v1, v3, hd, gr, lr, g1, l1, hd2, u1, gc, lc, kd] | (first | with_reducible refine d398_0_LSort2 (by with_unfolding_all rfl) (by kernel_rfl) ?_ | with_reducible refine d398_1_LSort2 (by with_unfolding_all rfl) (by kernel_rfl) ?_ | with_reducible refine d398_2_LSort2 (by with_unfolding_all rfl) (by kernel_rfl) ?_ | refine call_c (c_lotBefore _ _ _ ?_) | fail) <;> try simp only [go_sem, hA, e10, w1, w2, w3, w4, v1, v3, hd, gr, lr, g1, l1, hd2, u1, gc, lc, kd] | fail)
          refine hQ [] _ _ (GC.now ?_) <;> simp only [Tryz.f398, go_sem, List.nodup_cons, List.nodup_nil, List.mem_cons, List.not_mem_nil, or_false, not_false_eq_true, List.idxOf?_cons, List.idxOf?_nil, Option.map_none, forall_eq]
          exact hk
        | true =>
          rw [if_pos k2] at hm
          have kd : decide (lotCmp y[first + root]! y[first + (2 * root + 1)]! < 0) = true := by rw [← lotCmp_lt]; exact k2
          have hsw := arr_swp y (first + root) (first + (2 * root + 1))
          have hgs := fun z => get_set_ne y (i := first + root) (j := first + (2 * root + 1)) (hys ▸ u2) (sd_ne hch1) z
          (try simp only [go_sem, hA, e10, w1, w2, w3, w4, v1, v3, hd, gr, lr, g1, l1, hd2, u1, gc, lc, kd, hgs, hsw]); repeat' (first | (with_reducible first | refine c_split ?_ ?_ | refine w_split ?_ ?_ | refine tw_split ?_ ?_) <;> intro hb <;> try simp only [go_sem, hb, hA, e10, w1, w2, w3, w4, v1, v3, hd, gr, lr, g1, l1, hd2, u1, gc, lc, kd, hgs, hsw] | (first | with_reducible refine d398_0_LSort2 (by with_unfolding_all rfl) (by kernel_rfl) ?_ | with_reducible refine d398_1_LSort2 (by with_unfolding_all rfl) (by kernel_rfl) ?_ | with_reducible refine d398_2_LSort2 (by with_unfolding_all rfl) (by kernel_rfl) ?_ | refine call_c (c_lotBefore _ _ _ ?_) | fail) <;> try simp only [go_sem, hA, e10, w1, w2, w3, w4, v1, v3, hd, gr, lr, g1, l1, hd2, u1, gc, lc, kd, hgs, hsw] | fail)
          refine GC.now (hJ (2 * root + 1, swp y (first + root) (first + (2 * root + 1))) _ _ (by exact Nat.sub_lt_sub_left (Nat.lt_trans hch1 hch2) hch1) (by simp only [go_sem, hA, e10]) ⟨?_, ?_, ?_⟩) <;> try simp only [go_sem, hA, e10, hsw]
          exact ⟨Nat.le_of_lt hch2, by rw [swp_size]; exact hys, hm⟩
end Go.Proofs.YtkndmncgohmjmaaGreat
end
section
namespace Go.Proofs.YtkndmncgohmjmaaGreat
open Go.BL Go.RowKit
set_option linter.unusedVariables false
set_option linter.unusedSimpArgs false
set_option maxRecDepth 100000
theorem d364_0_LSort3 : DrawL Tryz.prog 0 36 (.on [(0, true, true), (1, true, true), (2, true, true), (3, true, true), (4, true, true), (5, true, true), (6, true, true), (7, true, true), (8, true, true), (9, true, true), (10, true, true), (11, true, true), (12, true, false), (13, false, false), (14, false, false), (15, false, false), (16, false, true), (17, false, true), (18, false, true), (19, false, true)] .nil) := draw_L
attribute [local go_sem] lotC
open Go.Sort
theorem siftDown_size {lt : Lot → Lot → Bool} {hi first : Nat} : ∀ (n root : Nat) (d : Array Lot), hi - root ≤ n → (siftDown lt hi first root d).size = d.size
  | 0, root, d, h => by rw [sd_end (by omega)]
  | n + 1, root, d, h => by
    by_cases hc : 2 * root + 1 ≥ hi
    · rw [sd_end hc]
    · have hl := chld_lt (lt := lt) (first := first) (d := d) hc
      rw [sd_go hc]
      split
      · rw [siftDown_size n _ _ (by omega), swp_size]
      · rfl
theorem hs_i {hi : Nat} : Int.tdiv (((hi : Nat) : Int) - 1) 2 = (((hi - 1) / 2 + 1 : Nat) : Int) - 1 := by
  rcases hi with _ | n
  · rfl
  · have : (((n + 1 : Nat) : Int) - 1) = (n : Int) := by omega
    rw [this]
    have h2 : (n + 1 - 1) = n := rfl
    have e : Int.tdiv (n : Int) 2 = ((n / 2 : Nat) : Int) := (Int.ofNat_tdiv n 2).symm
    rw [h2, e]
    omega
theorem hs_w {n m : Nat} (h : m ≤ n) (hn : n ≤ 1000) : wrap64 ((n : Int) - (m : Int)) = ((n - m : Nat) : Int) := by unfold wrap64; omega
theorem hs_w1 {n : Nat} (hn : n ≤ 1000) : wrap64 ((n : Int) - 1) = (n : Int) - 1 := by unfold wrap64; omega
theorem hs_wp {n : Nat} (hn : n ≤ 1000) : wrap64 ((((n : Nat) : Int) - 1).tdiv 2) = (((n - 1) / 2 + 1 : Nat) : Int) - 1 := by rw [hs_i]; unfold wrap64; omega
theorem hs_m (m : Nat) : ((m + 1 : Nat) : Int) - 1 = (m : Int) := by omega
theorem hs_le {m n : Nat} (h : m < (n - 1) / 2 + 1) : m ≤ n := by omega
theorem s_siftDown (y : Array Lot) (n : Nat) (e : y.size = n) (g : Nat) (cap : Option Nat) (lo hi first : Nat) (hlo : lo ≤ hi) (hb : first + hi ≤ n) (hn : n ≤ 1000) (K : AV → AH → Prop) (hk : K (.tup []) [arrO g cap (siftDown lotLt hi first lo y)]) : ACalls Tryz.prog 398 [.one (.sl 0 g 0 n), (.one (.c (.int .i64 ((lo : Int))))), (.one (.c (.int .i64 ((hi : Int))))), (.one (.c (.int .i64 ((first : Int))))), .one (.clo 251 [])] [arrO g cap y] K := by
  subst e
  exact h_siftDown y g cap lo hi first hlo hb hn K hk
theorem s_insertionSort (y : Array Lot) (n : Nat) (e : y.size = n) (g : Nat) (cap : Option Nat) (a b : Nat) (hab : a ≤ b) (hb : b ≤ n) (hn : n ≤ 1000) (K : AV → AH → Prop) (hk : K (.tup []) [arrO g cap (insertionSort lotLt y a b)]) : ACalls Tryz.prog 363 [.one (.sl 0 g 0 n), (.one (.c (.int .i64 ((a : Int))))), (.one (.c (.int .i64 ((b : Int))))), .one (.clo 251 [])] [arrO g cap y] K := by
  subst e
  exact h_insertionSort y g cap a b hab hb hn K hk
theorem get_set_add (z : Array Lot) {a m : Nat} (h : a + m < z.size) (x : Lot) : (z.toList.set a x)[a + m]? = some (if m = 0 then x else z[a + m]!) := by
  by_cases hm : m = 0
  · subst hm
    rw [if_pos rfl]
    exact List.getElem?_set_self (by rw [arr_len]; omega)
  · rw [if_neg hm]
    exact get_set_ne z h (by omega) x
set_option maxHeartbeats 8000000 in
theorem h_heapSort (d : Array Lot) (g : Nat) (cap : Option Nat) (a b : Nat) (hab : a ≤ b) (hb : b ≤ d.size) (hn : d.size ≤ 1000) (K : AV → AH → Prop) (hk : K (.tup []) [arrO g cap (heapSort lotLt d a b)]) : ACalls Tryz.prog 364 [.one (.sl 0 g 0 d.size), (.one (.c (.int .i64 ((a : Int))))), (.one (.c (.int .i64 ((b : Int))))), .one (.clo 251 [])] [arrO g cap d] K := by
  have hb1 : b ≤ 1000 := Nat.le_trans hb hn
  have w1 := hs_w hab hb1
  have hba : b - a ≤ 1000 := Nat.le_trans (Nat.sub_le _ _) hb1
  have w2 := hs_w1 hba
  have w3 := hs_wp hba
  have hfs : a + (b - a) ≤ d.size := by rw [Nat.add_sub_cancel' hab]; exact hb
  have hsz : ∀ root x, (siftDown lotLt (b - a) a root x).size = x.size := fun root x => siftDown_size _ root x (Nat.le_refl _)
  have htwo : (2 : Int) ≠ 0 := by decide
  rw [heapSort] at hk
  generalize b - a = hh at *
  refine acall_h Tryz.f364.results.toList mixed Tryz.func364 rfl rfl (by kernel_rfl) ?_
  intro Q hQ hQN
  simp only [go_sem, arrO]
  (try simp only [go_sem, w1, w2, w3, htwo]); repeat' (first | (with_reducible first | refine c_split ?_ ?_ | refine w_split ?_ ?_ | refine tw_split ?_ ?_) <;> intro hb <;> try simp only [go_sem, hb, w1, w2, w3, htwo] | with_reducible refine d364_0_LSort3 (by with_unfolding_all rfl) (by kernel_rfl) ?_ <;> try simp only [go_sem, w1, w2, w3, htwo] | fail)
  refine while_at (α := Nat × Array Lot) (fun ⟨k, y⟩ => k) [0, 3, 8, 9, 10] (fun ⟨k, y⟩ f h => f 11 = (.one (.c (.int .i64 ((k : Int) - 1)))) ∧ h = [.own g 112 5 cap (y.toList.map lotC)] ∧ k ≤ (hh - 1) / 2 + 1 ∧ y.size = d.size ∧ heapBuild lotLt hh a ((hh - 1) / 2 + 1) d = heapBuild lotLt hh a k y) ((hh - 1) / 2 + 1, d) (GC.now ?_) ?_
  · simp only [go_sem, nc_0, true_and, w1, w2, w3]
  · rintro ⟨k, y⟩ f h J hA ⟨e11, rfl, hP⟩ hJ
    simp only [go_sem, w1, w2, w3] at hA
    try dsimp only at hJ
    simp only [go_sem, hA, e11, w1, w2, w3]
    obtain ⟨hkk, hys, hm⟩ := hP
    rcases k with _ | m
    · have hd : decide ((0 : Int) ≤ ((0 : Nat) : Int) - 1) = false := by decide
      rw [heapBuild] at hm
      rw [hm] at hk
      (try simp only [go_sem, hA, e11, w1, w2, w3, hd, w2]); repeat' (first | (with_reducible first | refine c_split ?_ ?_ | refine w_split ?_ ?_ | refine tw_split ?_ ?_) <;> intro hb <;> try simp only [go_sem, hb, hA, e11, w1, w2, w3, hd, w2] | with_reducible refine d364_0_LSort3 (by with_unfolding_all rfl) (by kernel_rfl) ?_ <;> try simp only [go_sem, hA, e11, w1, w2, w3, hd, w2] | fail)
      have hA1 := hA
      clear hJ
      refine while_at (α := Nat × Array Lot) (fun ⟨k, z⟩ => k) [0, 3, 8, 9] (fun ⟨k, z⟩ f h => f 12 = (.one (.c (.int .i64 ((k : Int) - 1)))) ∧ h = [.own g 112 5 cap (z.toList.map lotC)] ∧ k ≤ hh ∧ z.size = d.size ∧ heapPop lotLt a hh y = heapPop lotLt a k z) (hh, y) (GC.now ?_) ?_
      · simp only [go_sem, nc_0, true_and, hA1, w1, w2, w3]
        exact hys
      · rintro ⟨k, z⟩ f h J hA ⟨e12, rfl, hP⟩ hJ
        simp only [go_sem, hA1, w1, w2, w3] at hA
        try dsimp only at hJ
        simp only [go_sem, hA, e12, hA1, w1, w2, w3]
        obtain ⟨hkk2, hzs, hm2⟩ := hP
        rcases k with _ | m
        · have hd2 : decide ((0 : Int) ≤ ((0 : Nat) : Int) - 1) = false := by decide
          rw [heapPop] at hm2
          rw [hm2] at hk
          (try simp only [go_sem, hA, e12, hA1, w1, w2, w3, hd2]); repeat' (first | (with_reducible first | refine c_split ?_ ?_ | refine w_split ?_ ?_ | refine tw_split ?_ ?_) <;> intro hb <;> try simp only [go_sem, hb, hA, e12, hA1, w1, w2, w3, hd2] | with_reducible refine d364_0_LSort3 (by with_unfolding_all rfl) (by kernel_rfl) ?_ <;> try simp only [go_sem, hA, e12, hA1, w1, w2, w3, hd2] | fail)
          refine hQN [] _ _ (GC.now ?_) <;> simp only [Tryz.f364, go_sem, List.nodup_cons, List.nodup_nil, List.mem_cons, List.not_mem_nil, or_false, not_false_eq_true, List.idxOf?_cons, List.idxOf?_nil, Option.map_none, forall_eq]
          exact hk
        · have hmm := hs_m m
          have hd2 : decide ((0 : Int) ≤ (m : Int)) = true := decide_eq_true (Int.natCast_nonneg m)
          have hmh : m < hh := hkk2
          obtain ⟨u1, u2, -⟩ := sd_f hmh hfs hn
          have ha0 : a < d.size := Nat.lt_of_le_of_lt (Nat.le_add_right _ _) u2
          have ga := arr_get z (hzs ▸ ha0)
          have gm := arr_get z (hzs ▸ u2)
          have la : (a : Int) < (d.size : Int) := Int.ofNat_lt.2 ha0
          have lm : ((a + m : Nat) : Int) < (d.size : Int) := Int.ofNat_lt.2 u2
          have hsw := arr_swp z a (a + m)
          have hss : (swp z a (a + m)).size = d.size := by rw [swp_size]; exact hzs
          have hwm := hs_w1 (n := m) (Nat.le_trans (Nat.le_of_lt hmh) hba)
          rw [heapPop] at hm2
          have hs2 : (siftDown lotLt m a 0 (swp z a (a + m))).size = d.size := by rw [siftDown_size _ _ _ (Nat.le_refl _)]; exact hss
          have hfm : a + m ≤ d.size := Nat.le_of_lt u2
          have hgs := get_set_add z (a := a) (m := m) (hzs ▸ u2)
          (try simp only [go_sem, hA, e12, hA1, w1, w2, w3, hmm, hd2, u1, ga, gm, la, lm, hgs, hsw]); repeat' (first | (with_reducible first | refine c_split ?_ ?_ | refine w_split ?_ ?_ | refine tw_split ?_ ?_) <;> intro hb <;> try simp only [go_sem, hb, hA, e12, hA1, w1, w2, w3, hmm, hd2, u1, ga, gm, la, lm, hgs, hsw] | with_reducible refine d364_0_LSort3 (by with_unfolding_all rfl) (by kernel_rfl) ?_ <;> try simp only [go_sem, hA, e12, hA1, w1, w2, w3, hmm, hd2, u1, ga, gm, la, lm, hgs, hsw] | fail)
          refine call_h (s_siftDown (swp z a (a + m)) d.size hss g cap 0 m a (Nat.zero_le _) hfm hn _ ?_)
          simp only [arrO]
          (try simp only [go_sem, hA, e12, hA1, w1, w2, w3, hmm, hwm]); repeat' (first | (with_reducible first | refine c_split ?_ ?_ | refine w_split ?_ ?_ | refine tw_split ?_ ?_) <;> intro hb <;> try simp only [go_sem, hb, hA, e12, hA1, w1, w2, w3, hmm, hwm] | with_reducible refine d364_0_LSort3 (by with_unfolding_all rfl) (by kernel_rfl) ?_ <;> try simp only [go_sem, hA, e12, hA1, w1, w2, w3, hmm, hwm] | fail)
          refine GC.now (hJ (m, siftDown lotLt m a 0 (swp z a (a + m))) _ _ (by exact Nat.lt_succ_self m) (by simp only [go_sem, hA, e12, hA1, w1, w2, w3]) ⟨?_, ?_, ?_⟩) <;> try simp only [go_sem, hA, e12, hA1, w1, w2, w3, hmm, hwm]
          exact ⟨Nat.le_of_succ_le hkk2, hs2, hm2⟩
    · have hmm := hs_m m
      have hd : decide ((0 : Int) ≤ (m : Int)) = true := decide_eq_true (Int.natCast_nonneg m)
      have hmh : m ≤ hh := hs_le hkk
      have hwm := hs_w1 (n := m) (Nat.le_trans hmh hba)
      have hss : (siftDown lotLt hh a m y).size = d.size := by rw [hsz]; exact hys
      rw [heapBuild] at hm
      (try simp only [go_sem, hA, e11, w1, w2, w3, hmm, hd]); repeat' (first | (with_reducible first | refine c_split ?_ ?_ | refine w_split ?_ ?_ | refine tw_split ?_ ?_) <;> intro hb <;> try simp only [go_sem, hb, hA, e11, w1, w2, w3, hmm, hd] | with_reducible refine d364_0_LSort3 (by with_unfolding_all rfl) (by kernel_rfl) ?_ <;> try simp only [go_sem, hA, e11, w1, w2, w3, hmm, hd] | fail)
      refine call_h (s_siftDown y d.size hys g cap m hh a hmh hfs hn _ ?_)
      simp only [arrO]
      (try simp only [go_sem, hA, e11, w1, w2, w3, hmm, hwm]); repeat' (first | (with_reducible first | refine c_split ?_ ?_ | refine w_split ?_ ?_ | refine tw_split ?_ ?_) <;> intro hb <;> try simp only [go_sem, hb, hA, e11, w1, w2, w3, hmm, hwm] | with_reducible refine d364_0_LSort3 (by with_unfolding_all rfl) (by kernel_rfl) ?_ <;> try simp only [go_sem, hA, e11, w1, w2, w3, hmm, hwm] | fail)
      refine GC.now (hJ (m, siftDown lotLt hh a m y) _ _ (by exact Nat.lt_succ_self m) (by simp only [go_sem, hA, e11, w1, w2, w3]) ⟨?_, ?_, ?_⟩) <;> try simp only [go_sem, hA, e11, w1, w2, w3, hmm, hwm]
      exact ⟨Nat.le_of_succ_le hkk, hss, hm⟩
end Go.Proofs.YtkndmncgohmjmaaGreat
end
section
namespace Go.Proofs.YtkndmncgohmjmaaGreat
open Go.BL Go.RowKit
set_option linter.unusedVariables false
set_option linter.unusedSimpArgs false
set_option maxRecDepth 100000
theorem d367_0_LSort4 : DrawL Tryz.prog 0 16 (.on [(0, true, true), (1, true, true), (2, true, true), (3, true, true), (4, true, true), (5, true, true), (6, true, true), (7, true, true), (8, true, false), (9, false, false), (10, false, false), (11, false, false), (12, false, true), (13, false, true), (14, false, true), (15, false, true)] .nil) := draw_L
theorem d421_0_LSort4 : DrawL Tryz.prog 0 12 (.on [(0, true, true), (1, true, true), (2, true, true), (3, true, true), (4, true, true), (5, true, false), (6, false, false), (7, false, false), (8, false, false), (9, false, true), (10, false, true)] .nil) := draw_L
attribute [local go_sem] lotC
open Go.Sort
theorem rv_end {i j : Nat} {d : Array Lot} (h : ¬ i < j) : reverseLoop i j d = d := by rw [reverseLoop, if_neg h]
theorem rv_go {i j : Nat} {d : Array Lot} (h : i < j) : reverseLoop i j d = reverseLoop (i + 1) (j - 1) (swp d i j) := by rw [reverseLoop, if_pos h]
theorem rv_w {j n : Nat} (h0 : 0 < j) (hn : j ≤ 1000) : wrap64 ((j : Int) - 1) = ((j - 1 : Nat) : Int) := by unfold wrap64; omega
theorem rv_m {i j : Nat} (h : i < j) : j - 1 - (i + 1) < j - i := by omega
theorem s_reverseRange (d : Array Lot) (n : Nat) (e : d.size = n) (g : Nat) (cap : Option Nat) (a b : Nat) (hab : a < b) (hb : b ≤ n) (hn : n ≤ 1000) (K : AV → AH → Prop) (hk : K (.tup []) [arrO g cap (reverseRange d a b)]) : ACalls Tryz.prog 367 [.one (.sl 0 g 0 n), (.one (.c (.int .i64 ((a : Int))))), (.one (.c (.int .i64 ((b : Int))))), .one (.clo 251 [])] [arrO g cap d] K := by
  have hb1 : b ≤ 1000 := Nat.le_trans hb hn
  have hb0 : 0 < b := Nat.lt_of_le_of_lt (Nat.zero_le _) hab
  have wb := rv_w (n := 0) hb0 hb1
  rw [reverseRange] at hk
  refine acall_h Tryz.f367.results.toList mixed Tryz.func367 rfl rfl (by kernel_rfl) ?_
  intro Q hQ hQN
  simp only [go_sem, arrO]
  (try simp only [go_sem, wb]); repeat' (first | (with_reducible first | refine c_split ?_ ?_ | refine w_split ?_ ?_ | refine tw_split ?_ ?_) <;> intro hb <;> try simp only [go_sem, hb, wb] | with_reducible refine d367_0_LSort4 (by with_unfolding_all rfl) (by kernel_rfl) ?_ <;> try simp only [go_sem, wb] | fail)
  refine while_at (α := Nat × Nat × Array Lot) (fun ⟨i, j, y⟩ => j - i) [0] (fun ⟨i, j, y⟩ f h => f 8 = (.one (.c (.int .i64 ((i : Int))))) ∧ f 9 = (.one (.c (.int .i64 ((j : Int))))) ∧ h = [.own g 112 5 cap (y.toList.map lotC)] ∧ j < b ∧ y.size = n ∧ reverseLoop a (b - 1) d = reverseLoop i j y) (a, b - 1, d) (GC.now ?_) ?_
  · simp only [go_sem, nc_0, true_and, wb]
    exact ⟨Nat.sub_lt hb0 Nat.zero_lt_one, e⟩
  · rintro ⟨i, j, y⟩ f h J hA ⟨e8, e9, rfl, hP⟩ hJ
    simp only [go_sem, wb] at hA
    try dsimp only at hJ
    simp only [go_sem, hA, e8, e9, wb]
    obtain ⟨hjb, hys, hm⟩ := hP
    by_cases hij : i < j
    · have hd : decide ((i : Int) < (j : Int)) = true := decide_eq_true (Int.ofNat_lt.2 hij)
      have hjn : j < n := Nat.lt_of_lt_of_le hjb hb
      have hin : i < n := Nat.lt_trans hij hjn
      have gi := arr_get y (hys ▸ hin)
      have gj := arr_get y (hys ▸ hjn)
      have li : (i : Int) < (n : Int) := Int.ofNat_lt.2 hin
      have lj : (j : Int) < (n : Int) := Int.ofNat_lt.2 hjn
      have hsw := arr_swp y i j
      have hgs := fun z => get_set_ne y (i := i) (j := j) (hys ▸ hjn) (Nat.ne_of_gt hij) z
      have w1 := wrap_nat i (st_n hin hn)
      have w2 := rv_w (j := j) (n := 0) (Nat.lt_of_le_of_lt (Nat.zero_le _) hij) (Nat.le_trans (Nat.le_of_lt hjn) hn)
      rw [rv_go hij] at hm
      (try simp only [go_sem, hA, e8, e9, wb, hd, gi, gj, li, lj, hgs, hsw, w1, w2]); repeat' (first | (with_reducible first | refine c_split ?_ ?_ | refine w_split ?_ ?_ | refine tw_split ?_ ?_) <;> intro hb <;> try simp only [go_sem, hb, hA, e8, e9, wb, hd, gi, gj, li, lj, hgs, hsw, w1, w2] | with_reducible refine d367_0_LSort4 (by with_unfolding_all rfl) (by kernel_rfl) ?_ <;> try simp only [go_sem, hA, e8, e9, wb, hd, gi, gj, li, lj, hgs, hsw, w1, w2] | fail)
      refine GC.now (hJ (i + 1, j - 1, swp y i j) _ _ (by exact rv_m hij) (by simp only [go_sem, hA, e8, e9, wb]) ⟨?_, ?_, ?_, ?_⟩) <;> try simp only [go_sem, hA, e8, e9, wb, w1, w2, hsw]
      exact ⟨Nat.lt_of_le_of_lt (Nat.sub_le _ _) hjb, by rw [swp_size]; exact hys, hm⟩
    · have hd : decide ((i : Int) < (j : Int)) = false := decide_eq_false (fun q => hij (Int.ofNat_lt.1 q))
      rw [rv_end hij] at hm
      rw [hm] at hk
      (try simp only [go_sem, hA, e8, e9, wb, hd]); repeat' (first | (with_reducible first | refine c_split ?_ ?_ | refine w_split ?_ ?_ | refine tw_split ?_ ?_) <;> intro hb <;> try simp only [go_sem, hb, hA, e8, e9, wb, hd] | with_reducible refine d367_0_LSort4 (by with_unfolding_all rfl) (by kernel_rfl) ?_ <;> try simp only [go_sem, hA, e8, e9, wb, hd] | fail)
      refine hQN [] _ _ (GC.now ?_) <;> simp only [Tryz.f367, go_sem, List.nodup_cons, List.nodup_nil, List.mem_cons, List.not_mem_nil, or_false, not_false_eq_true, List.idxOf?_cons, List.idxOf?_nil, Option.map_none, forall_eq]
      exact hk
def swO (s : Nat) : AO := .own 0 3 1 (some 1) [[.c (.int .i64 ((s : Int)))]]
theorem s_order2 (d : Array Lot) (n : Nat) (e : d.size = n) (g : Nat) (cap : Option Nat) (a b s : Nat) (ha : a < n) (hb : b < n) (hs : s ≤ 100) (K : AV → AH → Prop) (hk : K (.tup [(.one (.c (.int .i64 (((order2 lotLt d a b s).1 : Int))))), (.one (.c (.int .i64 (((order2 lotLt d a b s).2.1 : Int)))))]) [arrO g cap d, swO (order2 lotLt d a b s).2.2]) : ACalls Tryz.prog 421 [.one (.sl 0 g 0 n), (.one (.c (.int .i64 ((a : Int))))), (.one (.c (.int .i64 ((b : Int))))), .one (.pt 1 0 0 0), .one (.clo 251 [])] [arrO g cap d, swO s] K := by
  have ga := arr_get d (e ▸ ha)
  have gb := arr_get d (e ▸ hb)
  have la : (a : Int) < (n : Int) := Int.ofNat_lt.2 ha
  have lb : (b : Int) < (n : Int) := Int.ofNat_lt.2 hb
  have w1 := wrap_nat s (Nat.lt_of_le_of_lt hs (by decide))
  rw [order2] at hk
  refine acall_h Tryz.f421.results.toList mixed Tryz.func421 rfl rfl (by kernel_rfl) ?_
  intro Q hQ hQN
  simp only [go_sem, arrO, swO]
  cases k1 : lotLt d[b]! d[a]! with
  | true =>
    rw [if_pos k1] at hk
    have kd : decide (lotCmp d[b]! d[a]! < 0) = true := by rw [← lotCmp_lt]; exact k1
    (try simp only [go_sem, ga, gb, la, lb, kd, w1]); repeat' (first | (with_reducible first | refine c_split ?_ ?_ | refine w_split ?_ ?_ | refine tw_split ?_ ?_) <;> intro hb <;> try simp only [go_sem, hb, ga, gb, la, lb, kd, w1] | (first | with_reducible refine d421_0_LSort4 (by with_unfolding_all rfl) (by kernel_rfl) ?_ | refine call_c (c_lotBefore _ _ _ ?_) | fail) <;> try simp only [go_sem, ga, gb, la, lb, kd, w1] | fail)
    refine hQ [] _ _ (GC.now ?_) <;> simp only [Tryz.f421, go_sem, List.nodup_cons, List.nodup_nil, List.mem_cons, List.not_mem_nil, or_false, not_false_eq_true, List.idxOf?_cons, List.idxOf?_nil, Option.map_none, forall_eq]
    exact hk
  | false =>
    rw [if_neg (by rw [k1]; decide)] at hk
    have kd : decide (lotCmp d[b]! d[a]! < 0) = false := by rw [← lotCmp_lt]; exact k1
    (try simp only [go_sem, ga, gb, la, lb, kd, w1]); repeat' (first | (with_reducible first | refine c_split ?_ ?_ | refine w_split ?_ ?_ | refine tw_split ?_ ?_) <;> intro hb <;> try simp only [go_sem, hb, ga, gb, la, lb, kd, w1] | (first | with_reducible refine d421_0_LSort4 (by with_unfolding_all rfl) (by kernel_rfl) ?_ | refine call_c (c_lotBefore _ _ _ ?_) | fail) <;> try simp only [go_sem, ga, gb, la, lb, kd, w1] | fail)
    refine hQ [] _ _ (GC.now ?_) <;> simp only [Tryz.f421, go_sem, List.nodup_cons, List.nodup_nil, List.mem_cons, List.not_mem_nil, or_false, not_false_eq_true, List.idxOf?_cons, List.idxOf?_nil, Option.map_none, forall_eq]
    exact hk
end Go.Proofs.YtkndmncgohmjmaaGreat
end
section
namespace Go.Proofs.YtkndmncgohmjmaaGreat
open Go.BL Go.RowKit
set_option linter.unusedVariables false
set_option linter.unusedSimpArgs false
set_option maxRecDepth 100000
attribute [local go_sem] lotC
open Go.Sort
theorem o2_in {d : Array Lot} {a b s n : Nat} (ha : a < n) (hb : b < n) : (order2 lotLt d a b s).1 < n ∧ (order2 lotLt d a b s).2.1 < n := by
  rcases order2_mem lotLt d a b s with ⟨h1, h2⟩ | ⟨h1, h2⟩
  · rw [h1, h2]; exact ⟨ha, hb⟩
  · rw [h1, h2]; exact ⟨hb, ha⟩
theorem s_median (d : Array Lot) (n : Nat) (e : d.size = n) (g : Nat) (cap : Option Nat) (a b c s : Nat) (ha : a < n) (hb : b < n) (hc : c < n) (hs : s ≤ 50) (K : AV → AH → Prop) (hk : K (.one (.c (.int .i64 (((median lotLt d a b c s).1 : Int))))) [arrO g cap d, swO (median lotLt d a b c s).2]) : ACalls Tryz.prog 402 [.one (.sl 0 g 0 n), (.one (.c (.int .i64 ((a : Int))))), (.one (.c (.int .i64 ((b : Int))))), (.one (.c (.int .i64 ((c : Int))))), .one (.pt 1 0 0 0), .one (.clo 251 [])] [arrO g cap d, swO s] K := by
  have hm : median lotLt d a b c s = ((order2 lotLt d (order2 lotLt d a b s).1 (order2 lotLt d (order2 lotLt d a b s).2.1 c (order2 lotLt d a b s).2.2).1 (order2 lotLt d (order2 lotLt d a b s).2.1 c (order2 lotLt d a b s).2.2).2.2).2.1, (order2 lotLt d (order2 lotLt d a b s).1 (order2 lotLt d (order2 lotLt d a b s).2.1 c (order2 lotLt d a b s).2.2).1 (order2 lotLt d (order2 lotLt d a b s).2.1 c (order2 lotLt d a b s).2.2).2.2).2.2) := rfl
  rw [hm] at hk
  have i1 := o2_in (d := d) (s := s) ha hb
  have c1 := order2_count lotLt d a b s
  obtain ⟨r1, h1⟩ : ∃ r, order2 lotLt d a b s = r := ⟨_, rfl⟩
  have i2 := o2_in (d := d) (s := r1.2.2) (h1 ▸ i1.2) hc
  have c2 := order2_count lotLt d r1.2.1 c r1.2.2
  obtain ⟨r2, h2⟩ : ∃ r, order2 lotLt d r1.2.1 c r1.2.2 = r := ⟨_, rfl⟩
  rw [h1] at i1 c1
  rw [h2] at i2 c2
  simp only [h1, h2] at hk
  refine acall_h Tryz.f402.results.toList mixed Tryz.func402 rfl rfl (by kernel_rfl) ?_
  intro Q hQ hQN
  simp only [go_sem, arrO, swO]
  (try simp only [go_sem]); repeat' (first | (with_reducible first | refine c_split ?_ ?_ | refine w_split ?_ ?_) <;> intro hb <;> try simp only [go_sem, hb] | fail)
  refine call_h (s_order2 d n e g cap a b s ha hb (by omega) _ ?_)
  simp only [h1, arrO, swO]
  (try simp only [go_sem]); repeat' (first | (with_reducible first | refine c_split ?_ ?_ | refine w_split ?_ ?_) <;> intro hb <;> try simp only [go_sem, hb] | fail)
  refine call_h (s_order2 d n e g cap r1.2.1 c r1.2.2 i1.2 hc (by omega) _ ?_)
  simp only [h2, arrO, swO]
  (try simp only [go_sem]); repeat' (first | (with_reducible first | refine c_split ?_ ?_ | refine w_split ?_ ?_) <;> intro hb <;> try simp only [go_sem, hb] | fail)
  refine call_h (s_order2 d n e g cap r1.1 r2.1 r2.2.2 i1.1 i2.1 (by omega) _ ?_)
  simp only [arrO, swO]
  (try simp only [go_sem]); repeat' (first | (with_reducible first | refine c_split ?_ ?_ | refine w_split ?_ ?_) <;> intro hb <;> try simp only [go_sem, hb] | fail)
  refine hQ [] _ _ (GC.now ?_) <;> simp only [Tryz.f402, go_sem, List.nodup_cons, List.nodup_nil, List.mem_cons, List.not_mem_nil, or_false, not_false_eq_true, List.idxOf?_cons, List.idxOf?_nil, Option.map_none, forall_eq]
  exact hk
theorem ma_w {a n : Nat} (h0 : 0 < a) (h1 : a + 1 < n) (hn : n ≤ 1000) : wrap64 ((a : Int) - 1) = ((a - 1 : Nat) : Int) ∧ wrap64 ((a : Int) + 1) = ((a + 1 : Nat) : Int) ∧ a - 1 < n ∧ a < n := ⟨by unfold wrap64; omega, by unfold wrap64; omega, by omega, by omega⟩
theorem s_medianAdjacent (d : Array Lot) (n : Nat) (e : d.size = n) (g : Nat) (cap : Option Nat) (a s : Nat) (h0 : 0 < a) (ha : a + 1 < n) (hn : n ≤ 1000) (hs : s ≤ 50) (K : AV → AH → Prop) (hk : K (.one (.c (.int .i64 (((medianAdjacent lotLt d a s).1 : Int))))) [arrO g cap d, swO (medianAdjacent lotLt d a s).2]) : ACalls Tryz.prog 401 [.one (.sl 0 g 0 n), (.one (.c (.int .i64 ((a : Int))))), .one (.pt 1 0 0 0), .one (.clo 251 [])] [arrO g cap d, swO s] K := by
  obtain ⟨w1, w2, l1, l2⟩ := ma_w h0 ha hn
  rw [medianAdjacent] at hk
  refine acall_h Tryz.f401.results.toList mixed Tryz.func401 rfl rfl (by kernel_rfl) ?_
  intro Q hQ hQN
  simp only [go_sem, arrO, swO]
  (try simp only [go_sem, w1, w2]); repeat' (first | (with_reducible first | refine c_split ?_ ?_ | refine w_split ?_ ?_) <;> intro hb <;> try simp only [go_sem, hb, w1, w2] | fail)
  refine call_h (s_median d n e g cap (a - 1) a (a + 1) s l1 l2 ha hs _ ?_)
  simp only [arrO, swO]
  (try simp only [go_sem]); repeat' (first | (with_reducible first | refine c_split ?_ ?_ | refine w_split ?_ ?_) <;> intro hb <;> try simp only [go_sem, hb] | fail)
  refine hQ [] _ _ (GC.now ?_) <;> simp only [Tryz.f401, go_sem, List.nodup_cons, List.nodup_nil, List.mem_cons, List.not_mem_nil, or_false, not_false_eq_true, List.idxOf?_cons, List.idxOf?_nil, Option.map_none, forall_eq]
  exact hk
theorem cp_w {a b : Nat} (hab : a < b) (hb : b ≤ 1000) : wrap64 ((b : Int) - (a : Int)) = ((b - a : Nat) : Int) ∧ wrap64 (Int.tdiv ((b - a : Nat) : Int) 4) = (((b - a) / 4 : Nat) : Int) ∧ wrap64 ((((b - a) / 4 : Nat) : Int) * 1) = (((b - a) / 4 * 1 : Nat) : Int) ∧ wrap64 ((((b - a) / 4 : Nat) : Int) * 2) = (((b - a) / 4 * 2 : Nat) : Int) ∧ wrap64 ((((b - a) / 4 : Nat) : Int) * 3) = (((b - a) / 4 * 3 : Nat) : Int) := by
  have e : Int.tdiv ((b - a : Nat) : Int) 4 = (((b - a) / 4 : Nat) : Int) := (Int.ofNat_tdiv (b - a) 4).symm
  rw [e]
  exact ⟨by unfold wrap64; omega, by unfold wrap64; omega, by unfold wrap64; omega, by unfold wrap64; omega, by unfold wrap64; omega⟩
theorem cp_a {a b k : Nat} (hab : a < b) (hb : b ≤ 1000) (hk : k ≤ 3) : wrap64 ((a : Int) + (((b - a) / 4 * k : Nat) : Int)) = ((a + (b - a) / 4 * k : Nat) : Int) ∧ a + (b - a) / 4 * k < b := by
  have h1 : (b - a) / 4 * k ≤ (b - a) / 4 * 3 := Nat.mul_le_mul_left _ hk
  have h2 : (b - a) / 4 * 3 < b - a ∨ b - a = 0 := by omega
  constructor
  · generalize (b - a) / 4 * k = z at *; unfold wrap64; omega
  · omega
theorem cp_in {a b k : Nat} (h50 : 50 ≤ b - a) (hk1 : 1 ≤ k) (hk : k ≤ 3) : 0 < a + (b - a) / 4 * k ∧ a + (b - a) / 4 * k + 1 < b := by
  have h1 : (b - a) / 4 * k ≤ (b - a) / 4 * 3 := Nat.mul_le_mul_left _ hk
  have h2 : (b - a) / 4 * 1 ≤ (b - a) / 4 * k := Nat.mul_le_mul_left _ hk1
  constructor <;> omega
theorem hint_0 {s : Nat} (h : (s : Int) = 0) : hintCode (hintOf s) = 1 := by
  have : s = 0 := by omega
  subst this
  rfl
theorem hint_12 {s : Nat} (h : (s : Int) = 12) : hintCode (hintOf s) = 2 := by
  have : s = 12 := by omega
  subst this
  rfl
theorem hint_u {s : Nat} (h : ¬ (s : Int) = 0) (h2 : ¬ (s : Int) = 12) : hintCode (hintOf s) = 0 := by
  unfold hintOf
  rw [if_neg (by omega), if_neg (by omega)]; rfl
theorem ma_in {d : Array Lot} {a s n : Nat} (h0 : 0 < a) (h : a + 1 < n) : (medianAdjacent lotLt d a s).1 < n := by
  rcases medianAdjacent_mem lotLt d a s with h | h | h <;> rw [h] <;> omega
set_option maxHeartbeats 8000000 in
theorem s_choosePivot (d : Array Lot) (n : Nat) (e : d.size = n) (g : Nat) (cap : Option Nat) (a b : Nat) (hab : a < b) (hb : b ≤ n) (hn : n ≤ 1000) (K : AV → AH → Prop) (hk : K (.tup [(.one (.c (.int .i64 (((choosePivot lotLt d a b).1 : Int))))), (.one (.c (.int .i64 (hintCode (choosePivot lotLt d a b).2))))]) [arrO g cap d]) : ACalls Tryz.prog 366 [.one (.sl 0 g 0 n), (.one (.c (.int .i64 ((a : Int))))), (.one (.c (.int .i64 ((b : Int))))), .one (.clo 251 [])] [arrO g cap d] K := by
  have hb1 : b ≤ 1000 := Nat.le_trans hb hn
  obtain ⟨w0, w1, w2, w3, w4⟩ := cp_w hab hb1
  obtain ⟨x1, y1⟩ := cp_a (k := 1) hab hb1 (by decide)
  obtain ⟨x2, y2⟩ := cp_a (k := 2) hab hb1 (by decide)
  obtain ⟨x3, y3⟩ := cp_a (k := 3) hab hb1 (by decide)
  have n1 := Nat.lt_of_lt_of_le y1 hb
  have n2 := Nat.lt_of_lt_of_le y2 hb
  have n3 := Nat.lt_of_lt_of_le y3 hb
  have f4 : (4 : Int) ≠ 0 := by decide
  rw [choosePivot_eq] at hk
  simp only at hk
  refine acall_h Tryz.f366.results.toList mixed Tryz.func366 rfl rfl (by kernel_rfl) ?_
  intro Q hQ hQN
  simp only [go_sem, arrO]
  by_cases h8 : b - a ≥ 8
  · have d8 : decide ((8 : Int) ≤ ((b - a : Nat) : Int)) = true := decide_eq_true (Int.ofNat_le.2 h8)
    by_cases h50 : b - a ≥ 50
    · have d50 : decide ((50 : Int) ≤ ((b - a : Nat) : Int)) = true := decide_eq_true (Int.ofNat_le.2 h50)
      rw [rawPivot, if_pos h8, if_pos h50] at hk
      obtain ⟨p1, q1⟩ := cp_in (a := a) (k := 1) h50 (by decide) (by decide)
      obtain ⟨p2, q2⟩ := cp_in (a := a) (k := 2) h50 (by decide) (by decide)
      obtain ⟨p3, q3⟩ := cp_in (a := a) (k := 3) h50 (by decide) (by decide)
      have t1 := ma_in (d := d) (s := 0) p1 (Nat.lt_of_lt_of_le q1 hb)
      have c1 := medianAdjacent_count lotLt d (a + (b - a) / 4 * 1) 0
      obtain ⟨r1, e1⟩ : ∃ r, medianAdjacent lotLt d (a + (b - a) / 4 * 1) 0 = r := ⟨_, rfl⟩
      rw [e1] at t1 c1
      have t2 := ma_in (d := d) (s := r1.2) p2 (Nat.lt_of_lt_of_le q2 hb)
      have c2 := medianAdjacent_count lotLt d (a + (b - a) / 4 * 2) r1.2
      obtain ⟨r2, e2⟩ : ∃ r, medianAdjacent lotLt d (a + (b - a) / 4 * 2) r1.2 = r := ⟨_, rfl⟩
      rw [e2] at t2 c2
      have t3 := ma_in (d := d) (s := r2.2) p3 (Nat.lt_of_lt_of_le q3 hb)
      have c3 := medianAdjacent_count lotLt d (a + (b - a) / 4 * 3) r2.2
      obtain ⟨r3, e3⟩ : ∃ r, medianAdjacent lotLt d (a + (b - a) / 4 * 3) r2.2 = r := ⟨_, rfl⟩
      rw [e3] at t3 c3
      obtain ⟨r4, e4⟩ : ∃ r, median lotLt d r1.1 r2.1 r3.1 r3.2 = r := ⟨_, rfl⟩
      simp only [e1, e2, e3, e4] at hk
      have b2 : r1.2 ≤ 50 := by omega
      have b3 : r2.2 ≤ 50 := by omega
      have b4 : r3.2 ≤ 50 := by omega
      (try simp only [go_sem, w0, w1, w2, w3, w4, x1, x2, x3, f4, d8, d50]); repeat' (first | (with_reducible first | refine c_split ?_ ?_ | refine w_split ?_ ?_) <;> intro hb <;> try simp only [go_sem, hb, w0, w1, w2, w3, w4, x1, x2, x3, f4, d8, d50] | fail)
      refine call_h (s_medianAdjacent d n e g cap (a + (b - a) / 4 * 1) 0 p1 (Nat.lt_of_lt_of_le q1 hb) hn (by decide) _ ?_)
      simp only [e1, arrO, swO]
      (try simp only [go_sem, w0, w1, w2, w3, w4, x1, x2, x3, f4, d8, d50]); repeat' (first | (with_reducible first | refine c_split ?_ ?_ | refine w_split ?_ ?_) <;> intro hb <;> try simp only [go_sem, hb, w0, w1, w2, w3, w4, x1, x2, x3, f4, d8, d50] | fail)
      refine call_h (s_medianAdjacent d n e g cap (a + (b - a) / 4 * 2) r1.2 p2 (Nat.lt_of_lt_of_le q2 hb) hn b2 _ ?_)
      simp only [e2, arrO, swO]
      (try simp only [go_sem, w0, w1, w2, w3, w4, x1, x2, x3, f4, d8, d50]); repeat' (first | (with_reducible first | refine c_split ?_ ?_ | refine w_split ?_ ?_) <;> intro hb <;> try simp only [go_sem, hb, w0, w1, w2, w3, w4, x1, x2, x3, f4, d8, d50] | fail)
      refine call_h (s_medianAdjacent d n e g cap (a + (b - a) / 4 * 3) r2.2 p3 (Nat.lt_of_lt_of_le q3 hb) hn b3 _ ?_)
      simp only [e3, arrO, swO]
      (try simp only [go_sem, w0, w1, w2, w3, w4, x1, x2, x3, f4, d8, d50]); repeat' (first | (with_reducible first | refine c_split ?_ ?_ | refine w_split ?_ ?_) <;> intro hb <;> try simp only [go_sem, hb, w0, w1, w2, w3, w4, x1, x2, x3, f4, d8, d50] | fail)
      refine call_h (s_median d n e g cap r1.1 r2.1 r3.1 r3.2 t1 t2 t3 b4 _ ?_)
      simp only [e4, arrO, swO]
      cases z0 : (((r4.2 : Nat) : Int) == 0) with
      | true =>
        rw [hint_0 (eq_of_beq z0)] at hk
        (try simp only [go_sem, w0, z0]); repeat' (first | (with_reducible first | refine c_split ?_ ?_ | refine w_split ?_ ?_) <;> intro hb <;> try simp only [go_sem, hb, w0, z0] | fail)
        refine hQ [] _ _ (GC.now ?_) <;> simp only [Tryz.f366, go_sem, List.nodup_cons, List.nodup_nil, List.mem_cons, List.not_mem_nil, or_false, not_false_eq_true, List.idxOf?_cons, List.idxOf?_nil, Option.map_none, forall_eq]
        exact hk
      | false =>
        cases z1 : (((r4.2 : Nat) : Int) == 12) with
        | true =>
          rw [hint_12 (eq_of_beq z1)] at hk
          (try simp only [go_sem, w0, z0, z1]); repeat' (first | (with_reducible first | refine c_split ?_ ?_ | refine w_split ?_ ?_) <;> intro hb <;> try simp only [go_sem, hb, w0, z0, z1] | fail)
          refine hQ [] _ _ (GC.now ?_) <;> simp only [Tryz.f366, go_sem, List.nodup_cons, List.nodup_nil, List.mem_cons, List.not_mem_nil, or_false, not_false_eq_true, List.idxOf?_cons, List.idxOf?_nil, Option.map_none, forall_eq]
          exact hk
        | false =>
          rw [hint_u (fun q => by rw [q] at z0; cases z0) (fun q => by rw [q] at z1; cases z1)] at hk
          (try simp only [go_sem, w0, z0, z1]); repeat' (first | (with_reducible first | refine c_split ?_ ?_ | refine w_split ?_ ?_) <;> intro hb <;> try simp only [go_sem, hb, w0, z0, z1] | fail)
          refine hQ [] _ _ (GC.now ?_) <;> simp only [Tryz.f366, go_sem, List.nodup_cons, List.nodup_nil, List.mem_cons, List.not_mem_nil, or_false, not_false_eq_true, List.idxOf?_cons, List.idxOf?_nil, Option.map_none, forall_eq]
          exact hk
    · have d50 : decide ((50 : Int) ≤ ((b - a : Nat) : Int)) = false := decide_eq_false (fun q => h50 (Int.ofNat_le.1 q))
      rw [rawPivot, if_pos h8, if_neg h50] at hk
      obtain ⟨r4, e4⟩ : ∃ r, median lotLt d (a + (b - a) / 4 * 1) (a + (b - a) / 4 * 2) (a + (b - a) / 4 * 3) 0 = r := ⟨_, rfl⟩
      simp only [e4] at hk
      (try simp only [go_sem, w0, w1, w2, w3, w4, x1, x2, x3, f4, d8, d50]); repeat' (first | (with_reducible first | refine c_split ?_ ?_ | refine w_split ?_ ?_) <;> intro hb <;> try simp only [go_sem, hb, w0, w1, w2, w3, w4, x1, x2, x3, f4, d8, d50] | fail)
      refine call_h (s_median d n e g cap (a + (b - a) / 4 * 1) (a + (b - a) / 4 * 2) (a + (b - a) / 4 * 3) 0 n1 n2 n3 (by decide) _ ?_)
      simp only [e4, arrO, swO]
      cases z0 : (((r4.2 : Nat) : Int) == 0) with
      | true =>
        rw [hint_0 (eq_of_beq z0)] at hk
        (try simp only [go_sem, w0, z0]); repeat' (first | (with_reducible first | refine c_split ?_ ?_ | refine w_split ?_ ?_) <;> intro hb <;> try simp only [go_sem, hb, w0, z0] | fail)
        refine hQ [] _ _ (GC.now ?_) <;> simp only [Tryz.f366, go_sem, List.nodup_cons, List.nodup_nil, List.mem_cons, List.not_mem_nil, or_false, not_false_eq_true, List.idxOf?_cons, List.idxOf?_nil, Option.map_none, forall_eq]
        exact hk
      | false =>
        cases z1 : (((r4.2 : Nat) : Int) == 12) with
        | true =>
          rw [hint_12 (eq_of_beq z1)] at hk
          (try simp only [go_sem, w0, z0, z1]); repeat' (first | (with_reducible first | refine c_split ?_ ?_ | refine w_split ?_ ?_) <;> intro hb <;> try simp only [go_sem, hb, w0, z0, z1] | fail)
          refine hQ [] _ _ (GC.now ?_) <;> simp only [Tryz.f366, go_sem, List.nodup_cons, List.nodup_nil, List.mem_cons, List.not_mem_nil, or_false, not_false_eq_true, List.idxOf?_cons, List.idxOf?_nil, Option.map_none, forall_eq]
          exact hk
        | false =>
          rw [hint_u (fun q => by rw [q] at z0; cases z0) (fun q => by rw [q] at z1; cases z1)] at hk
          (try simp only [go_sem, w0, z0, z1]); repeat' (first | (with_reducible first | refine c_split ?_ ?_ | refine w_split ?_ ?_) <;> intro hb <;> try simp only [go_sem, hb, w0, z0, z1] | fail)
          refine hQ [] _ _ (GC.now ?_) <;> simp only [Tryz.f366, go_sem, List.nodup_cons, List.nodup_nil, List.mem_cons, List.not_mem_nil, or_false, not_false_eq_true, List.idxOf?_cons, List.idxOf?_nil, Option.map_none, forall_eq]
          exact hk
  · have d8 : decide ((8 : Int) ≤ ((b - a : Nat) : Int)) = false := decide_eq_false (fun q => h8 (Int.ofNat_le.1 q))
    rw [rawPivot, if_neg h8] at hk
    have h0 : hintCode (hintOf 0) = 1 := rfl
    simp only [h0] at hk
    (try simp only [go_sem, w0, w1, w2, w3, w4, x1, x2, x3, f4, d8]); repeat' (first | (with_reducible first | refine c_split ?_ ?_ | refine w_split ?_ ?_) <;> intro hb <;> try simp only [go_sem, hb, w0, w1, w2, w3, w4, x1, x2, x3, f4, d8] | fail)
    refine hQ [] _ _ (GC.now ?_) <;> simp only [Tryz.f366, go_sem, List.nodup_cons, List.nodup_nil, List.mem_cons, List.not_mem_nil, or_false, not_false_eq_true, List.idxOf?_cons, List.idxOf?_nil, Option.map_none, forall_eq]
    exact hk
end Go.Proofs.YtkndmncgohmjmaaGreat
end
