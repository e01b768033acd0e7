/- Walks of functions of the program and the laws they rest on (5 of 6). Conditions: none. -/
import Derived.Test.YtkndmncgohmjmaaGreatM4
section
namespace Go.Proofs.YtkndmncgohmjmaaGreat
open Go.BL Go.RowKit
set_option linter.unusedVariables false
set_option linter.unusedSimpArgs false
set_option maxRecDepth 100000
theorem d166_0_LBooks5 : DrawL Tryz.prog 0 12 (.on [(0, false, true), (1, false, true), (2, false, true), (3, false, true), (4, false, true), (5, false, true), (6, false, true), (7, true, true), (8, true, false), (9, true, false), (10, true, true), (11, true, false), (12, false, false), (13, false, false), (14, false, false), (15, false, false), (16, false, false)] .nil) := draw_L
theorem d144_0_LBooks5 : DrawL Tryz.prog 0 20 (.on [(0, false, true), (1, false, true), (2, false, true), (3, false, true), (4, false, true), (5, false, true), (6, false, true), (7, true, true), (8, true, true), (9, true, true), (10, true, true), (11, true, true), (12, false, false), (13, false, true), (14, false, true), (15, false, true), (16, false, true)] .nil) := draw_L
theorem d144_1_LBooks5 : DrawL Tryz.prog 0 37 (.on [(0, false, true), (1, false, true), (2, false, true), (3, true, true), (4, true, true), (5, true, false), (6, false, false), (7, false, false), (8, false, false), (9, false, false), (10, false, false), (11, false, true), (12, false, true), (13, false, true), (14, true, true), (15, true, true), (16, true, false), (17, false, false), (18, false, false), (19, false, false), (20, false, false), (21, false, false), (22, false, false), (23, false, false)] .nil) := draw_L
attribute [local go_sem] accountC balC lotC tradeC
theorem findG_hit {α : Type} {p : α → Bool} {xs : List α} {x : α} (hx : x ∈ xs) (hp : p x = true) : 0 ≤ findG p xs := by
  unfold findG
  cases h : xs.findIdx? p with
  | none =>
    have := (List.findIdx?_eq_none_iff.1 h) x hx
    rw [hp] at this; cases this
  | some i => simp
def lotsOk (xs : List Lot) : Bool := okL lotP lotLt 120 xs && !decide (0 ≤ findG (badLot xs) xs)
theorem lotP_fine {x : Lot} (h : lotP x = true) : (0 ≤ x.qty ∧ x.qty ≤ 1000000000000000) ∧ 0 ≤ x.cost ∧ x.cost ≤ 1000000000000000 := by
  simp only [lotP, Bool.and_eq_true] at h
  have h1 := of_decide_eq_true h.1.2
  have h2 := of_decide_eq_true h.2
  exact ⟨⟨by omega, h1.2⟩, h2⟩
theorem rows_fine {xs : List Lot} {i : Nat} (h : allTo (rowG lotP lotLt xs) i = true) (hi : i ≤ xs.length) : ∀ x ∈ xs.take i, lotP x = true := by
  intro x hx
  obtain ⟨j, hj, rfl⟩ := List.mem_iff_getElem.1 hx
  rw [List.length_take] at hj
  have := allTo_at h j (by omega)
  rw [List.getElem_take]
  rcases j with _ | j
  · rwa [rowG_0 (by omega)] at this
  · rw [rowG_s (by omega), Bool.and_eq_true] at this; exact this.1
theorem okL_fine {xs : List Lot} (h : okL lotP lotLt 120 xs = true) : Fine xs := ⟨fun x hx => lotP_fine (okL_p h hx), by have := okL_len h; omega⟩
theorem lotLt_c {y x : Lot} (h : lotLt y x = true) : decide (0 ≤ lotCmp y x) = false := by
  rw [lotCmp_lt] at h
  have := of_decide_eq_true h
  exact decide_eq_false (by omega)
theorem c_impl_LotsOk (xs : List Lot) (hn : xs.length ≤ 1000000000) (K : AV → AH → Prop) (hk : K (.one (.c (.bool (lotsOk xs)))) []) : ACalls Tryz.prog 166 [(.one (.im (xs.map lotC)))] [] K := by
  refine acall_c Tryz.f166.results.toList mixed Tryz.func166 rfl rfl (by kernel_rfl) ?_
  intro Q hQ hQO
  simp only [go_sem]
  refine for_at (xs.length) [1, 5, 6] (fun i f h => f 7 = (.one (.c (.int .i64 (i)))) ∧ h = [.own 0 30 1 (some 1) [[.im (xs.map lotC)]]] ∧ allTo (rowG lotP lotLt xs) i = true) (GC.now ?_) ?_
  · simp only [go_sem, nc_0, true_and]
    rfl
  · rintro i f h J hi hA ⟨e7, rfl, hP⟩ hJ
    simp only [go_sem] at hA
    simp only [go_sem, hA, e7]
    refine c_split (fun hb => ?_) (fun hb => ?_)
    rotate_left
    · simp only [go_sem, hb, hA, e7]
      obtain rfl := ge_len hb hi
      (try simp only [go_sem, hA, e7]); repeat' (first | (with_reducible first | refine c_split ?_ ?_ | refine w_split ?_ ?_ | refine tw_split ?_ ?_) <;> intro hb <;> try simp only [go_sem, hb, hA, e7] | with_reducible refine d166_0_LBooks5 (by with_unfolding_all rfl) (by kernel_rfl) ?_ <;> try simp only [go_sem, hA, e7] | fail)
      · rw [lotsOk, okL_long (of_decide_eq_true hb), Bool.false_and] at hk
        (try simp only [go_sem]); repeat' (first | (with_reducible first | refine c_split ?_ ?_ | refine w_split ?_ ?_ | refine tw_split ?_ ?_) <;> intro hb <;> try simp only [go_sem, hb] | with_reducible refine d166_0_LBooks5 (by with_unfolding_all rfl) (by kernel_rfl) ?_ <;> try simp only [go_sem] | with_reducible refine hQ _ _ ?_ <;> simp only [Tryz.f166, go_sem])
        exact hk
      · have hlen := of_decide_eq_false hb
        have hokL : okL lotP lotLt 120 xs = true := by rw [okL, hP, decide_eq_true (by omega)]; rfl
        rw [lotsOk, hokL, Bool.true_and] at hk
        refine call_h (c_ContainsLot xs _ 0 (badLot xs) _ _ hn (fun i hi K' hk' => .inr (.inl ⟨rfl, c_LotsOk1 xs[i] xs (okL_fine hokL) _ 0 rfl _ hk'⟩)) ?_)
        simp only [go_sem]
        (try simp only [go_sem]); repeat' (first | (with_reducible first | refine c_split ?_ ?_ | refine w_split ?_ ?_ | refine tw_split ?_ ?_) <;> intro hb <;> try simp only [go_sem, hb] | with_reducible refine d166_0_LBooks5 (by with_unfolding_all rfl) (by kernel_rfl) ?_ <;> try simp only [go_sem] | with_reducible refine hQ _ _ ?_ <;> simp only [Tryz.f166, go_sem])
        exact hk
    have hi := lt_len hb
    have hw := wrap_nat i (by omega)
    have hil : (i : Int) < ((xs.length : Nat) : Int) := Int.ofNat_lt.2 hi
    have hg0 : (xs)[i]? = some ((xs)[i]) := List.getElem?_eq_getElem (by omega)
    simp only [go_sem, hb, hA, e7, hg0]
    try simp only [go_sem, hA, e7, hil, hg0]
    cases hr : rowG lotP lotLt xs i with
    | true =>
      have hall := allTo_s hP hr
      rcases i with _ | j
      · have g0 : decide ((0 : Int) < ((0 : Nat) : Int)) = false := by decide
        rw [rowG_0 hi] at hr
        (try simp only [go_sem, hA, e7, hil, hg0, g0, hr]); repeat' (first | (with_reducible first | refine c_split ?_ ?_ | refine w_split ?_ ?_ | refine tw_split ?_ ?_) <;> intro hb <;> try simp only [go_sem, hb, hA, e7, hil, hg0, g0, hr] | (first | with_reducible refine d166_0_LBooks5 (by with_unfolding_all rfl) (by kernel_rfl) ?_ | refine call_c (c_lotForm _ _ ?_) | refine call_c (c_lotBefore _ _ _ ?_) | fail) <;> try simp only [go_sem, hA, e7, hil, hg0, g0, hr] | fail)
        refine gc_trim 1 (by decide) (by simp only [go_sem]) (by simp only [go_sem]) (hJ _ _ hi (by simp only [go_sem, hA, e7]) ⟨?_, ?_, ?_⟩) <;> try simp only [go_sem, hA, e7, hw]
        exact hall
      · have hj : j < xs.length := by omega
        have hgj : xs[j]? = some xs[j] := List.getElem?_eq_getElem hj
        have g1 : decide ((0 : Int) < ((j + 1 : Nat) : Int)) = true := decide_eq_true (by omega)
        have g2 : wrap64 (((j + 1 : Nat) : Int) - 1) = (j : Int) := by unfold wrap64; omega
        rw [rowG_s hi, Bool.and_eq_true] at hr
        obtain ⟨hr, hlt⟩ := hr
        have hlt2 := lotLt_c hlt
        (try simp only [go_sem, hA, e7, hil, hg0, g1, g2, hgj, hlt2, hr]); repeat' (first | (with_reducible first | refine c_split ?_ ?_ | refine w_split ?_ ?_ | refine tw_split ?_ ?_) <;> intro hb <;> try simp only [go_sem, hb, hA, e7, hil, hg0, g1, g2, hgj, hlt2, hr] | (first | with_reducible refine d166_0_LBooks5 (by with_unfolding_all rfl) (by kernel_rfl) ?_ | refine call_c (c_lotForm _ _ ?_) | refine call_c (c_lotBefore _ _ _ ?_) | fail) <;> try simp only [go_sem, hA, e7, hil, hg0, g1, g2, hgj, hlt2, hr] | fail)
        refine gc_trim 1 (by decide) (by simp only [go_sem]) (by simp only [go_sem]) (hJ _ _ hi (by simp only [go_sem, hA, e7]) ⟨?_, ?_, ?_⟩) <;> try simp only [go_sem, hA, e7, hw]
        exact hall
    | false =>
      rw [lotsOk, okL_no hr hi, Bool.false_and] at hk
      rcases i with _ | j
      · have g0 : decide ((0 : Int) < ((0 : Nat) : Int)) = false := by decide
        rw [rowG_0 hi] at hr
        (try simp only [go_sem, hA, e7, hil, hg0, g0, hr]); repeat' (first | (with_reducible first | refine c_split ?_ ?_ | refine w_split ?_ ?_ | refine tw_split ?_ ?_) <;> intro hb <;> try simp only [go_sem, hb, hA, e7, hil, hg0, g0, hr] | (first | with_reducible refine d166_0_LBooks5 (by with_unfolding_all rfl) (by kernel_rfl) ?_ | refine call_c (c_lotForm _ _ ?_) | refine call_c (c_lotBefore _ _ _ ?_) | fail) <;> try simp only [go_sem, hA, e7, hil, hg0, g0, hr] | with_reducible refine hQ _ _ ?_ <;> simp only [Tryz.f166, go_sem, hA, e7, hil, hg0, g0, hr])
        exact hk
      · have hj : j < xs.length := by omega
        have hgj : xs[j]? = some xs[j] := List.getElem?_eq_getElem hj
        have g1 : decide ((0 : Int) < ((j + 1 : Nat) : Int)) = true := decide_eq_true (by omega)
        have g2 : wrap64 (((j + 1 : Nat) : Int) - 1) = (j : Int) := by unfold wrap64; omega
        rw [rowG_s hi] at hr
        cases hp : lotP xs[j + 1] with
        | false =>
          (try simp only [go_sem, hA, e7, hil, hg0, g1, g2, hgj, hp]); repeat' (first | (with_reducible first | refine c_split ?_ ?_ | refine w_split ?_ ?_ | refine tw_split ?_ ?_) <;> intro hb <;> try simp only [go_sem, hb, hA, e7, hil, hg0, g1, g2, hgj, hp] | (first | with_reducible refine d166_0_LBooks5 (by with_unfolding_all rfl) (by kernel_rfl) ?_ | refine call_c (c_lotForm _ _ ?_) | refine call_c (c_lotBefore _ _ _ ?_) | fail) <;> try simp only [go_sem, hA, e7, hil, hg0, g1, g2, hgj, hp] | with_reducible refine hQ _ _ ?_ <;> simp only [Tryz.f166, go_sem, hA, e7, hil, hg0, g1, g2, hgj, hp])
          exact hk
        | true =>
          rw [hp, Bool.true_and, lotCmp_lt] at hr
          have hge : decide (0 ≤ lotCmp xs[j] xs[j + 1]) = true := decide_eq_true (by have := of_decide_eq_false hr; omega)
          (try simp only [go_sem, hA, e7, hil, hg0, g1, g2, hgj, hp, hge]); repeat' (first | (with_reducible first | refine c_split ?_ ?_ | refine w_split ?_ ?_ | refine tw_split ?_ ?_) <;> intro hb <;> try simp only [go_sem, hb, hA, e7, hil, hg0, g1, g2, hgj, hp, hge] | (first | with_reducible refine d166_0_LBooks5 (by with_unfolding_all rfl) (by kernel_rfl) ?_ | refine call_c (c_lotForm _ _ ?_) | refine call_c (c_lotBefore _ _ _ ?_) | fail) <;> try simp only [go_sem, hA, e7, hil, hg0, g1, g2, hgj, hp, hge] | with_reducible refine hQ _ _ ?_ <;> simp only [Tryz.f166, go_sem, hA, e7, hil, hg0, g1, g2, hgj, hp, hge])
          exact hk
def runL (xs : List Lot) : Nat → List Lot
  | 0 => []
  | j + 1 => match xs[j]? with | some y => ownL (xs.take (j + 1)) y.account y.instr | none => []
theorem run_at (xs : List Lot) (i : Nat) (hi : i < xs.length) : runL xs (i + 1) = ownL (xs.take (i + 1)) xs[i].account xs[i].instr := by simp [runL, hi]
theorem own_s (xs : List Lot) (i : Nat) (hi : i < xs.length) (a n : Int) : ownL (xs.take (i + 1)) a n = ownL (xs.take i) a n ++ (if lotIs a n xs[i] = true then [xs[i]] else []) := by
  rw [ownL, ownL, List.take_succ_eq_append_getElem hi, List.filter_append]
  cases h : lotIs a n xs[i] <;> simp [h]
theorem lotIs_self (x : Lot) : lotIs x.account x.instr x = true := by simp [lotIs]
theorem lotIs_iff {a n : Int} {x : Lot} : lotIs a n x = true ↔ x.account = a ∧ x.instr = n := by simp [lotIs]
theorem run_0 (xs : List Lot) (hi : 0 < xs.length) : runL xs 1 = [xs[0]] := by
  rw [run_at xs 0 hi, own_s xs 0 hi, if_pos (lotIs_self _)]; rfl
theorem run_same {xs : List Lot} {j : Nat} (hi : j + 1 < xs.length) (h1 : xs[j + 1].account = xs[j].account) (h2 : xs[j + 1].instr = xs[j].instr) : runL xs (j + 2) = runL xs (j + 1) ++ [xs[j + 1]] := by
  rw [run_at xs (j + 1) hi, run_at xs j (by omega), own_s xs (j + 1) hi, if_pos (lotIs_self _), h1, h2]
theorem lotLt_tr (x y z : Lot) (h1 : lotLt x y = true) (h2 : lotLt y z = true) : lotLt x z = true := by
  rw [lotLt_iff] at *; omega
theorem rows_lt {xs : List Lot} {n : Nat} (h : allTo (rowG lotP lotLt xs) n = true) : ∀ (d i : Nat) (_ : i + d + 1 < n) (hj : i + d + 1 < xs.length), lotLt (xs[i]'(by omega)) xs[i + d + 1] = true := by
  have adj : ∀ j, j + 1 < n → ∀ (hj : j + 1 < xs.length), lotLt xs[j] xs[j + 1] = true := fun j hn hj => by
    have := allTo_at h (j + 1) hn
    rw [rowG_s hj, Bool.and_eq_true] at this; exact this.2
  intro d
  induction d with
  | zero => exact fun i hn hj => adj i hn hj
  | succ d ih => exact fun i hn hj => lotLt_tr _ _ _ (ih i (by omega) (by omega)) (adj (i + d + 1) hn hj)
theorem run_diff {xs : List Lot} {j : Nat} (hi : j + 1 < xs.length) (h : allTo (rowG lotP lotLt xs) (j + 2) = true) (hne : ¬ (xs[j + 1].account = xs[j].account ∧ xs[j + 1].instr = xs[j].instr)) : runL xs (j + 2) = [xs[j + 1]] := by
  rw [run_at xs (j + 1) hi, own_s xs (j + 1) hi, if_pos (lotIs_self _)]
  have : ownL (xs.take (j + 1)) xs[j + 1].account xs[j + 1].instr = [] := by
    rw [ownL, List.filter_eq_nil_iff]
    intro x hx
    obtain ⟨k, hk, rfl⟩ := List.mem_iff_getElem.1 hx
    rw [List.length_take] at hk
    rw [List.getElem_take, lotIs_iff]
    have hlast : lotLt xs[j] xs[j + 1] = true := rows_lt h 0 j (by omega) hi
    rw [lotLt_iff] at hlast
    by_cases e : k = j
    · subst e; intro q; exact hne ⟨q.1.symm, q.2.symm⟩
    · obtain ⟨d, hd⟩ : ∃ d, j = k + d + 1 := ⟨j - k - 1, by omega⟩
      have h2 := rows_lt h d k (by omega) (by omega)
      rw [lotLt_iff] at h2
      simp only [← hd] at h2
      omega
  rw [this]; rfl
theorem sumQ_app (xs : List Lot) (x : Lot) : sumQ (xs ++ [x]) = sumQ xs + x.qty ∧ sumC (xs ++ [x]) = sumC xs + x.cost := by
  constructor
  · rw [sumQ, sumQ, List.map_append, List.sum_append]; simp
  · rw [sumC, sumC, List.map_append, List.sum_append]; simp
theorem run_mem {xs : List Lot} {i : Nat} {x : Lot} (hx : x ∈ runL xs i) : x ∈ xs.take i := by
  cases i with
  | zero => simp [runL] at hx
  | succ j =>
    simp only [runL] at hx
    split at hx
    · exact (List.mem_filter.1 hx).1
    · simp at hx
theorem run_len (xs : List Lot) (i : Nat) : (runL xs i).length ≤ i := by
  cases i with
  | zero => exact Nat.le_refl _
  | succ j =>
    simp only [runL]
    split
    · exact Nat.le_trans (List.length_filter_le _ _) (by rw [List.length_take]; omega)
    · exact Nat.zero_le _
theorem run_w {xs : List Lot} {i : Nat} (h : allTo (rowG lotP lotLt xs) i = true) (hi : i < xs.length) (hl : xs.length ≤ 120) (hx : lotP xs[i] = true) : wrap64 (sumQ (runL xs i) + xs[i].qty) = sumQ (runL xs i) + xs[i].qty ∧ wrap64 (sumC (runL xs i) + xs[i].cost) = sumC (runL xs i) + xs[i].cost ∧ wrap64 (0 + xs[i].qty) = xs[i].qty ∧ wrap64 (0 + xs[i].cost) = xs[i].cost := by
  have h1 := sums_le (runL xs i) (fun x hx => lotP_fine (rows_fine h (by omega) x (run_mem hx)))
  have h2 := lotP_fine hx
  have h3 := run_len xs i
  refine ⟨wrap_id _ (by omega) (by omega), wrap_id _ (by omega) (by omega), ?_, ?_⟩
  · rw [Int.zero_add]; exact wrap_id _ (by omega) (by omega)
  · rw [Int.zero_add]; exact wrap_id _ (by omega) (by omega)
def grpOk (xs : List Lot) (i : Nat) : Prop := ∀ j (hj : j < xs.length), j < i → amtOk (sumQ (ownL (xs.take i) xs[j].account xs[j].instr)) = true ∧ amtOk (sumC (ownL (xs.take i) xs[j].account xs[j].instr)) = true
theorem grp_s {xs : List Lot} {i : Nat} (hi : i < xs.length) (h : grpOk xs i) (h1 : amtOk (sumQ (runL xs (i + 1))) = true) (h2 : amtOk (sumC (runL xs (i + 1))) = true) : grpOk xs (i + 1) := by
  intro j hj hji
  by_cases e : lotIs xs[j].account xs[j].instr xs[i] = true
  · have := lotIs_iff.1 e
    rw [run_at xs i hi, this.1, this.2] at h1 h2
    exact ⟨h1, h2⟩
  · have hne : j ≠ i := fun q => by subst q; exact e (lotIs_self _)
    rw [own_s xs i hi, if_neg e, List.append_nil]
    exact h j hj (by omega)
theorem sums_sub {xs ys : List Lot} (hs : List.Sublist xs ys) (hf : ∀ x ∈ ys, (0 ≤ x.qty ∧ x.qty ≤ 1000000000000000) ∧ 0 ≤ x.cost ∧ x.cost ≤ 1000000000000000) : sumQ xs ≤ sumQ ys ∧ sumC xs ≤ sumC ys := by
  induction hs with
  | slnil => exact ⟨Int.le_refl _, Int.le_refl _⟩
  | cons a _ ih =>
    have h1 := ih (fun x hx => hf x (List.mem_cons_of_mem _ hx))
    have h2 := hf a (List.mem_cons_self ..)
    simp only [sumQ, sumC, List.map_cons, List.sum_cons] at *
    omega
  | cons_cons a _ ih =>
    have h1 := ih (fun x hx => hf x (List.mem_cons_of_mem _ hx))
    simp only [sumQ, sumC, List.map_cons, List.sum_cons] at *
    omega
theorem lots_bad {xs : List Lot} {i : Nat} (hi : i < xs.length) (h : ¬ (amtOk (sumQ (runL xs (i + 1))) = true ∧ amtOk (sumC (runL xs (i + 1))) = true)) : lotsOk xs = false := by
  cases hok : okL lotP lotLt 120 xs with
  | false => rw [lotsOk, hok, Bool.false_and]
  | true =>
    have hf := okL_fine hok
    have hb : badLot xs xs[i] = true := by
      rw [run_at xs i hi] at h
      have hsub : List.Sublist (ownL (xs.take (i + 1)) xs[i].account xs[i].instr) (ownL xs xs[i].account xs[i].instr) := (List.take_sublist _ _).filter _
      have h1 := sums_sub hsub (fun x hx => hf.1 x (List.mem_filter.1 hx).1)
      have h2 := sums_le (ownL (xs.take (i + 1)) xs[i].account xs[i].instr) (fun x hx => hf.1 x (List.mem_of_mem_take (List.mem_filter.1 hx).1))
      cases hbb : badLot xs xs[i] with
      | true => rfl
      | false =>
        exfalso
        apply h
        simp only [badLot, Bool.or_eq_false_iff, Bool.not_eq_false'] at hbb
        have a1 : _ ∧ _ := of_decide_eq_true hbb.1
        have a2 : _ ∧ _ := of_decide_eq_true hbb.2
        exact ⟨decide_eq_true (by omega), decide_eq_true (by omega)⟩
    rw [lotsOk, decide_eq_true (findG_hit (List.getElem_mem hi) hb)]; simp
theorem lots_good {xs : List Lot} (h1 : okL lotP lotLt 120 xs = true) (h : grpOk xs xs.length) : lotsOk xs = true := by
  have : findG (badLot xs) xs = -1 := findG_none fun j hj => by
    have := h j hj hj
    rw [List.take_length] at this
    rw [badLot, this.1, this.2]; rfl
  rw [lotsOk, h1, this]; rfl
theorem c_spec_LotsOk (xs : List Lot) (hn : xs.length ≤ 1000000000) (K : AV → AH → Prop) (hk : K (.one (.c (.bool (lotsOk xs)))) []) : ACalls Tryz.prog 144 [(.one (.im (xs.map lotC)))] [] K := by
  refine acall_c Tryz.f144.results.toList mixed Tryz.func144 rfl rfl (by kernel_rfl) ?_
  intro Q hQ hQO
  simp only [go_sem]
  (try simp only [go_sem]); repeat' (first | (with_reducible first | refine c_split ?_ ?_ | refine w_split ?_ ?_ | refine tw_split ?_ ?_) <;> intro hb <;> try simp only [go_sem, hb] | (first | with_reducible refine d144_0_LBooks5 (by with_unfolding_all rfl) (by kernel_rfl) ?_ | with_reducible refine d144_1_LBooks5 (by with_unfolding_all rfl) (by kernel_rfl) ?_ | fail) <;> try simp only [go_sem] | fail)
  · rw [lotsOk, okL_long (of_decide_eq_true hb), Bool.false_and] at hk
    (try simp only [go_sem]); repeat' (first | (with_reducible first | refine c_split ?_ ?_ | refine w_split ?_ ?_ | refine tw_split ?_ ?_) <;> intro hb <;> try simp only [go_sem, hb] | (first | with_reducible refine d144_0_LBooks5 (by with_unfolding_all rfl) (by kernel_rfl) ?_ | with_reducible refine d144_1_LBooks5 (by with_unfolding_all rfl) (by kernel_rfl) ?_ | fail) <;> try simp only [go_sem] | with_reducible refine hQ _ _ ?_ <;> simp only [Tryz.f144, go_sem])
    exact hk
  · have hlen : xs.length ≤ 120 := by have := of_decide_eq_false hb; omega
    refine for_at (xs.length) [0] (fun i f h => f 3 = (.one (.c (.int .i64 (sumQ (runL xs i))))) ∧ f 4 = (.one (.c (.int .i64 (sumC (runL xs i))))) ∧ f 5 = (.one (.c (.int .i64 (i)))) ∧ h = [] ∧ allTo (rowG lotP lotLt xs) i = true ∧ grpOk xs i) (GC.now ?_) ?_
    · simp only [go_sem, nc_0, true_and]
      exact ⟨rfl, rfl, rfl, fun j hj q => absurd q (Nat.not_lt_zero j)⟩
    · rintro i f h J hi hA ⟨e3, e4, e5, rfl, hP⟩ hJ
      simp only [go_sem] at hA
      simp only [go_sem, hA, e3, e4, e5]
      refine c_split (fun hb => ?_) (fun hb => ?_)
      rotate_left
      · simp only [go_sem, hb, hA, e3, e4, e5]
        obtain rfl := ge_len hb hi
        rw [lots_good (by rw [okL, hP.1, decide_eq_true (by omega)]; rfl) hP.2] at hk
        (try simp only [go_sem, hA, e3, e4, e5]); repeat' (first | (with_reducible first | refine c_split ?_ ?_ | refine w_split ?_ ?_ | refine tw_split ?_ ?_) <;> intro hb <;> try simp only [go_sem, hb, hA, e3, e4, e5] | (first | with_reducible refine d144_0_LBooks5 (by with_unfolding_all rfl) (by kernel_rfl) ?_ | with_reducible refine d144_1_LBooks5 (by with_unfolding_all rfl) (by kernel_rfl) ?_ | fail) <;> try simp only [go_sem, hA, e3, e4, e5] | with_reducible refine hQ _ _ ?_ <;> simp only [Tryz.f144, go_sem, hA, e3, e4, e5])
        exact hk
      have hi := lt_len hb
      have hw := wrap_nat i (by omega)
      have hil : (i : Int) < ((xs.length : Nat) : Int) := Int.ofNat_lt.2 hi
      have hg0 : (xs)[i]? = some ((xs)[i]) := List.getElem?_eq_getElem (by omega)
      simp only [go_sem, hb, hA, e3, e4, e5, hg0]
      try simp only [go_sem, hA, e3, e4, e5, hil, hg0]
      cases hr : rowG lotP lotLt xs i with
      | true =>
        have hall := allTo_s hP.1 hr
        have bad : ¬ (amtOk (sumQ (runL xs (i + 1))) = true ∧ amtOk (sumC (runL xs (i + 1))) = true) → K (.one (.c (.bool (false)))) [] := fun h => by rw [lots_bad hi h] at hk; exact hk
        rcases i with _ | j
        · have g0 : decide ((0 : Int) < 0) = false := by decide
          have z0 : ((0 : Nat) : Int) = 0 := rfl
          rw [rowG_0 hi] at hr
          obtain ⟨-, -, w3, w4⟩ := run_w (i := 0) rfl hi hlen hr
          have e1 : sumQ (runL xs 1) = xs[0].qty := by rw [run_0 xs hi]; simp [sumQ]
          have e2 : sumC (runL xs 1) = xs[0].cost := by rw [run_0 xs hi]; simp [sumC]
          (try simp only [go_sem, hA, e3, e4, e5, hil, hg0, g0, z0, hr, w3, w4, BEq.rfl]); repeat' (first | (with_reducible first | refine c_split ?_ ?_ | refine w_split ?_ ?_ | refine tw_split ?_ ?_) <;> intro hb <;> try simp only [go_sem, hb, hA, e3, e4, e5, hil, hg0, g0, z0, hr, w3, w4, BEq.rfl] | (first | with_reducible refine d144_0_LBooks5 (by with_unfolding_all rfl) (by kernel_rfl) ?_ | with_reducible refine d144_1_LBooks5 (by with_unfolding_all rfl) (by kernel_rfl) ?_ | refine call_c (c_l5Right _ _ ?_) | refine call_c (c_l5Before _ _ _ ?_) | refine call_c (c_spec_AmountOk _ _ ?_) | fail) <;> try simp only [go_sem, hA, e3, e4, e5, hil, hg0, g0, z0, hr, w3, w4, BEq.rfl] | with_reducible refine hQ _ _ ?_ <;> simp only [Tryz.f144, go_sem, hA, e3, e4, e5, hil, hg0, g0, z0, hr, w3, w4, BEq.rfl])
          · exact bad fun q => by rw [e1] at q; rw [q.1] at hb; cases hb
          · rename_i hb1
            exact bad fun q => by rw [e2] at q; rw [q.2] at hb; cases hb
          · rename_i hb1
            have q1 : amtOk (sumQ (runL xs (1))) = true := by rw [e1]; simpa using hb1
            have q2 : amtOk (sumC (runL xs (1))) = true := by rw [e2]; simpa using hb
            refine gc_trim 0 (by decide) (by simp only [go_sem]) (by simp only [go_sem]) (hJ _ _ hi (by simp only [go_sem, hA, e3, e4, e5]) ⟨?_, ?_, ?_, ?_, ?_⟩) <;> try simp only [go_sem, hA, e3, e4, e5, hw, e1, e2]
            all_goals first | exact ⟨hall, grp_s hi hP.2 q1 q2⟩ | rfl | rw [show wrap64 (0 + 1) = ((1 : Nat) : Int) by unfold wrap64; omega]
        · have hj : j < xs.length := by omega
          have hgj : xs[j]? = some xs[j] := List.getElem?_eq_getElem hj
          have g1 : decide ((0 : Int) < ((j + 1 : Nat) : Int)) = true := decide_eq_true (by omega)
          have g2 : wrap64 (((j + 1 : Nat) : Int) - 1) = (j : Int) := by unfold wrap64; omega
          have g3 : (((j + 1 : Nat) : Int) == 0) = false := beq_false_of_ne (by omega)
          have hr2 := hr
          rw [rowG_s hi, Bool.and_eq_true] at hr2
          obtain ⟨hp, hlt⟩ := hr2
          obtain ⟨w1, w2, w3, w4⟩ := run_w hP.1 hi hlen hp
          by_cases ha : xs[j + 1].account = xs[j].account
          · by_cases hb0 : xs[j + 1].instr = xs[j].instr
            · have k1 : (xs[j + 1].account == xs[j].account) = true := beq_iff_eq.2 ha
              have k2 : (xs[j + 1].instr == xs[j].instr) = true := beq_iff_eq.2 hb0
              have e1 : sumQ (runL xs (j + 1 + 1)) = sumQ (runL xs (j + 1)) + xs[j + 1].qty := by rw [run_same hi ha hb0, (sumQ_app _ _).1]
              have e2 : sumC (runL xs (j + 1 + 1)) = sumC (runL xs (j + 1)) + xs[j + 1].cost := by rw [run_same hi ha hb0, (sumQ_app _ _).2]
              (try simp only [go_sem, hA, e3, e4, e5, hil, hg0, g1, g2, g3, hgj, hp, hlt, k1, k2, w1, w2]); repeat' (first | (with_reducible first | refine c_split ?_ ?_ | refine w_split ?_ ?_ | refine tw_split ?_ ?_) <;> intro hb <;> try simp only [go_sem, hb, hA, e3, e4, e5, hil, hg0, g1, g2, g3, hgj, hp, hlt, k1, k2, w1, w2] | (first | with_reducible refine d144_0_LBooks5 (by with_unfolding_all rfl) (by kernel_rfl) ?_ | with_reducible refine d144_1_LBooks5 (by with_unfolding_all rfl) (by kernel_rfl) ?_ | refine call_c (c_l5Right _ _ ?_) | refine call_c (c_l5Before _ _ _ ?_) | refine call_c (c_spec_AmountOk _ _ ?_) | fail) <;> try simp only [go_sem, hA, e3, e4, e5, hil, hg0, g1, g2, g3, hgj, hp, hlt, k1, k2, w1, w2] | with_reducible refine hQ _ _ ?_ <;> simp only [Tryz.f144, go_sem, hA, e3, e4, e5, hil, hg0, g1, g2, g3, hgj, hp, hlt, k1, k2, w1, w2])
              · exact bad fun q => by rw [e1] at q; rw [q.1] at hb; cases hb
              · rename_i hb1
                exact bad fun q => by rw [e2] at q; rw [q.2] at hb; cases hb
              · rename_i hb1
                have q1 : amtOk (sumQ (runL xs (j + 1 + 1))) = true := by rw [e1]; simpa using hb1
                have q2 : amtOk (sumC (runL xs (j + 1 + 1))) = true := by rw [e2]; simpa using hb
                refine gc_trim 0 (by decide) (by simp only [go_sem]) (by simp only [go_sem]) (hJ _ _ hi (by simp only [go_sem, hA, e3, e4, e5]) ⟨?_, ?_, ?_, ?_, ?_⟩) <;> try simp only [go_sem, hA, e3, e4, e5, hw, e1, e2]
                exact ⟨hall, grp_s hi hP.2 q1 q2⟩
            · have k1 : (xs[j + 1].account == xs[j].account) = true := beq_iff_eq.2 ha
              have k2 : (xs[j + 1].instr == xs[j].instr) = false := beq_false_of_ne hb0
              have e1 : sumQ (runL xs (j + 1 + 1)) = xs[j + 1].qty := by rw [run_diff hi hall (fun q => hb0 q.2)]; simp [sumQ]
              have e2 : sumC (runL xs (j + 1 + 1)) = xs[j + 1].cost := by rw [run_diff hi hall (fun q => hb0 q.2)]; simp [sumC]
              (try simp only [go_sem, hA, e3, e4, e5, hil, hg0, g1, g2, g3, hgj, hp, hlt, k1, k2, w3, w4]); repeat' (first | (with_reducible first | refine c_split ?_ ?_ | refine w_split ?_ ?_ | refine tw_split ?_ ?_) <;> intro hb <;> try simp only [go_sem, hb, hA, e3, e4, e5, hil, hg0, g1, g2, g3, hgj, hp, hlt, k1, k2, w3, w4] | (first | with_reducible refine d144_0_LBooks5 (by with_unfolding_all rfl) (by kernel_rfl) ?_ | with_reducible refine d144_1_LBooks5 (by with_unfolding_all rfl) (by kernel_rfl) ?_ | refine call_c (c_l5Right _ _ ?_) | refine call_c (c_l5Before _ _ _ ?_) | refine call_c (c_spec_AmountOk _ _ ?_) | fail) <;> try simp only [go_sem, hA, e3, e4, e5, hil, hg0, g1, g2, g3, hgj, hp, hlt, k1, k2, w3, w4] | with_reducible refine hQ _ _ ?_ <;> simp only [Tryz.f144, go_sem, hA, e3, e4, e5, hil, hg0, g1, g2, g3, hgj, hp, hlt, k1, k2, w3, w4])
              · exact bad fun q => by rw [e1] at q; rw [q.1] at hb; cases hb
              · rename_i hb1
                exact bad fun q => by rw [e2] at q; rw [q.2] at hb; cases hb
              · rename_i hb1
                have q1 : amtOk (sumQ (runL xs (j + 1 + 1))) = true := by rw [e1]; simpa using hb1
                have q2 : amtOk (sumC (runL xs (j + 1 + 1))) = true := by rw [e2]; simpa using hb
                refine gc_trim 0 (by decide) (by simp only [go_sem]) (by simp only [go_sem]) (hJ _ _ hi (by simp only [go_sem, hA, e3, e4, e5]) ⟨?_, ?_, ?_, ?_, ?_⟩) <;> try simp only [go_sem, hA, e3, e4, e5, hw, e1, e2]
                exact ⟨hall, grp_s hi hP.2 q1 q2⟩
          · have k1 : (xs[j + 1].account == xs[j].account) = false := beq_false_of_ne ha
            have e1 : sumQ (runL xs (j + 1 + 1)) = xs[j + 1].qty := by rw [run_diff hi hall (fun q => ha q.1)]; simp [sumQ]
            have e2 : sumC (runL xs (j + 1 + 1)) = xs[j + 1].cost := by rw [run_diff hi hall (fun q => ha q.1)]; simp [sumC]
            (try simp only [go_sem, hA, e3, e4, e5, hil, hg0, g1, g2, g3, hgj, hp, hlt, k1, w3, w4]); repeat' (first | (with_reducible first | refine c_split ?_ ?_ | refine w_split ?_ ?_ | refine tw_split ?_ ?_) <;> intro hb <;> try simp only [go_sem, hb, hA, e3, e4, e5, hil, hg0, g1, g2, g3, hgj, hp, hlt, k1, w3, w4] | (first | with_reducible refine d144_0_LBooks5 (by with_unfolding_all rfl) (by kernel_rfl) ?_ | with_reducible refine d144_1_LBooks5 (by with_unfolding_all rfl) (by kernel_rfl) ?_ | refine call_c (c_l5Right _ _ ?_) | refine call_c (c_l5Before _ _ _ ?_) | refine call_c (c_spec_AmountOk _ _ ?_) | fail) <;> try simp only [go_sem, hA, e3, e4, e5, hil, hg0, g1, g2, g3, hgj, hp, hlt, k1, w3, w4] | with_reducible refine hQ _ _ ?_ <;> simp only [Tryz.f144, go_sem, hA, e3, e4, e5, hil, hg0, g1, g2, g3, hgj, hp, hlt, k1, w3, w4])
            · exact bad fun q => by rw [e1] at q; rw [q.1] at hb; cases hb
            · rename_i hb1
              exact bad fun q => by rw [e2] at q; rw [q.2] at hb; cases hb
            · rename_i hb1
              have q1 : amtOk (sumQ (runL xs (j + 1 + 1))) = true := by rw [e1]; simpa using hb1
              have q2 : amtOk (sumC (runL xs (j + 1 + 1))) = true := by rw [e2]; simpa using hb
              refine gc_trim 0 (by decide) (by simp only [go_sem]) (by simp only [go_sem]) (hJ _ _ hi (by simp only [go_sem, hA, e3, e4, e5]) ⟨?_, ?_, ?_, ?_, ?_⟩) <;> try simp only [go_sem, hA, e3, e4, e5, hw, e1, e2]
              exact ⟨hall, grp_s hi hP.2 q1 q2⟩
      | false =>
        rw [lotsOk, okL_no hr hi, Bool.false_and] at hk
        rcases i with _ | j
        · have g0 : decide ((0 : Int) < ((0 : Nat) : Int)) = false := by decide
          rw [rowG_0 hi] at hr
          (try simp only [go_sem, hA, e3, e4, e5, hil, hg0, g0, hr]); repeat' (first | (with_reducible first | refine c_split ?_ ?_ | refine w_split ?_ ?_ | refine tw_split ?_ ?_) <;> intro hb <;> try simp only [go_sem, hb, hA, e3, e4, e5, hil, hg0, g0, hr] | (first | with_reducible refine d144_0_LBooks5 (by with_unfolding_all rfl) (by kernel_rfl) ?_ | with_reducible refine d144_1_LBooks5 (by with_unfolding_all rfl) (by kernel_rfl) ?_ | refine call_c (c_l5Right _ _ ?_) | refine call_c (c_l5Before _ _ _ ?_) | fail) <;> try simp only [go_sem, hA, e3, e4, e5, hil, hg0, g0, hr] | with_reducible refine hQ _ _ ?_ <;> simp only [Tryz.f144, go_sem, hA, e3, e4, e5, hil, hg0, g0, hr])
          exact hk
        · have hj : j < xs.length := by omega
          have hgj : xs[j]? = some xs[j] := List.getElem?_eq_getElem hj
          have g1 : decide ((0 : Int) < ((j + 1 : Nat) : Int)) = true := decide_eq_true (by omega)
          have g2 : wrap64 (((j + 1 : Nat) : Int) - 1) = (j : Int) := by unfold wrap64; omega
          rw [rowG_s hi] at hr
          cases hp : lotP xs[j + 1] with
          | false =>
            (try simp only [go_sem, hA, e3, e4, e5, hil, hg0, g1, g2, hgj, hp]); repeat' (first | (with_reducible first | refine c_split ?_ ?_ | refine w_split ?_ ?_ | refine tw_split ?_ ?_) <;> intro hb <;> try simp only [go_sem, hb, hA, e3, e4, e5, hil, hg0, g1, g2, hgj, hp] | (first | with_reducible refine d144_0_LBooks5 (by with_unfolding_all rfl) (by kernel_rfl) ?_ | with_reducible refine d144_1_LBooks5 (by with_unfolding_all rfl) (by kernel_rfl) ?_ | refine call_c (c_l5Right _ _ ?_) | refine call_c (c_l5Before _ _ _ ?_) | fail) <;> try simp only [go_sem, hA, e3, e4, e5, hil, hg0, g1, g2, hgj, hp] | with_reducible refine hQ _ _ ?_ <;> simp only [Tryz.f144, go_sem, hA, e3, e4, e5, hil, hg0, g1, g2, hgj, hp])
            exact hk
          | true =>
            rw [hp, Bool.true_and] at hr
            (try simp only [go_sem, hA, e3, e4, e5, hil, hg0, g1, g2, hgj, hp, hr]); repeat' (first | (with_reducible first | refine c_split ?_ ?_ | refine w_split ?_ ?_ | refine tw_split ?_ ?_) <;> intro hb <;> try simp only [go_sem, hb, hA, e3, e4, e5, hil, hg0, g1, g2, hgj, hp, hr] | (first | with_reducible refine d144_0_LBooks5 (by with_unfolding_all rfl) (by kernel_rfl) ?_ | with_reducible refine d144_1_LBooks5 (by with_unfolding_all rfl) (by kernel_rfl) ?_ | refine call_c (c_l5Right _ _ ?_) | refine call_c (c_l5Before _ _ _ ?_) | fail) <;> try simp only [go_sem, hA, e3, e4, e5, hil, hg0, g1, g2, hgj, hp, hr] | with_reducible refine hQ _ _ ?_ <;> simp only [Tryz.f144, go_sem, hA, e3, e4, e5, hil, hg0, g1, g2, hgj, hp, hr])
            exact hk
end Go.Proofs.YtkndmncgohmjmaaGreat
end
section
namespace Go.Proofs.YtkndmncgohmjmaaGreat
open Go.BL Go.RowKit
set_option linter.unusedVariables false
set_option linter.unusedSimpArgs false
set_option maxRecDepth 100000
attribute [local go_sem] accountC balC lotC tradeC booksC
def brP (b : Books) (x : Bal) : Bool := !(kindOf b.accounts x.account == 0) && !(kindOf b.instrs x.instr == 0) && !((kindOf b.accounts x.account == 1) && decide (x.amount < 0)) && (sumB b.bals x.instr == 0)
def lrP (b : Books) (x : Lot) : Bool := (kindOf b.accounts x.account == 1) && (kindOf b.instrs x.instr == 2) && !decide (b.lot < x.no)
def pairP (b : Books) (a x : Account) : Bool := !((a.kind == 1) && (x.kind == 2)) || (sumQ (ownL b.lots a.no x.no) == balV b.bals a.no x.no)
def trdP (b : Books) (t : Trade) : Bool := (kindOf b.accounts t.buyer == 1) && (kindOf b.accounts t.seller == 1) && (kindOf b.instrs t.paper == 2) && (kindOf b.instrs t.cash == 1)
def lotsR (b : Books) : Bool := b.lots.all (lrP b) && b.accounts.all fun a => b.instrs.all (pairP b a)
def listsOk (b : Books) : Bool := accountsOk b.accounts && instrsOk b.instrs && balsOk b.bals && lotsOk b.lots && tradesOk b.trades && decide (0 ≤ b.lot ∧ b.lot ≤ 1000000000)
def booksOk (b : Books) : Bool := listsOk b && b.bals.all (brP b) && lotsR b && b.trades.all (trdP b)
structure Small (b : Books) : Prop where
  ha : b.accounts.length ≤ 1000000000
  hi : b.instrs.length ≤ 1000000000
  hb : b.bals.length ≤ 1000000000
  hl : b.lots.length ≤ 1000000000
  ht : b.trades.length ≤ 1000000000
structure Large (b : Books) : Prop where
  ha : b.accounts.length ≤ 1000000000000000
  hi : b.instrs.length ≤ 1000000000000000
  hb : b.bals.length ≤ 1000000000000000
  hl : b.lots.length ≤ 1000000000000000
  ht : b.trades.length ≤ 1000000000000000
theorem all_no {α : Type} {p : α → Bool} {xs : List α} (h : noneTo (fun x => !p x) xs xs.length) : xs.all p = true := by
  rw [List.all_eq_true]
  intro x hx
  obtain ⟨i, hi, rfl⟩ := List.mem_iff_getElem.1 hx
  simpa using h i hi hi
theorem all_bad {α : Type} {p : α → Bool} {xs : List α} {i : Nat} (hi : i < xs.length) (h : p xs[i] = false) : xs.all p = false := by
  cases ha : xs.all p with
  | false => rfl
  | true => rw [(List.all_eq_true.1 ha) _ (List.getElem_mem hi)] at h; cases h
theorem not_ff {b : Bool} (h : b = true) : (!b) = false := by rw [h]; rfl
theorem c_balsRight (b : Books) (hs : Small b) (hok : balsOk b.bals = true) (K : AV → AH → Prop) (hk : K (.one (.c (.bool (b.bals.all (brP b))))) []) : ACalls Tryz.prog 168 [.agg (booksC b)] [] K := by
  have hsb := hs.hb
  refine acall_c Tryz.f168.results.toList mixed Tryz.func168 rfl rfl (by kernel_rfl) ?_
  intro Q hQ hQO
  simp only [go_sem]
  refine for_at (b.bals.length) [1, 7, 8] (fun i f h => f 9 = (.one (.c (.int .i64 (i)))) ∧ h = [.own 0 33 6 (some 1) [booksC b]] ∧ noneTo (fun x => !brP b x) b.bals i) (GC.now ?_) ?_
  · simp only [go_sem, nc_0, true_and]
    exact noneTo_0 _ _
  · rintro i f h J hi hA ⟨e9, rfl, hP⟩ hJ
    simp only [go_sem] at hA
    simp only [go_sem, hA, e9]
    refine c_split (fun hb => ?_) (fun hb => ?_)
    rotate_left
    · simp only [go_sem, hb, hA, e9]
      obtain rfl := ge_len hb hi
      (try simp only [go_sem, hA, e9]); repeat' (first | (with_reducible first | refine c_split ?_ ?_ | refine w_split ?_ ?_) <;> intro hb <;> try simp only [go_sem, hb, hA, e9] | with_reducible refine hQ _ _ ?_ <;> simp only [Tryz.f168, go_sem, hA, e9])
      rw [all_no hP] at hk
      exact hk
    have hi := lt_len hb
    have hw := wrap_nat i (by omega)
    have hil : (i : Int) < ((b.bals.length : Nat) : Int) := Int.ofNat_lt.2 hi
    have hg0 : (b.bals)[i]? = some ((b.bals)[i]) := List.getElem?_eq_getElem (by omega)
    simp only [go_sem, hb, hA, e9, hg0]
    try simp only [go_sem, hA, e9, hil, hg0]
    cases hr : brP b b.bals[i] with
    | true =>
      have hbr := hr
      simp only [brP, Bool.and_eq_true] at hr
      obtain ⟨⟨⟨f1, f2⟩, f3⟩, f4⟩ := hr
      have f1 := not_tt f1
      have f2 := not_tt f2
      have f3 := not_tt f3
      cases h1 : (kindOf b.accounts b.bals[i].account == 1) with
      | true =>
        rw [h1, Bool.true_and] at f3
        (try simp only [go_sem, hA, e9, hil, hg0, f1, f2, f3, f4, h1]); repeat' (first | (with_reducible first | refine c_split ?_ ?_ | refine w_split ?_ ?_) <;> intro hb <;> try simp only [go_sem, hb, hA, e9, hil, hg0, f1, f2, f3, f4, h1] | (first | refine call_c (c_accountKind _ _ hs.ha _ ?_) | refine call_c (c_instrKind _ _ hs.hi _ ?_) | refine call_c (c_balsSum _ _ hs.hb hok _ ?_) | fail) <;> try simp only [go_sem, hA, e9, hil, hg0, f1, f2, f3, f4, h1] | fail)
        refine gc_trim 1 (by decide) (by simp only [go_sem]) (by simp only [go_sem]) (hJ _ _ hi (by simp only [go_sem, hA, e9]) ⟨?_, ?_, ?_⟩) <;> try simp only [go_sem, hA, e9, hw]
        exact noneTo_s hP hi (not_ff hbr)
      | false =>
        (try simp only [go_sem, hA, e9, hil, hg0, f1, f2, f4, h1]); repeat' (first | (with_reducible first | refine c_split ?_ ?_ | refine w_split ?_ ?_) <;> intro hb <;> try simp only [go_sem, hb, hA, e9, hil, hg0, f1, f2, f4, h1] | (first | refine call_c (c_accountKind _ _ hs.ha _ ?_) | refine call_c (c_instrKind _ _ hs.hi _ ?_) | refine call_c (c_balsSum _ _ hs.hb hok _ ?_) | fail) <;> try simp only [go_sem, hA, e9, hil, hg0, f1, f2, f4, h1] | fail)
        refine gc_trim 1 (by decide) (by simp only [go_sem]) (by simp only [go_sem]) (hJ _ _ hi (by simp only [go_sem, hA, e9]) ⟨?_, ?_, ?_⟩) <;> try simp only [go_sem, hA, e9, hw]
        exact noneTo_s hP hi (not_ff hbr)
    | false =>
      rw [all_bad hi hr] at hk
      (try simp only [go_sem, hA, e9, hil, hg0]); repeat' (first | (with_reducible first | refine c_split ?_ ?_ | refine w_split ?_ ?_) <;> intro hb <;> try simp only [go_sem, hb, hA, e9, hil, hg0] | (first | refine call_c (c_accountKind _ _ hs.ha _ ?_) | refine call_c (c_instrKind _ _ hs.hi _ ?_) | refine call_c (c_balsSum _ _ hs.hb hok _ ?_) | fail) <;> try simp only [go_sem, hA, e9, hil, hg0] | with_reducible refine hQ _ _ ?_ <;> simp only [Tryz.f168, go_sem, hA, e9, hil, hg0])
      all_goals first | exact hk | exact (Bool.eq_false_iff.1 hr (by clear hr hJ hA hQ hQO; simp only [brP]; simp_all <;> omega)).elim
theorem c_l6Bals (b : Books) (hs : Small b) (ha : accountsOk b.accounts = true) (hi0 : instrsOk b.instrs = true) (hok : balsOk b.bals = true) (K : AV → AH → Prop) (hk : K (.one (.c (.bool (b.bals.all (brP b))))) []) : ACalls Tryz.prog 154 [.agg (booksC b)] [] K := by
  have hsb := hs.hb
  refine acall_c Tryz.f154.results.toList mixed Tryz.func154 rfl rfl (by kernel_rfl) ?_
  intro Q hQ hQO
  simp only [go_sem]
  refine for_at (b.bals.length) [1] (fun i f h => f 3 = (.one (.c (.int .i64 (i)))) ∧ h = [.own 0 33 6 (some 1) [booksC b]] ∧ noneTo (fun x => !brP b x) b.bals i) (GC.now ?_) ?_
  · simp only [go_sem, nc_0, true_and]
    exact noneTo_0 _ _
  · rintro i f h J hi hA ⟨e3, rfl, hP⟩ hJ
    simp only [go_sem] at hA
    simp only [go_sem, hA, e3]
    refine c_split (fun hb => ?_) (fun hb => ?_)
    rotate_left
    · simp only [go_sem, hb, hA, e3]
      obtain rfl := ge_len hb hi
      (try simp only [go_sem, hA, e3]); repeat' (first | (with_reducible first | refine c_split ?_ ?_ | refine w_split ?_ ?_) <;> intro hb <;> try simp only [go_sem, hb, hA, e3] | with_reducible refine hQ _ _ ?_ <;> simp only [Tryz.f154, go_sem, hA, e3])
      rw [all_no hP] at hk
      exact hk
    have hi := lt_len hb
    have hw := wrap_nat i (by omega)
    have hil : (i : Int) < ((b.bals.length : Nat) : Int) := Int.ofNat_lt.2 hi
    have hg0 : (b.bals)[i]? = some ((b.bals)[i]) := List.getElem?_eq_getElem (by omega)
    simp only [go_sem, hb, hA, e3, hg0]
    try simp only [go_sem, hA, e3, hil, hg0]
    have hsum : ∀ s : Int, amtOk s = false → s ≠ 0 := fun s h q => by subst q; simp [amtOk] at h
    cases hr : brP b b.bals[i] with
    | true =>
      have hbr := hr
      simp only [brP, Bool.and_eq_true] at hr
      obtain ⟨⟨⟨f1, f2⟩, f3⟩, f4⟩ := hr
      have f1 := not_tt f1
      have f2 := not_tt f2
      have f3 := not_tt f3
      have f5 : sumB b.bals b.bals[i].instr = 0 := eq_of_beq f4
      have f6 : amtOk 0 = true := rfl
      cases h1 : (kindOf b.accounts b.bals[i].account == 1) with
      | true =>
        rw [h1, Bool.true_and] at f3
        (try simp only [go_sem, hA, e3, hil, hg0, f1, f2, f3, f5, f6, h1, if_true, BEq.rfl]); repeat' (first | (with_reducible first | refine c_split ?_ ?_ | refine w_split ?_ ?_) <;> intro hb <;> try simp only [go_sem, hb, hA, e3, hil, hg0, f1, f2, f3, f5, f6, h1, if_true, BEq.rfl] | (first | refine call_c (c_AccountKind _ _ hs.ha ha _ ?_) | refine call_c (c_InstrKind _ _ hs.hi hi0 _ ?_) | refine call_c (c_BalsSum _ _ hs.hb hok _ ?_) | fail) <;> try simp only [go_sem, hA, e3, hil, hg0, f1, f2, f3, f5, f6, h1, if_true, BEq.rfl] | fail)
        refine gc_trim 1 (by decide) (by simp only [go_sem]) (by simp only [go_sem]) (hJ _ _ hi (by simp only [go_sem, hA, e3]) ⟨?_, ?_, ?_⟩) <;> try simp only [go_sem, hA, e3, hw]
        exact noneTo_s hP hi (not_ff hbr)
      | false =>
        (try simp only [go_sem, hA, e3, hil, hg0, f1, f2, f5, f6, h1, if_true, BEq.rfl]); repeat' (first | (with_reducible first | refine c_split ?_ ?_ | refine w_split ?_ ?_) <;> intro hb <;> try simp only [go_sem, hb, hA, e3, hil, hg0, f1, f2, f5, f6, h1, if_true, BEq.rfl] | (first | refine call_c (c_AccountKind _ _ hs.ha ha _ ?_) | refine call_c (c_InstrKind _ _ hs.hi hi0 _ ?_) | refine call_c (c_BalsSum _ _ hs.hb hok _ ?_) | fail) <;> try simp only [go_sem, hA, e3, hil, hg0, f1, f2, f5, f6, h1, if_true, BEq.rfl] | fail)
        refine gc_trim 1 (by decide) (by simp only [go_sem]) (by simp only [go_sem]) (hJ _ _ hi (by simp only [go_sem, hA, e3]) ⟨?_, ?_, ?_⟩) <;> try simp only [go_sem, hA, e3, hw]
        exact noneTo_s hP hi (not_ff hbr)
    | false =>
      rw [all_bad hi hr] at hk
      (try simp only [go_sem, hA, e3, hil, hg0]); repeat' (first | (with_reducible first | refine c_split ?_ ?_ | refine w_split ?_ ?_) <;> intro hb <;> try simp only [go_sem, hb, hA, e3, hil, hg0] | (first | refine call_c (c_AccountKind _ _ hs.ha ha _ ?_) | refine call_c (c_InstrKind _ _ hs.hi hi0 _ ?_) | refine call_c (c_BalsSum _ _ hs.hb hok _ ?_) | fail) <;> try simp only [go_sem, hA, e3, hil, hg0] | with_reducible refine hQ _ _ ?_ <;> simp only [Tryz.f154, go_sem, hA, e3, hil, hg0])
      all_goals first | exact hk | exact (Bool.eq_false_iff.1 hr (by clear hr hJ hA hQ hQO; simp only [brP]; simp_all <;> omega)).elim
end Go.Proofs.YtkndmncgohmjmaaGreat
end
section
namespace Go.Proofs.YtkndmncgohmjmaaGreat
open Go.BL Go.RowKit
set_option linter.unusedVariables false
set_option linter.unusedSimpArgs false
set_option maxRecDepth 100000
theorem d155_0_LBooks7 : DrawL Tryz.prog 0 73 (.on [(0, true, true), (1, true, true), (2, true, false), (3, true, false), (4, true, false), (5, true, false), (6, true, false), (7, true, false), (8, true, false), (9, true, false), (10, false, false), (11, false, false), (12, false, false), (13, false, false), (14, false, false), (15, false, false), (16, true, false), (17, true, false), (18, false, true), (19, false, true)] .nil) := draw_L
theorem d155_1_LBooks7 : DrawL Tryz.prog 0 90 (.on [(0, true, true), (2, true, true), (3, true, true), (4, true, false), (5, true, false), (6, true, false), (7, true, false), (8, true, false), (9, true, false), (10, true, false), (11, true, false), (12, true, false), (13, true, false), (14, true, false), (15, true, false), (1, false, false), (16, false, false), (17, false, false)] .nil) := draw_L
attribute [local go_sem] accountC balC lotC tradeC booksC
theorem c_lotsRight (b : Books) (hs : Small b) (hok : balsOk b.bals = true) (hf : Fine b.lots) (K : AV → AH → Prop) (hk : K (.one (.c (.bool (lotsR b)))) []) : ACalls Tryz.prog 169 [.agg (booksC b)] [] K := by
  have hsl := hs.hl
  have hsa := hs.ha
  have hsi := hs.hi
  refine acall_c Tryz.f169.results.toList mixed Tryz.func169 rfl rfl (by kernel_rfl) ?_
  intro Q hQ hQO
  simp only [go_sem]
  refine for_at (b.lots.length) [1, 12, 13] (fun i f h => f 14 = (.one (.c (.int .i64 (i)))) ∧ h = [.own 0 33 6 (some 1) [booksC b]] ∧ noneTo (fun x => !lrP b x) b.lots i) (GC.now ?_) ?_
  · simp only [go_sem, nc_0, true_and]
    exact noneTo_0 _ _
  · rintro i f h J hi hA ⟨e14, rfl, hP⟩ hJ
    simp only [go_sem] at hA
    simp only [go_sem, hA, e14]
    refine c_split (fun hb => ?_) (fun hb => ?_)
    rotate_left
    · simp only [go_sem, hb, hA, e14]
      obtain rfl := ge_len hb hi
      rw [lotsR, all_no hP, Bool.true_and] at hk
      (try simp only [go_sem, hA, e14]); repeat' (first | (with_reducible first | refine c_split ?_ ?_ | refine w_split ?_ ?_) <;> intro hb <;> try simp only [go_sem, hb, hA, e14] | fail)
      have hA0 := hA
      clear hJ
      refine for_at (b.accounts.length) [1, 41, 42] (fun i f h => f 43 = (.one (.c (.int .i64 (i)))) ∧ h = [.own 0 33 6 (some 1) [booksC b]] ∧ noneTo (fun a => !b.instrs.all (pairP b a)) b.accounts i) (GC.now ?_) ?_
      · simp only [go_sem, nc_0, true_and, hA0]
        exact noneTo_0 _ _
      · rintro i f h J hi hA ⟨e43, rfl, hP⟩ hJ
        simp only [go_sem, hA0] at hA
        simp only [go_sem, hA, e43, hA0]
        refine c_split (fun hb => ?_) (fun hb => ?_)
        rotate_left
        · simp only [go_sem, hb, hA, e43, hA0]
          obtain rfl := ge_len hb hi
          (try simp only [go_sem, hA, e43, hA0]); repeat' (first | (with_reducible first | refine c_split ?_ ?_ | refine w_split ?_ ?_) <;> intro hb <;> try simp only [go_sem, hb, hA, e43, hA0] | with_reducible refine hQ _ _ ?_ <;> simp only [Tryz.f169, go_sem, hA, e43, hA0])
          rw [all_no hP] at hk
          exact hk
        have hi := lt_len hb
        have hw := wrap_nat i (by omega)
        have hil : (i : Int) < ((b.accounts.length : Nat) : Int) := Int.ofNat_lt.2 hi
        have hg0 : (b.accounts)[i]? = some ((b.accounts)[i]) := List.getElem?_eq_getElem (by omega)
        simp only [go_sem, hb, hA, e43, hA0, hg0]
        try simp only [go_sem, hA, e43, hA0, hil, hg0]
        (try simp only [go_sem, hA, e43, hA0, hil, hg0]); repeat' (first | (with_reducible first | refine c_split ?_ ?_ | refine w_split ?_ ?_) <;> intro hb <;> try simp only [go_sem, hb, hA, e43, hA0, hil, hg0] | fail)
        have hA1 := hA
        have hP1 := hP
        have hi1 := hi
        have hw1 := hw
        have hJ1 := hJ
        generalize hac : b.accounts[i] = ac at *
        refine for_at (b.instrs.length) [1, 6, 41, 42, 43, 48, 49] (fun i f h => f 50 = (.one (.c (.int .i64 (i)))) ∧ h = [.own 0 33 6 (some 1) [booksC b], .own 0 104 2 (some 1) [accountC ac]] ∧ noneTo (fun x => !pairP b ac x) b.instrs i) (GC.now ?_) ?_
        · simp only [go_sem, nc_0, true_and, hA1, e43]
          exact noneTo_0 _ _
        · rintro i f h J hi hA ⟨e50, rfl, hP⟩ hJ
          simp only [go_sem, hA1, e43] at hA
          simp only [go_sem, hA, e50, hA1, e43]
          refine c_split (fun hb => ?_) (fun hb => ?_)
          rotate_left
          · simp only [go_sem, hb, hA, e50, hA1, e43]
            obtain rfl := ge_len hb hi
            refine gc_trim 1 (by decide) (by simp only [go_sem]) (by simp only [go_sem]) (hJ1 _ _ hi1 (by simp only [go_sem, hA, hA1, hA0, e43]) ⟨?_, ?_, ?_⟩) <;> try simp only [go_sem, hA, hA1, hA0, e43, hw1]
            exact noneTo_s hP1 hi1 (by rw [hac]; exact not_ff (all_no hP))
          have hi := lt_len hb
          have hw := wrap_nat i (by omega)
          have hil : (i : Int) < ((b.instrs.length : Nat) : Int) := Int.ofNat_lt.2 hi
          have hg0 : (b.instrs)[i]? = some ((b.instrs)[i]) := List.getElem?_eq_getElem (by omega)
          simp only [go_sem, hb, hA, e50, hA1, e43, hg0]
          try simp only [go_sem, hA, e50, hA1, e43, hil, hg0]
          cases k1 : (ac.kind == 1) with
          | false =>
            (try simp only [go_sem, hA, e50, hA1, e43, hil, hg0, k1]); repeat' (first | (with_reducible first | refine c_split ?_ ?_ | refine w_split ?_ ?_) <;> intro hb <;> try simp only [go_sem, hb, hA, e50, hA1, e43, hil, hg0, k1] | fail)
            refine gc_trim 2 (by decide) (by simp only [go_sem]) (by simp only [go_sem]) (hJ _ _ hi (by simp only [go_sem, hA, e50, hA1, e43]) ⟨?_, ?_, ?_⟩) <;> try simp only [go_sem, hA, e50, hA1, e43, hw]
            exact noneTo_s hP hi (by rw [pairP, k1]; rfl)
          | true =>
            cases k2 : (b.instrs[i].kind == 2) with
            | false =>
              (try simp only [go_sem, hA, e50, hA1, e43, hil, hg0, k1, k2]); repeat' (first | (with_reducible first | refine c_split ?_ ?_ | refine w_split ?_ ?_) <;> intro hb <;> try simp only [go_sem, hb, hA, e50, hA1, e43, hil, hg0, k1, k2] | fail)
              refine gc_trim 2 (by decide) (by simp only [go_sem]) (by simp only [go_sem]) (hJ _ _ hi (by simp only [go_sem, hA, e50, hA1, e43]) ⟨?_, ?_, ?_⟩) <;> try simp only [go_sem, hA, e50, hA1, e43, hw]
              exact noneTo_s hP hi (by rw [pairP, k1, k2]; rfl)
            | true =>
              cases k3 : (sumQ (ownL b.lots ac.no b.instrs[i].no) == balV b.bals ac.no b.instrs[i].no) with
              | true =>
                (try simp only [go_sem, hA, e50, hA1, e43, hil, hg0, k1, k2, k3]); repeat' (first | (with_reducible first | refine c_split ?_ ?_ | refine w_split ?_ ?_) <;> intro hb <;> try simp only [go_sem, hb, hA, e50, hA1, e43, hil, hg0, k1, k2, k3] | (first | refine call_c (c_lotsOf b.lots _ _ hsl _ ?_) | refine call_c (c_sumLots _ (hf.own _ _) _ ?_) | refine call_c (c_balOf b.bals _ _ hs.hb hok _ ?_) | fail) <;> try simp only [go_sem, hA, e50, hA1, e43, hil, hg0, k1, k2, k3] | fail)
                refine gc_trim 2 (by decide) (by simp only [go_sem]) (by simp only [go_sem]) (hJ _ _ hi (by simp only [go_sem, hA, e50, hA1, e43]) ⟨?_, ?_, ?_⟩) <;> try simp only [go_sem, hA, e50, hA1, e43, hw]
                exact noneTo_s hP hi (by rw [pairP, k1, k2, k3]; rfl)
              | false =>
                rw [all_bad hi1 (by rw [hac]; exact all_bad hi (by rw [pairP, k1, k2, k3]; rfl))] at hk
                (try simp only [go_sem, hA, e50, hA1, e43, hil, hg0, k1, k2, k3]); repeat' (first | (with_reducible first | refine c_split ?_ ?_ | refine w_split ?_ ?_) <;> intro hb <;> try simp only [go_sem, hb, hA, e50, hA1, e43, hil, hg0, k1, k2, k3] | (first | refine call_c (c_lotsOf b.lots _ _ hsl _ ?_) | refine call_c (c_sumLots _ (hf.own _ _) _ ?_) | refine call_c (c_balOf b.bals _ _ hs.hb hok _ ?_) | fail) <;> try simp only [go_sem, hA, e50, hA1, e43, hil, hg0, k1, k2, k3] | with_reducible refine hQ _ _ ?_ <;> simp only [Tryz.f169, go_sem, hA, e50, hA1, e43, hil, hg0, k1, k2, k3])
                exact hk
    have hi := lt_len hb
    have hw := wrap_nat i (by omega)
    have hil : (i : Int) < ((b.lots.length : Nat) : Int) := Int.ofNat_lt.2 hi
    have hg0 : (b.lots)[i]? = some ((b.lots)[i]) := List.getElem?_eq_getElem (by omega)
    simp only [go_sem, hb, hA, e14, hg0]
    try simp only [go_sem, hA, e14, hil, hg0]
    cases hr : lrP b b.lots[i] with
    | true =>
      have hlr := hr
      simp only [lrP, Bool.and_eq_true] at hr
      obtain ⟨⟨f1, f2⟩, f3⟩ := hr
      have f3 := not_tt f3
      (try simp only [go_sem, hA, e14, hil, hg0, f1, f2, f3]); repeat' (first | (with_reducible first | refine c_split ?_ ?_ | refine w_split ?_ ?_) <;> intro hb <;> try simp only [go_sem, hb, hA, e14, hil, hg0, f1, f2, f3] | (first | refine call_c (c_accountKind _ _ hs.ha _ ?_) | refine call_c (c_instrKind _ _ hs.hi _ ?_) | fail) <;> try simp only [go_sem, hA, e14, hil, hg0, f1, f2, f3] | fail)
      refine gc_trim 1 (by decide) (by simp only [go_sem]) (by simp only [go_sem]) (hJ _ _ hi (by simp only [go_sem, hA, e14]) ⟨?_, ?_, ?_⟩) <;> try simp only [go_sem, hA, e14, hw]
      exact noneTo_s hP hi (not_ff hlr)
    | false =>
      rw [lotsR, all_bad hi hr, Bool.false_and] at hk
      (try simp only [go_sem, hA, e14, hil, hg0]); repeat' (first | (with_reducible first | refine c_split ?_ ?_ | refine w_split ?_ ?_) <;> intro hb <;> try simp only [go_sem, hb, hA, e14, hil, hg0] | (first | refine call_c (c_accountKind _ _ hs.ha _ ?_) | refine call_c (c_instrKind _ _ hs.hi _ ?_) | fail) <;> try simp only [go_sem, hA, e14, hil, hg0] | with_reducible refine hQ _ _ ?_ <;> simp only [Tryz.f169, go_sem, hA, e14, hil, hg0])
      all_goals first | exact hk | exact (Bool.eq_false_iff.1 hr (by clear hr hJ hA hQ hQO; simp only [lrP]; simp_all <;> omega)).elim
def restL (xs : List Lot) (a n : Int) : List Lot := xs.filter fun x => !lotIs a n x
theorem rest_s (xs : List Lot) (i : Nat) (hi : i < xs.length) (a n : Int) : restL (xs.take (i + 1)) a n = restL (xs.take i) a n ++ (if lotIs a n xs[i] = true then [] else [xs[i]]) := by
  rw [restL, restL, List.take_succ_eq_append_getElem hi, List.filter_append]
  cases h : lotIs a n xs[i] <;> simp [h]
theorem c_l5Split (xs : List Lot) (a n : Int) (hn : xs.length ≤ 1000000000) (K : AV → AH → Prop) (hk : K (.tup [(.one (.im ((ownL xs a n).map lotC))), (.one (.im ((restL xs a n).map lotC)))]) []) : ACalls Tryz.prog 145 [(.one (.im (xs.map lotC))), (.one (.c (.int .i64 (a)))), (.one (.c (.int .i64 (n))))] [] K := by
  refine acall_c Tryz.f145.results.toList mixed Tryz.func145 rfl rfl (by kernel_rfl) ?_
  intro Q hQ hQO
  simp only [go_sem]
  (try simp only [go_sem]); repeat' (first | (with_reducible first | refine c_split ?_ ?_ | refine w_split ?_ ?_) <;> intro hb <;> try simp only [go_sem, hb] | fail)
  refine while_at (α := Nat × Nat × Option Nat × Nat × Option Nat) (fun ⟨j, g1, c1, g2, c2⟩ => xs.length - j) [0, 1, 2] (fun ⟨j, g1, c1, g2, c2⟩ f h => f 8 = .one (.sl 0 g1 0 (ownL (xs.take j) a n).length) ∧ f 9 = .one (.sl 1 g2 0 (restL (xs.take j) a n).length) ∧ f 10 = (.one (.c (.int .i64 ((j : Int))))) ∧ h = [.own g1 112 5 c1 ((ownL (xs.take j) a n).map lotC), .own g2 112 5 c2 ((restL (xs.take j) a n).map lotC)] ∧ j ≤ xs.length) (0, 0, some 0, 0, some 0) (GC.now ?_) ?_
  · simp only [go_sem, nc_0, true_and]
    exact ⟨rfl, rfl, rfl, Nat.zero_le _⟩
  · rintro ⟨j, g1, c1, g2, c2⟩ f h J hA ⟨e8, e9, e10, rfl, hP⟩ hJ
    simp only [go_sem] at hA
    try dsimp only at hJ
    simp only [go_sem, hA, e8, e9, e10]
    by_cases hi : j < xs.length
    · have hd : decide ((j : Int) < (xs.length : Int)) = true := decide_eq_true (Int.ofNat_lt.2 hi)
      have hil : (j : Int) < (xs.length : Int) := Int.ofNat_lt.2 hi
      have hg : xs[j]? = some xs[j] := List.getElem?_eq_getElem hi
      have hw := wrap_nat j (by omega)
      have hdec : xs.length - (j + 1) < xs.length - j := by omega
      have ho := own_s xs j hi a n
      have hr := rest_s xs j hi a n
      have hol : (ownL (xs.take j) a n).length ≤ j := Nat.le_trans (List.length_filter_le _ _) (by rw [List.length_take]; omega)
      have hrl : (restL (xs.take j) a n).length ≤ j := Nat.le_trans (List.length_filter_le _ _) (by rw [List.length_take]; omega)
      cases k1 : (xs[j].account == a) with
      | true =>
        cases k2 : (xs[j].instr == n) with
        | true =>
          have k : lotIs a n xs[j] = true := by rw [lotIs, k1, k2]; rfl
          rw [if_pos k] at ho
          rw [if_pos k, List.append_nil] at hr
          (try simp only [go_sem, hA, e8, e9, e10, hd, hil, hg, k1, k2]); repeat' (first | (with_reducible first | refine c_split ?_ ?_ | refine w_split ?_ ?_) <;> intro hb <;> try simp only [go_sem, hb, hA, e8, e9, e10, hd, hil, hg, k1, k2] | fail)
          refine ap_end rfl (by simp) (by simp; omega) ?_
          (try simp only [go_sem, hA, e8, e9, e10]); repeat' (first | (with_reducible first | refine c_split ?_ ?_ | refine w_split ?_ ?_) <;> intro hb <;> try simp only [go_sem, hb, hA, e8, e9, e10] | fail)
          refine gc_trim 2 (by decide) (by simp only [go_sem]) (by simp only [go_sem, hw, ho, hr]) (hJ (j + 1, g1 + 1, none, g2, c2) _ _ (by exact hdec) (by simp only [go_sem, hA, e8, e9, e10]) ⟨?_, ?_, ?_, ?_, ?_⟩) <;> try simp only [go_sem, hA, e8, e9, e10, hw, ho, hr]
          exact hi
        | false =>
          have k : ¬ lotIs a n xs[j] = true := by rw [lotIs, k1, k2]; decide
          rw [if_neg k, List.append_nil] at ho
          rw [if_neg k] at hr
          (try simp only [go_sem, hA, e8, e9, e10, hd, hil, hg, k1, k2]); repeat' (first | (with_reducible first | refine c_split ?_ ?_ | refine w_split ?_ ?_) <;> intro hb <;> try simp only [go_sem, hb, hA, e8, e9, e10, hd, hil, hg, k1, k2] | fail)
          refine ap_end rfl (by simp) (by simp; omega) ?_
          (try simp only [go_sem, hA, e8, e9, e10]); repeat' (first | (with_reducible first | refine c_split ?_ ?_ | refine w_split ?_ ?_) <;> intro hb <;> try simp only [go_sem, hb, hA, e8, e9, e10] | fail)
          refine gc_trim 2 (by decide) (by simp only [go_sem]) (by simp only [go_sem, hw, ho, hr]) (hJ (j + 1, g1, c1, g2 + 1, none) _ _ (by exact hdec) (by simp only [go_sem, hA, e8, e9, e10]) ⟨?_, ?_, ?_, ?_, ?_⟩) <;> try simp only [go_sem, hA, e8, e9, e10, hw, ho, hr]
          exact hi
      | false =>
        have k : ¬ lotIs a n xs[j] = true := by rw [lotIs, k1]; simp
        rw [if_neg k, List.append_nil] at ho
        rw [if_neg k] at hr
        (try simp only [go_sem, hA, e8, e9, e10, hd, hil, hg, k1]); repeat' (first | (with_reducible first | refine c_split ?_ ?_ | refine w_split ?_ ?_) <;> intro hb <;> try simp only [go_sem, hb, hA, e8, e9, e10, hd, hil, hg, k1] | fail)
        refine ap_end rfl (by simp) (by simp; omega) ?_
        (try simp only [go_sem, hA, e8, e9, e10]); repeat' (first | (with_reducible first | refine c_split ?_ ?_ | refine w_split ?_ ?_) <;> intro hb <;> try simp only [go_sem, hb, hA, e8, e9, e10] | fail)
        refine gc_trim 2 (by decide) (by simp only [go_sem]) (by simp only [go_sem, hw, ho, hr]) (hJ (j + 1, g1, c1, g2 + 1, none) _ _ (by exact hdec) (by simp only [go_sem, hA, e8, e9, e10]) ⟨?_, ?_, ?_, ?_, ?_⟩) <;> try simp only [go_sem, hA, e8, e9, e10, hw, ho, hr]
        exact hi
    · have hd : decide ((j : Int) < (xs.length : Int)) = false := decide_eq_false (fun q => hi (Int.ofNat_lt.1 q))
      have hj : j = xs.length := by omega
      subst hj
      have h1 : List.take (ownL xs a n).length ((ownL xs a n).map lotC) = (ownL xs a n).map lotC := List.take_of_length_le (by simp)
      have h2 : List.take (restL xs a n).length ((restL xs a n).map lotC) = (restL xs a n).map lotC := List.take_of_length_le (by simp)
      (try simp only [go_sem, hA, e8, e9, e10, hd, List.take_length, h1, h2]); repeat' (first | (with_reducible first | refine c_split ?_ ?_ | refine w_split ?_ ?_) <;> intro hb <;> try simp only [go_sem, hb, hA, e8, e9, e10, hd, List.take_length, h1, h2] | with_reducible refine hQ _ _ ?_ <;> simp only [Tryz.f145, go_sem, hA, e8, e9, e10, hd, List.take_length, h1, h2])
      exact hk
theorem c_l5Qty (xs : List Lot) (h : Fine xs) (K : AV → AH → Prop) (hk : K (.one (.c (.int .i64 (sumQ xs)))) []) : ACalls Tryz.prog 146 [(.one (.im (xs.map lotC)))] [] K := by
  have hn : xs.length ≤ 1000000000 := by have := h.2; omega
  refine acall_c Tryz.f146.results.toList mixed Tryz.func146 rfl rfl (by kernel_rfl) ?_
  intro Q hQ hQO
  simp only [go_sem]
  refine for_at (xs.length) [0] (fun i f h => f 3 = (.one (.c (.int .i64 (sumQ (xs.take i))))) ∧ f 4 = (.one (.c (.int .i64 (i)))) ∧ h = []) (GC.now ?_) ?_
  · simp only [go_sem, nc_0, true_and]
    rfl
  · rintro i f h J hi hA ⟨e3, e4, rfl⟩ hJ
    simp only [go_sem] at hA
    simp only [go_sem, hA, e3, e4]
    refine c_split (fun hb => ?_) (fun hb => ?_)
    rotate_left
    · simp only [go_sem, hb, hA, e3, e4]
      obtain rfl := ge_len hb hi
      (try simp only [go_sem, hA, e3, e4, List.take_length]); repeat' (first | (with_reducible first | refine c_split ?_ ?_ | refine w_split ?_ ?_) <;> intro hb <;> try simp only [go_sem, hb, hA, e3, e4, List.take_length] | with_reducible refine hQ _ _ ?_ <;> simp only [Tryz.f146, go_sem, hA, e3, e4, List.take_length])
      exact hk
    have hi := lt_len hb
    have hw := wrap_nat i (by omega)
    have hil : (i : Int) < ((xs.length : Nat) : Int) := Int.ofNat_lt.2 hi
    have hg0 : (xs)[i]? = some ((xs)[i]) := List.getElem?_eq_getElem (by omega)
    simp only [go_sem, hb, hA, e3, e4, hg0]
    try simp only [go_sem, hA, e3, e4, hil, hg0]
    obtain ⟨s1, s2⟩ := sumQ_s xs i hi
    obtain ⟨w1, w2⟩ := sums_w h hi
    (try simp only [go_sem, hA, e3, e4, hil, hg0, w1, w2]); repeat' (first | (with_reducible first | refine c_split ?_ ?_ | refine w_split ?_ ?_) <;> intro hb <;> try simp only [go_sem, hb, hA, e3, e4, hil, hg0, w1, w2] | fail)
    refine gc_trim 0 (by decide) (by simp only [go_sem]) (by simp only [go_sem]) (hJ _ _ hi (by simp only [go_sem, hA, e3, e4]) ⟨?_, ?_, ?_⟩) <;> try simp only [go_sem, hA, e3, e4, hw, s1]
theorem c_l6Lots (b : Books) (hs : Small b) (ha : accountsOk b.accounts = true) (hi0 : instrsOk b.instrs = true) (hf : Fine b.lots) (K : AV → AH → Prop) (hk : K (.one (.c (.bool (lotsR b)))) []) : ACalls Tryz.prog 155 [.agg (booksC b)] [] K := by
  have hsl := hs.hl
  have hsa := hs.ha
  have hsi := hs.hi
  refine acall_c Tryz.f155.results.toList mixed Tryz.func155 rfl rfl (by kernel_rfl) ?_
  intro Q hQ hQO
  simp only [go_sem]
  refine for_at (b.lots.length) [1] (fun i f h => f 3 = (.one (.c (.int .i64 (i)))) ∧ h = [.own 0 33 6 (some 1) [booksC b]] ∧ noneTo (fun x => !lrP b x) b.lots i) (GC.now ?_) ?_
  · simp only [go_sem, nc_0, true_and]
    exact noneTo_0 _ _
  · rintro i f h J hi hA ⟨e3, rfl, hP⟩ hJ
    simp only [go_sem] at hA
    simp only [go_sem, hA, e3]
    refine c_split (fun hb => ?_) (fun hb => ?_)
    rotate_left
    · simp only [go_sem, hb, hA, e3]
      obtain rfl := ge_len hb hi
      rw [lotsR, all_no hP, Bool.true_and] at hk
      (try simp only [go_sem, hA, e3]); repeat' (first | (with_reducible first | refine c_split ?_ ?_ | refine w_split ?_ ?_ | refine tw_split ?_ ?_) <;> intro hb <;> try simp only [go_sem, hb, hA, e3] | (first | with_reducible refine d155_0_LBooks7 (by with_unfolding_all rfl) (by kernel_rfl) ?_ | with_reducible refine d155_1_LBooks7 (by with_unfolding_all rfl) (by kernel_rfl) ?_ | fail) <;> try simp only [go_sem, hA, e3] | fail)
      have hA0 := hA
      clear hJ
      refine for_at (b.accounts.length) [1] (fun i f h => f 5 = (.one (.c (.int .i64 (i)))) ∧ h = [.own 0 33 6 (some 1) [booksC b]] ∧ noneTo (fun a => !b.instrs.all (pairP b a)) b.accounts i) (GC.now ?_) ?_
      · simp only [go_sem, nc_0, true_and, hA0]
        exact noneTo_0 _ _
      · rintro i f h J hi hA ⟨e5, rfl, hP⟩ hJ
        simp only [go_sem, hA0] at hA
        simp only [go_sem, hA, e5, hA0]
        refine c_split (fun hb => ?_) (fun hb => ?_)
        rotate_left
        · simp only [go_sem, hb, hA, e5, hA0]
          obtain rfl := ge_len hb hi
          (try simp only [go_sem, hA, e5, hA0]); repeat' (first | (with_reducible first | refine c_split ?_ ?_ | refine w_split ?_ ?_ | refine tw_split ?_ ?_) <;> intro hb <;> try simp only [go_sem, hb, hA, e5, hA0] | (first | with_reducible refine d155_0_LBooks7 (by with_unfolding_all rfl) (by kernel_rfl) ?_ | with_reducible refine d155_1_LBooks7 (by with_unfolding_all rfl) (by kernel_rfl) ?_ | fail) <;> try simp only [go_sem, hA, e5, hA0] | with_reducible refine hQ _ _ ?_ <;> simp only [Tryz.f155, go_sem, hA, e5, hA0])
          rw [all_no hP] at hk
          exact hk
        have hi := lt_len hb
        have hw := wrap_nat i (by omega)
        have hil : (i : Int) < ((b.accounts.length : Nat) : Int) := Int.ofNat_lt.2 hi
        have hg0 : (b.accounts)[i]? = some ((b.accounts)[i]) := List.getElem?_eq_getElem (by omega)
        simp only [go_sem, hb, hA, e5, hA0, hg0]
        try simp only [go_sem, hA, e5, hA0, hil, hg0]
        (try simp only [go_sem, hA, e5, hA0, hil, hg0]); repeat' (first | (with_reducible first | refine c_split ?_ ?_ | refine w_split ?_ ?_ | refine tw_split ?_ ?_) <;> intro hb <;> try simp only [go_sem, hb, hA, e5, hA0, hil, hg0] | (first | with_reducible refine d155_0_LBooks7 (by with_unfolding_all rfl) (by kernel_rfl) ?_ | with_reducible refine d155_1_LBooks7 (by with_unfolding_all rfl) (by kernel_rfl) ?_ | fail) <;> try simp only [go_sem, hA, e5, hA0, hil, hg0] | fail)
        have hA1 := hA
        have hP1 := hP
        have hi1 := hi
        have hil1 := hil
        have hg1 := hg0
        have hw1 := hw
        have hJ1 := hJ
        have e5a := e5
        generalize hac : b.accounts[i] = ac at *
        refine for_at (b.instrs.length) [1, 5] (fun i f h => f 6 = (.one (.c (.int .i64 (i)))) ∧ h = [.own 0 33 6 (some 1) [booksC b]] ∧ noneTo (fun x => !pairP b ac x) b.instrs i) (GC.now ?_) ?_
        · simp only [go_sem, nc_0, true_and, hA1, e5a]
          exact noneTo_0 _ _
        · rintro i f h J hi hA ⟨e6, rfl, hP⟩ hJ
          simp only [go_sem, hA1, e5a] at hA
          simp only [go_sem, hA, e6, hA1, e5a]
          refine c_split (fun hb => ?_) (fun hb => ?_)
          rotate_left
          · simp only [go_sem, hb, hA, e6, hA1, e5a]
            obtain rfl := ge_len hb hi
            refine GC.now (hJ1 _ _ hi1 (by simp only [go_sem, hA, hA1, hA0, e5a]) ⟨?_, ?_, ?_⟩) <;> try simp only [go_sem, hA, hA1, hA0, e5a, hw1]
            exact noneTo_s hP1 hi1 (by rw [hac]; exact not_ff (all_no hP))
          have hi := lt_len hb
          have hw := wrap_nat i (by omega)
          have hil : (i : Int) < ((b.instrs.length : Nat) : Int) := Int.ofNat_lt.2 hi
          have hg0 : (b.instrs)[i]? = some ((b.instrs)[i]) := List.getElem?_eq_getElem (by omega)
          simp only [go_sem, hb, hA, e6, hA1, e5a, hg0]
          try simp only [go_sem, hA, e6, hA1, e5a, hil, hg0]
          cases k1 : (ac.kind == 1) with
          | false =>
            (try simp only [go_sem, hA, e6, hA1, e5a, hil, hg0, hil1, hg1, k1]); repeat' (first | (with_reducible first | refine c_split ?_ ?_ | refine w_split ?_ ?_ | refine tw_split ?_ ?_) <;> intro hb <;> try simp only [go_sem, hb, hA, e6, hA1, e5a, hil, hg0, hil1, hg1, k1] | (first | with_reducible refine d155_0_LBooks7 (by with_unfolding_all rfl) (by kernel_rfl) ?_ | with_reducible refine d155_1_LBooks7 (by with_unfolding_all rfl) (by kernel_rfl) ?_ | fail) <;> try simp only [go_sem, hA, e6, hA1, e5a, hil, hg0, hil1, hg1, k1] | fail)
            refine gc_trim 1 (by decide) (by simp only [go_sem]) (by simp only [go_sem]) (hJ _ _ hi (by simp only [go_sem, hA, e6, hA1, e5a]) ⟨?_, ?_, ?_⟩) <;> try simp only [go_sem, hA, e6, hA1, e5a, hw]
            exact noneTo_s hP hi (by rw [pairP, k1]; rfl)
          | true =>
            cases k2 : (b.instrs[i].kind == 2) with
            | false =>
              (try simp only [go_sem, hA, e6, hA1, e5a, hil, hg0, hil1, hg1, k1, k2]); repeat' (first | (with_reducible first | refine c_split ?_ ?_ | refine w_split ?_ ?_ | refine tw_split ?_ ?_) <;> intro hb <;> try simp only [go_sem, hb, hA, e6, hA1, e5a, hil, hg0, hil1, hg1, k1, k2] | (first | with_reducible refine d155_0_LBooks7 (by with_unfolding_all rfl) (by kernel_rfl) ?_ | with_reducible refine d155_1_LBooks7 (by with_unfolding_all rfl) (by kernel_rfl) ?_ | fail) <;> try simp only [go_sem, hA, e6, hA1, e5a, hil, hg0, hil1, hg1, k1, k2] | fail)
              refine gc_trim 1 (by decide) (by simp only [go_sem]) (by simp only [go_sem]) (hJ _ _ hi (by simp only [go_sem, hA, e6, hA1, e5a]) ⟨?_, ?_, ?_⟩) <;> try simp only [go_sem, hA, e6, hA1, e5a, hw]
              exact noneTo_s hP hi (by rw [pairP, k1, k2]; rfl)
            | true =>
              cases k3 : (sumQ (ownL b.lots ac.no b.instrs[i].no) == balV b.bals ac.no b.instrs[i].no) with
              | true =>
                (try simp only [go_sem, hA, e6, hA1, e5a, hil, hg0, hil1, hg1, k1, k2, k3]); repeat' (first | (with_reducible first | refine c_split ?_ ?_ | refine w_split ?_ ?_ | refine tw_split ?_ ?_) <;> intro hb <;> try simp only [go_sem, hb, hA, e6, hA1, e5a, hil, hg0, hil1, hg1, k1, k2, k3] | (first | with_reducible refine d155_0_LBooks7 (by with_unfolding_all rfl) (by kernel_rfl) ?_ | with_reducible refine d155_1_LBooks7 (by with_unfolding_all rfl) (by kernel_rfl) ?_ | refine call_c (c_l5Split b.lots _ _ hsl _ ?_) | refine call_c (c_l5Qty _ (hf.own _ _) _ ?_) | refine call_c (c_l4Of b.bals _ _ hs.hb _ ?_) | fail) <;> try simp only [go_sem, hA, e6, hA1, e5a, hil, hg0, hil1, hg1, k1, k2, k3] | fail)
                refine gc_trim 1 (by decide) (by simp only [go_sem]) (by simp only [go_sem]) (hJ _ _ hi (by simp only [go_sem, hA, e6, hA1, e5a]) ⟨?_, ?_, ?_⟩) <;> try simp only [go_sem, hA, e6, hA1, e5a, hw]
                exact noneTo_s hP hi (by rw [pairP, k1, k2, k3]; rfl)
              | false =>
                rw [all_bad hi1 (by rw [hac]; exact all_bad hi (by rw [pairP, k1, k2, k3]; rfl))] at hk
                (try simp only [go_sem, hA, e6, hA1, e5a, hil, hg0, hil1, hg1, k1, k2, k3]); repeat' (first | (with_reducible first | refine c_split ?_ ?_ | refine w_split ?_ ?_ | refine tw_split ?_ ?_) <;> intro hb <;> try simp only [go_sem, hb, hA, e6, hA1, e5a, hil, hg0, hil1, hg1, k1, k2, k3] | (first | with_reducible refine d155_0_LBooks7 (by with_unfolding_all rfl) (by kernel_rfl) ?_ | with_reducible refine d155_1_LBooks7 (by with_unfolding_all rfl) (by kernel_rfl) ?_ | refine call_c (c_l5Split b.lots _ _ hsl _ ?_) | refine call_c (c_l5Qty _ (hf.own _ _) _ ?_) | refine call_c (c_l4Of b.bals _ _ hs.hb _ ?_) | fail) <;> try simp only [go_sem, hA, e6, hA1, e5a, hil, hg0, hil1, hg1, k1, k2, k3] | with_reducible refine hQ _ _ ?_ <;> simp only [Tryz.f155, go_sem, hA, e6, hA1, e5a, hil, hg0, hil1, hg1, k1, k2, k3])
                exact hk
    have hi := lt_len hb
    have hw := wrap_nat i (by omega)
    have hil : (i : Int) < ((b.lots.length : Nat) : Int) := Int.ofNat_lt.2 hi
    have hg0 : (b.lots)[i]? = some ((b.lots)[i]) := List.getElem?_eq_getElem (by omega)
    simp only [go_sem, hb, hA, e3, hg0]
    try simp only [go_sem, hA, e3, hil, hg0]
    cases hr : lrP b b.lots[i] with
    | true =>
      have hlr := hr
      simp only [lrP, Bool.and_eq_true] at hr
      obtain ⟨⟨f1, f2⟩, f3⟩ := hr
      have f3 := not_tt f3
      (try simp only [go_sem, hA, e3, hil, hg0, f1, f2, f3]); repeat' (first | (with_reducible first | refine c_split ?_ ?_ | refine w_split ?_ ?_ | refine tw_split ?_ ?_) <;> intro hb <;> try simp only [go_sem, hb, hA, e3, hil, hg0, f1, f2, f3] | (first | with_reducible refine d155_0_LBooks7 (by with_unfolding_all rfl) (by kernel_rfl) ?_ | with_reducible refine d155_1_LBooks7 (by with_unfolding_all rfl) (by kernel_rfl) ?_ | refine call_c (c_AccountKind _ _ hs.ha ha _ ?_) | refine call_c (c_InstrKind _ _ hs.hi hi0 _ ?_) | fail) <;> try simp only [go_sem, hA, e3, hil, hg0, f1, f2, f3] | fail)
      refine gc_trim 1 (by decide) (by simp only [go_sem]) (by simp only [go_sem]) (hJ _ _ hi (by simp only [go_sem, hA, e3]) ⟨?_, ?_, ?_⟩) <;> try simp only [go_sem, hA, e3, hw]
      exact noneTo_s hP hi (not_ff hlr)
    | false =>
      rw [lotsR, all_bad hi hr, Bool.false_and] at hk
      (try simp only [go_sem, hA, e3, hil, hg0]); repeat' (first | (with_reducible first | refine c_split ?_ ?_ | refine w_split ?_ ?_ | refine tw_split ?_ ?_) <;> intro hb <;> try simp only [go_sem, hb, hA, e3, hil, hg0] | (first | with_reducible refine d155_0_LBooks7 (by with_unfolding_all rfl) (by kernel_rfl) ?_ | with_reducible refine d155_1_LBooks7 (by with_unfolding_all rfl) (by kernel_rfl) ?_ | refine call_c (c_AccountKind _ _ hs.ha ha _ ?_) | refine call_c (c_InstrKind _ _ hs.hi hi0 _ ?_) | fail) <;> try simp only [go_sem, hA, e3, hil, hg0] | with_reducible refine hQ _ _ ?_ <;> simp only [Tryz.f155, go_sem, hA, e3, hil, hg0])
      all_goals first | exact hk | exact (Bool.eq_false_iff.1 hr (by clear hr hJ hA hQ hQO; simp only [lrP]; simp_all <;> omega)).elim
end Go.Proofs.YtkndmncgohmjmaaGreat
end
section
namespace Go.Proofs.YtkndmncgohmjmaaGreat
open Go.BL Go.RowKit
set_option linter.unusedVariables false
set_option linter.unusedSimpArgs false
set_option maxRecDepth 100000
theorem d148_0_LMerge : DrawL Tryz.prog 0 19 (.on [(0, true, true), (1, false, true), (2, false, true), (3, false, true), (4, false, true), (5, true, true), (6, false, true), (7, false, true), (8, false, true), (9, false, true), (10, true, true), (11, true, true), (12, true, true), (13, true, true), (14, true, false), (15, false, false), (16, false, false), (17, false, false), (18, false, true), (19, false, true), (20, false, true)] .nil) := draw_L
attribute [local go_sem] lotC
def mergeL : List Lot → List Lot → List Lot
  | [], ys => ys
  | a :: xs, [] => a :: xs
  | a :: xs, b :: ys => if lotLt a b = true then a :: mergeL xs (b :: ys) else b :: mergeL (a :: xs) ys
theorem merge_nil (xs : List Lot) : mergeL xs [] = xs := by cases xs <;> simp [mergeL]
theorem merge_a {a : Lot} {xs ys : List Lot} (h : ys = [] ∨ ∃ b r, ys = b :: r ∧ lotLt a b = true) : mergeL (a :: xs) ys = a :: mergeL xs ys := by
  rcases h with rfl | ⟨b, r, rfl, h⟩
  · rw [merge_nil, merge_nil]
  · rw [mergeL, if_pos h]
theorem merge_b {xs : List Lot} {b : Lot} {ys : List Lot} (h : xs = [] ∨ ∃ a r, xs = a :: r ∧ lotLt a b = false) : mergeL xs (b :: ys) = b :: mergeL xs ys := by
  rcases h with rfl | ⟨a, r, rfl, h⟩
  · simp [mergeL]
  · rw [mergeL, if_neg (by rw [h]; decide)]
theorem merge_len : ∀ (xs ys : List Lot), (mergeL xs ys).length = xs.length + ys.length
  | [], ys => by simp [mergeL]
  | a :: xs, [] => by simp [mergeL]
  | a :: xs, b :: ys => by
    rw [mergeL]
    split
    · rw [List.length_cons, merge_len xs (b :: ys)]; simp; omega
    · rw [List.length_cons, merge_len (a :: xs) ys]; simp; omega
theorem mg_room {a b z : Nat} (h1 : a ≤ 100000) (h2 : b ≤ 8) (h3 : z ≤ 64) : (a + b) * z ≤ 140737488355328 := Nat.le_trans (Nat.mul_le_mul (Nat.add_le_add h1 h2) h3) (by decide)
theorem c_l5Merge (a b : List Lot) (ha : a.length ≤ 10000) (hb : b.length ≤ 10000) (K : AV → AH → Prop) (hk : K (.one (.im ((mergeL a b).map lotC))) []) : ACalls Tryz.prog 148 [(.one (.im (a.map lotC))), (.one (.im (b.map lotC)))] [] K := by
  have hmerge := merge_len a b
  refine acall_c Tryz.f148.results.toList mixed Tryz.func148 rfl rfl (by kernel_rfl) ?_
  intro Q hQ hQO
  simp only [go_sem]
  (try simp only [go_sem]); repeat' (first | (with_reducible first | refine c_split ?_ ?_ | refine w_split ?_ ?_ | refine tw_split ?_ ?_) <;> intro hb <;> try simp only [go_sem, hb] | with_reducible refine d148_0_LMerge (by with_unfolding_all rfl) (by kernel_rfl) ?_ <;> try simp only [go_sem] | fail)
  refine while_at (α := Nat × Nat × List Lot) (fun ⟨i, k, out⟩ => a.length - i + (b.length - k)) [0, 1] (fun ⟨i, k, out⟩ f h => f 6 = (.one (.c (.int .i64 ((i : Int))))) ∧ f 7 = (.one (.c (.int .i64 ((k : Int))))) ∧ f 5 = .one (.sl 0 (i + k) 0 (i + k)) ∧ h = [.own (i + k) 112 5 (if i + k = 0 then some 0 else none) (out.map lotC)] ∧ i ≤ a.length ∧ k ≤ b.length ∧ out.length = i + k ∧ mergeL a b = out ++ mergeL (a.drop i) (b.drop k)) (0, 0, []) (GC.now ?_) ?_
  · simp only [go_sem, nc_0, true_and]
    exact ⟨Nat.zero_le _, Nat.zero_le _⟩
  · rintro ⟨i, k, out⟩ f h J hA ⟨e6, e7, e5, rfl, hP⟩ hJ
    simp only [go_sem] at hA
    try dsimp only at hJ
    simp only [go_sem, hA, e6, e7, e5]
    obtain ⟨hia, hkb, hol, hm⟩ := hP
    have hcap : (if i + 1 + k = 0 then some 0 else (none : Option Nat)) = none := if_neg (by omega)
    have hcap2 : (if i + (k + 1) = 0 then some 0 else (none : Option Nat)) = none := if_neg (by omega)
    have hg1 : i + k + 1 = i + 1 + k := by omega
    have hg2 : i + k + 1 = i + (k + 1) := by omega
    have hw1 := wrap_nat i (by omega)
    have hw2 := wrap_nat k (by omega)
    by_cases hi : i < a.length
    · have di : decide ((i : Int) < (a.length : Int)) = true := decide_eq_true (Int.ofNat_lt.2 hi)
      have li : (i : Int) < (a.length : Int) := Int.ofNat_lt.2 hi
      have ga : a[i]? = some a[i] := List.getElem?_eq_getElem hi
      have hda : a.drop i = a[i] :: a.drop (i + 1) := List.drop_eq_getElem_cons hi
      have takeA : mergeL (a.drop i) (b.drop k) = a[i] :: mergeL (a.drop (i + 1)) (b.drop k) → mergeL a b = (out ++ [a[i]]) ++ mergeL (a.drop (i + 1)) (b.drop k) := fun e => by rw [hm, e]; simp
      by_cases hkl : k < b.length
      · have dk : decide ((k : Int) < (b.length : Int)) = true := decide_eq_true (Int.ofNat_lt.2 hkl)
        have lk : (k : Int) < (b.length : Int) := Int.ofNat_lt.2 hkl
        have ek : ((k : Int) == (b.length : Int)) = false := beq_eq_false_iff_ne.2 (by omega)
        have gb : b[k]? = some b[k] := List.getElem?_eq_getElem hkl
        have hdb : b.drop k = b[k] :: b.drop (k + 1) := List.drop_eq_getElem_cons hkl
        cases hlt : lotLt a[i] b[k] with
        | true =>
          (try simp only [go_sem, hA, e6, e7, e5, di, li, ga, dk, lk, ek, gb, hlt]); repeat' (first | (with_reducible first | refine c_split ?_ ?_ | refine w_split ?_ ?_ | refine tw_split ?_ ?_) <;> intro hb <;> try simp only [go_sem, hb, hA, e6, e7, e5, di, li, ga, dk, lk, ek, gb, hlt] | (first | with_reducible refine d148_0_LMerge (by with_unfolding_all rfl) (by kernel_rfl) ?_ | refine call_c (c_l5Before _ _ _ ?_) | fail) <;> try simp only [go_sem, hA, e6, e7, e5, di, li, ga, dk, lk, ek, gb, hlt] | fail)
          refine ap_end rfl (by rw [List.length_map, hol]) (by exact mg_room (by rw [List.length_map, hol]; omega) (Nat.le_of_ble_eq_true rfl) (Nat.le_of_ble_eq_true rfl)) ?_
          (try simp only [go_sem, hA, e6, e7, e5, hol]); repeat' (first | (with_reducible first | refine c_split ?_ ?_ | refine w_split ?_ ?_ | refine tw_split ?_ ?_) <;> intro hb <;> try simp only [go_sem, hb, hA, e6, e7, e5, hol] | with_reducible refine d148_0_LMerge (by with_unfolding_all rfl) (by kernel_rfl) ?_ <;> try simp only [go_sem, hA, e6, e7, e5, hol] | fail)
          refine gc_trim 1 (by decide) (by simp only [go_sem]) (by simp only [go_sem, hw1, hg1, hcap]) (hJ (i + 1, k, out ++ [a[i]]) _ _ (by show a.length - (i + 1) + (b.length - k) < a.length - i + (b.length - k); omega) (by simp only [go_sem, hA, e6, e7, e5]) ⟨?_, ?_, ?_, ?_, ?_⟩) <;> try simp only [go_sem, hA, e6, e7, e5, hw1, hg1, hcap]
          exact ⟨hi, hkb, by omega, takeA (by rw [hda]; exact merge_a (.inr ⟨_, _, hdb, hlt⟩))⟩
        | false =>
          have takeB : mergeL (a.drop i) (b.drop k) = b[k] :: mergeL (a.drop i) (b.drop (k + 1)) := by rw [hdb]; exact merge_b (.inr ⟨_, _, hda, hlt⟩)
          (try simp only [go_sem, hA, e6, e7, e5, di, li, ga, dk, lk, ek, gb, hlt]); repeat' (first | (with_reducible first | refine c_split ?_ ?_ | refine w_split ?_ ?_ | refine tw_split ?_ ?_) <;> intro hb <;> try simp only [go_sem, hb, hA, e6, e7, e5, di, li, ga, dk, lk, ek, gb, hlt] | (first | with_reducible refine d148_0_LMerge (by with_unfolding_all rfl) (by kernel_rfl) ?_ | refine call_c (c_l5Before _ _ _ ?_) | fail) <;> try simp only [go_sem, hA, e6, e7, e5, di, li, ga, dk, lk, ek, gb, hlt] | fail)
          refine ap_end rfl (by rw [List.length_map, hol]) (by exact mg_room (by rw [List.length_map, hol]; omega) (Nat.le_of_ble_eq_true rfl) (Nat.le_of_ble_eq_true rfl)) ?_
          (try simp only [go_sem, hA, e6, e7, e5, hol]); repeat' (first | (with_reducible first | refine c_split ?_ ?_ | refine w_split ?_ ?_ | refine tw_split ?_ ?_) <;> intro hb <;> try simp only [go_sem, hb, hA, e6, e7, e5, hol] | with_reducible refine d148_0_LMerge (by with_unfolding_all rfl) (by kernel_rfl) ?_ <;> try simp only [go_sem, hA, e6, e7, e5, hol] | fail)
          refine gc_trim 1 (by decide) (by simp only [go_sem]) (by simp only [go_sem, hw2, hg2, hcap2]) (hJ (i, k + 1, out ++ [b[k]]) _ _ (by show a.length - i + (b.length - (k + 1)) < a.length - i + (b.length - k); omega) (by simp only [go_sem, hA, e6, e7, e5]) ⟨?_, ?_, ?_, ?_, ?_⟩) <;> try simp only [go_sem, hA, e6, e7, e5, hw2, hg2, hcap2]
          exact ⟨hia, hkl, by omega, by rw [hm, takeB]; simp⟩
      · have hke : k = b.length := by omega
        have dk : decide ((k : Int) < (b.length : Int)) = false := decide_eq_false (by omega)
        have ek : ((k : Int) == (b.length : Int)) = true := by rw [hke]; exact BEq.rfl
        have hdb : b.drop k = [] := List.drop_of_length_le (by omega)
        (try simp only [go_sem, hA, e6, e7, e5, di, li, ga, dk, ek]); repeat' (first | (with_reducible first | refine c_split ?_ ?_ | refine w_split ?_ ?_ | refine tw_split ?_ ?_) <;> intro hb <;> try simp only [go_sem, hb, hA, e6, e7, e5, di, li, ga, dk, ek] | (first | with_reducible refine d148_0_LMerge (by with_unfolding_all rfl) (by kernel_rfl) ?_ | refine call_c (c_l5Before _ _ _ ?_) | fail) <;> try simp only [go_sem, hA, e6, e7, e5, di, li, ga, dk, ek] | fail)
        refine ap_end rfl (by rw [List.length_map, hol]) (by exact mg_room (by rw [List.length_map, hol]; omega) (Nat.le_of_ble_eq_true rfl) (Nat.le_of_ble_eq_true rfl)) ?_
        (try simp only [go_sem, hA, e6, e7, e5, hol]); repeat' (first | (with_reducible first | refine c_split ?_ ?_ | refine w_split ?_ ?_ | refine tw_split ?_ ?_) <;> intro hb <;> try simp only [go_sem, hb, hA, e6, e7, e5, hol] | with_reducible refine d148_0_LMerge (by with_unfolding_all rfl) (by kernel_rfl) ?_ <;> try simp only [go_sem, hA, e6, e7, e5, hol] | fail)
        refine gc_trim 1 (by decide) (by simp only [go_sem]) (by simp only [go_sem, hw1, hg1, hcap]) (hJ (i + 1, k, out ++ [a[i]]) _ _ (by show a.length - (i + 1) + (b.length - k) < a.length - i + (b.length - k); omega) (by simp only [go_sem, hA, e6, e7, e5]) ⟨?_, ?_, ?_, ?_, ?_⟩) <;> try simp only [go_sem, hA, e6, e7, e5, hw1, hg1, hcap]
        exact ⟨hi, hkb, by omega, takeA (by rw [hda]; exact merge_a (.inl hdb))⟩
    · have hie : i = a.length := by omega
      have di : decide ((i : Int) < (a.length : Int)) = false := decide_eq_false (by omega)
      have hda : a.drop i = [] := List.drop_of_length_le (by omega)
      by_cases hkl : k < b.length
      · have dk : decide ((k : Int) < (b.length : Int)) = true := decide_eq_true (Int.ofNat_lt.2 hkl)
        have lk : (k : Int) < (b.length : Int) := Int.ofNat_lt.2 hkl
        have ek : ((k : Int) == (b.length : Int)) = false := beq_eq_false_iff_ne.2 (by omega)
        have gb : b[k]? = some b[k] := List.getElem?_eq_getElem hkl
        have hdb : b.drop k = b[k] :: b.drop (k + 1) := List.drop_eq_getElem_cons hkl
        have takeB : mergeL (a.drop i) (b.drop k) = b[k] :: mergeL (a.drop i) (b.drop (k + 1)) := by rw [hdb]; exact merge_b (.inl hda)
        (try simp only [go_sem, hA, e6, e7, e5, di, dk, lk, ek, gb]); repeat' (first | (with_reducible first | refine c_split ?_ ?_ | refine w_split ?_ ?_ | refine tw_split ?_ ?_) <;> intro hb <;> try simp only [go_sem, hb, hA, e6, e7, e5, di, dk, lk, ek, gb] | (first | with_reducible refine d148_0_LMerge (by with_unfolding_all rfl) (by kernel_rfl) ?_ | refine call_c (c_l5Before _ _ _ ?_) | fail) <;> try simp only [go_sem, hA, e6, e7, e5, di, dk, lk, ek, gb] | fail)
        refine ap_end rfl (by rw [List.length_map, hol]) (by exact mg_room (by rw [List.length_map, hol]; omega) (Nat.le_of_ble_eq_true rfl) (Nat.le_of_ble_eq_true rfl)) ?_
        (try simp only [go_sem, hA, e6, e7, e5, hol]); repeat' (first | (with_reducible first | refine c_split ?_ ?_ | refine w_split ?_ ?_ | refine tw_split ?_ ?_) <;> intro hb <;> try simp only [go_sem, hb, hA, e6, e7, e5, hol] | with_reducible refine d148_0_LMerge (by with_unfolding_all rfl) (by kernel_rfl) ?_ <;> try simp only [go_sem, hA, e6, e7, e5, hol] | fail)
        refine gc_trim 1 (by decide) (by simp only [go_sem]) (by simp only [go_sem, hw2, hg2, hcap2]) (hJ (i, k + 1, out ++ [b[k]]) _ _ (by show a.length - i + (b.length - (k + 1)) < a.length - i + (b.length - k); omega) (by simp only [go_sem, hA, e6, e7, e5]) ⟨?_, ?_, ?_, ?_, ?_⟩) <;> try simp only [go_sem, hA, e6, e7, e5, hw2, hg2, hcap2]
        exact ⟨hia, hkl, by omega, by rw [hm, takeB]; simp⟩
      · have dk : decide ((k : Int) < (b.length : Int)) = false := decide_eq_false (by omega)
        have hdb : b.drop k = [] := List.drop_of_length_le (by omega)
        rw [hda, hdb, merge_nil, List.append_nil] at hm
        have htk : List.take (i + k) (List.map lotC out) = List.map lotC out := List.take_of_length_le (by rw [List.length_map, hol]; exact Nat.le_refl _)
        rw [hm] at hk
        (try simp only [go_sem, hA, e6, e7, e5, di, dk, htk, hol, List.length_map, Nat.le_refl]); repeat' (first | (with_reducible first | refine c_split ?_ ?_ | refine w_split ?_ ?_ | refine tw_split ?_ ?_) <;> intro hb <;> try simp only [go_sem, hb, hA, e6, e7, e5, di, dk, htk, hol, List.length_map, Nat.le_refl] | with_reducible refine d148_0_LMerge (by with_unfolding_all rfl) (by kernel_rfl) ?_ <;> try simp only [go_sem, hA, e6, e7, e5, di, dk, htk, hol, List.length_map, Nat.le_refl] | with_reducible refine hQ _ _ ?_ <;> simp only [Tryz.f148, go_sem, hA, e6, e7, e5, di, dk, htk, hol, List.length_map, Nat.le_refl])
        exact hk
end Go.Proofs.YtkndmncgohmjmaaGreat
end
section
namespace Go.Proofs.YtkndmncgohmjmaaGreat
open Go.BL Go.RowKit
set_option linter.unusedVariables false
set_option linter.unusedSimpArgs false
set_option maxRecDepth 100000
attribute [local go_sem] lotC
open Go.Sort
theorem swo_lotLt : SWO lotLt where
  irrefl := fun x => by
    cases h : lotLt x x with
    | false => rfl
    | true => rw [lotLt_iff] at h; omega
  trans := lotLt_tr
  ntrans := fun x y z h1 h2 => by
    cases h : lotLt x z with
    | false => rfl
    | true =>
      have h1' : ¬ lotLt x y = true := by rw [h1]; decide
      have h2' : ¬ lotLt y z = true := by rw [h2]; decide
      rw [lotLt_iff] at h h1' h2'
      omega
theorem lots_uniq : ∀ {l1 l2 : List Lot}, l1.Perm l2 → l1.Pairwise (fun x y => lotLt x y = true) → l2.Pairwise (fun x y => lotLt y x = false) → l1 = l2
  | [], l2, hp, _, _ => hp.nil_eq
  | x :: r, [], hp, _, _ => absurd hp.symm.nil_eq (by simp)
  | x :: r, y :: s, hp, h1, h2 => by
    rw [List.pairwise_cons] at h1 h2
    by_cases e : x = y
    · subst e
      rw [lots_uniq (List.Perm.cons_inv hp) h1.2 h2.2]
    · have hx : x ∈ y :: s := hp.subset (by simp)
      have hy : y ∈ x :: r := hp.symm.subset (by simp)
      have hxs : x ∈ s := by rcases List.mem_cons.1 hx with h | h; exact absurd h e; exact h
      have hyr : y ∈ r := by rcases List.mem_cons.1 hy with h | h; exact absurd h.symm e; exact h
      have q1 := h1.1 y hyr
      have q2 := h2.1 x hxs
      rw [q1] at q2; cases q2
theorem merge_perm : ∀ (xs ys : List Lot), (mergeL xs ys).Perm (xs ++ ys)
  | [], ys => by simp [mergeL]
  | a :: xs, [] => by simp [mergeL]
  | a :: xs, b :: ys => by
    rw [mergeL]
    split
    · exact (merge_perm xs (b :: ys)).cons a
    · exact ((merge_perm (a :: xs) ys).cons b).trans (List.perm_middle (a := b) (l₁ := a :: xs) (l₂ := ys)).symm
theorem merge_sorted : ∀ {xs ys : List Lot}, xs.Pairwise (fun x y => lotLt x y = true) → ys.Pairwise (fun x y => lotLt x y = true) → (∀ x ∈ xs, ∀ y ∈ ys, lotLt x y = true ∨ lotLt y x = true) → (mergeL xs ys).Pairwise (fun x y => lotLt x y = true)
  | [], ys, _, h2, _ => by simpa [mergeL] using h2
  | a :: xs, [], h1, _, _ => by simpa [mergeL] using h1
  | a :: xs, b :: ys, h1, h2, hd => by
    rw [List.pairwise_cons] at h1 h2
    rw [mergeL]
    split
    · rename_i hab
      rw [List.pairwise_cons]
      refine ⟨fun z hz => ?_, merge_sorted h1.2 (List.pairwise_cons.2 h2) (fun x hx y hy => hd x (by simp [hx]) y hy)⟩
      have hz' := (merge_perm xs (b :: ys)).subset hz
      rcases List.mem_append.1 hz' with h | h
      · exact h1.1 z h
      · rcases List.mem_cons.1 h with rfl | h
        · exact hab
        · exact lotLt_tr _ _ _ hab (h2.1 z h)
    · rename_i hab
      have hba : lotLt b a = true := by
        rcases hd a (by simp) b (by simp) with h | h
        · exact absurd h hab
        · exact h
      rw [List.pairwise_cons]
      refine ⟨fun z hz => ?_, merge_sorted (List.pairwise_cons.2 h1) h2.2 (fun x hx y hy => hd x hx y (by simp [hy]))⟩
      have hz' := (merge_perm (a :: xs) ys).subset hz
      rcases List.mem_append.1 hz' with h | h
      · rcases List.mem_cons.1 h with rfl | h
        · exact hba
        · exact lotLt_tr _ _ _ hba (h1.1 z h)
      · exact h2.1 z h
theorem sorted_pw {R : Array Lot} (h : SortedIn lotLt 0 R.size R) : R.toList.Pairwise (fun x y => lotLt y x = false) := by
  rw [List.pairwise_iff_getElem]
  intro i j hi hj hij
  have hi' : i < R.size := hi
  have hj' : j < R.size := hj
  have := h i j (Nat.zero_le _) hij hj'
  rw [getElem!_pos R i hi', getElem!_pos R j hj'] at this
  simpa using this
theorem sort_merge {xs ys zs : List Lot} {d R : Array Lot} (hd : d.toList = xs ++ zs) (hz : zs.Perm ys) (h1 : xs.Pairwise (fun x y => lotLt x y = true)) (h2 : ys.Pairwise (fun x y => lotLt x y = true)) (h3 : ∀ x ∈ xs, ∀ y ∈ ys, lotLt x y = true ∨ lotLt y x = true) (hp : PermIn 0 d.size d R) (hs : SortedIn lotLt 0 R.size R) : R.toList = mergeL xs ys := by
  have hpl : R.toList.Perm d.toList := by
    obtain ⟨e, _, hp⟩ := hp
    have e1 : (R.extract 0 d.size).toList = R.toList := by rw [← e, Array.extract_size]
    have e2 : (d.extract 0 d.size).toList = d.toList := by rw [Array.extract_size]
    rw [e1, e2] at hp
    exact hp
  have hp2 : (mergeL xs ys).Perm R.toList := (merge_perm xs ys).trans (((List.Perm.append_left xs hz).symm.trans (by rw [← hd])).trans hpl.symm)
  exact (lots_uniq hp2 (merge_sorted h1 h2 h3) (sorted_pw hs)).symm
end Go.Proofs.YtkndmncgohmjmaaGreat
end
section
namespace Go.Proofs.YtkndmncgohmjmaaGreat
open Go.BL Go.RowKit
set_option linter.unusedVariables false
set_option linter.unusedSimpArgs false
set_option maxRecDepth 100000
theorem d323_0_LSortB : DrawL Tryz.prog 0 81 (.on [(0, false, true), (1, false, true), (2, false, true), (3, true, true), (4, true, true), (5, true, true), (6, true, true), (7, true, true), (8, true, true), (9, true, false), (10, false, false), (11, false, false), (12, false, false), (13, false, true), (14, false, true), (15, false, true), (16, false, true)] .nil) := draw_L
attribute [local go_sem] lotC
open Go.Sort
theorem w_ins (d : Array Lot) (n : Nat) (e : d.size = n) (g : Nat) (cap : Option Nat) (a b : Nat) (hab : a ≤ b) (hb : b ≤ n) (hn : n ≤ 1000) (K : AV → AH → Prop) (hk : ∀ R, PermIn a b d R → SortedIn lotLt a b R → K (.tup []) [arrO g cap R]) : ACalls Tryz.prog 363 [.one (.sl 0 g 0 n), (.one (.c (.int .i64 ((a : Int))))), (.one (.c (.int .i64 ((b : Int))))), .one (.clo 251 [])] [arrO g cap d] K :=
  s_insertionSort d n e g cap a b hab hb hn K (by
    have := insertionSort_holds swo_lotLt d a b hab (by omega)
    exact hk _ this.1 this.2)
theorem w_heap (d : Array Lot) (n : Nat) (e : d.size = n) (g : Nat) (cap : Option Nat) (a b : Nat) (hab : a ≤ b) (hb : b ≤ n) (hn : n ≤ 1000) (K : AV → AH → Prop) (hk : ∀ R, PermIn a b d R → SortedIn lotLt a b R → K (.tup []) [arrO g cap R]) : ACalls Tryz.prog 364 [.one (.sl 0 g 0 n), (.one (.c (.int .i64 ((a : Int))))), (.one (.c (.int .i64 ((b : Int))))), .one (.clo 251 [])] [arrO g cap d] K := by
  subst e
  refine h_heapSort d g cap a b hab hb hn K ?_
  have := heapSort_holds swo_lotLt d a b hab hb
  exact hk _ this.1 this.2
theorem w_break (d : Array Lot) (n : Nat) (e : d.size = n) (g : Nat) (cap : Option Nat) (a b : Nat) (hab : a + 8 ≤ b) (hb : b ≤ n) (hn : n ≤ 1000) (hB : Below lotLt a b d) (K : AV → AH → Prop) (hk : ∀ R, PermIn a b d R → Below lotLt a b R → K (.tup []) [arrO g cap R]) : ACalls Tryz.prog 365 [.one (.sl 0 g 0 n), (.one (.c (.int .i64 ((a : Int))))), (.one (.c (.int .i64 ((b : Int))))), .one (.clo 251 [])] [arrO g cap d] K :=
  s_breakPatterns d n e g cap a b hab hb hn K (by
    have h := breakPatterns_holds d a b (by omega) (by omega)
    exact hk _ h (hB.perm (by omega) h))
theorem w_rev (d : Array Lot) (n : Nat) (e : d.size = n) (g : Nat) (cap : Option Nat) (a b : Nat) (hab : a < b) (hb : b ≤ n) (hn : n ≤ 1000) (hB : Below lotLt a b d) (K : AV → AH → Prop) (hk : ∀ R, PermIn a b d R → Below lotLt a b R → K (.tup []) [arrO g cap R]) : ACalls Tryz.prog 367 [.one (.sl 0 g 0 n), (.one (.c (.int .i64 ((a : Int))))), (.one (.c (.int .i64 ((b : Int))))), .one (.clo 251 [])] [arrO g cap d] K :=
  s_reverseRange d n e g cap a b hab hb hn K (by
    have h := reverseRange_holds d a b (by omega) (by omega)
    exact hk _ h (hB.perm (by omega) h))
theorem w_pivot (d : Array Lot) (n : Nat) (e : d.size = n) (g : Nat) (cap : Option Nat) (a b : Nat) (hab : a < b) (hb : b ≤ n) (hn : n ≤ 1000) (K : AV → AH → Prop) (hk : ∀ (p : Nat) (c : Int), a ≤ p → p < b → K (.tup [(.one (.c (.int .i64 ((p : Int))))), (.one (.c (.int .i64 (c))))]) [arrO g cap d]) : ACalls Tryz.prog 366 [.one (.sl 0 g 0 n), (.one (.c (.int .i64 ((a : Int))))), (.one (.c (.int .i64 ((b : Int))))), .one (.clo 251 [])] [arrO g cap d] K :=
  s_choosePivot d n e g cap a b hab hb hn K (by
    have h := choosePivot_holds lotLt d a b hab
    exact hk _ _ h.1 h.2)
theorem w_pins (d : Array Lot) (n : Nat) (e : d.size = n) (g : Nat) (cap : Option Nat) (a b : Nat) (hab : a < b) (hb : b ≤ n) (hn : n ≤ 1000) (hB : Below lotLt a b d) (K : AV → AH → Prop) (hk : ∀ R (ok : Bool), PermIn a b d R → Below lotLt a b R → (ok = true → SortedIn lotLt a b R) → K (.one (.c (.bool (ok)))) [arrO g cap R]) : ACalls Tryz.prog 368 [.one (.sl 0 g 0 n), (.one (.c (.int .i64 ((a : Int))))), (.one (.c (.int .i64 ((b : Int))))), .one (.clo 251 [])] [arrO g cap d] K :=
  s_partialIns d n e g cap a b hab hb hn K (by
    have h := partialInsertionSort_holds swo_lotLt d a b hab (by omega) hB
    exact hk _ _ h.1 (hB.perm (by omega) h.1) h.2)
def Goes (d : Array Lot) (a b : Nat) (y : Array Lot) (a' b' : Nat) : Prop := Below lotLt a' b' y ∧ ∀ R, PermIn a' b' y R → SortedIn lotLt a' b' R → PermIn a b d R ∧ SortedIn lotLt a b R
theorem Goes.start {d : Array Lot} {a b : Nat} (hB : Below lotLt a b d) : Goes d a b d a b := ⟨hB, fun _ h1 h2 => ⟨h1, h2⟩⟩
theorem Goes.perm {d y z : Array Lot} {a b a' b' : Nat} (h : Goes d a b y a' b') (hb : b' ≤ y.size) (hp : PermIn a' b' y z) : Goes d a b z a' b' := ⟨h.1.perm hb hp, fun R h1 h2 => h.2 R (permIn_trans _ _ _ a' b' hp h1) h2⟩
theorem Goes.goes {d y z : Array Lot} {a b a' b' a2 b2 : Nat} (h : Goes d a b y a' b') (h2 : Goes y a' b' z a2 b2) : Goes d a b z a2 b2 := ⟨h2.1, fun R q1 q2 => let ⟨r1, r2⟩ := h2.2 R q1 q2; h.2 R r1 r2⟩
theorem w_peq (d : Array Lot) (n : Nat) (e : d.size = n) (g : Nat) (cap : Option Nat) (a b p : Nat) (hap : a ≤ p) (hpb : p < b) (hb : b ≤ n) (hn : n ≤ 1000) (h0 : 0 < a) (hB : Below lotLt a b d) (hnl : lotLt d[a - 1]! d[p]! = false) (K : AV → AH → Prop) (hk : ∀ (mid : Nat) R, a < mid → mid ≤ b → R.size = n → Goes d a b R mid b → K (.one (.c (.int .i64 ((mid : Int))))) [arrO g cap R]) : ACalls Tryz.prog 369 [.one (.sl 0 g 0 n), (.one (.c (.int .i64 ((a : Int))))), (.one (.c (.int .i64 ((b : Int))))), (.one (.c (.int .i64 ((p : Int))))), .one (.clo 251 [])] [arrO g cap d] K :=
  s_partitionEqual d n e g cap a b p hap hpb hb hn K (by
    obtain ⟨h1, h2, h3, h4, h5⟩ := round_eq swo_lotLt (partitionEqual_holds lotLt) h0 hap hpb (by omega) hB hnl (mid := (partitionEqual lotLt d a b p).1) (d4 := (partitionEqual lotLt d a b p).2) rfl
    exact hk _ _ h1 h2 (by omega) ⟨h4, h5⟩)
theorem w_part (d : Array Lot) (n : Nat) (e : d.size = n) (g : Nat) (cap : Option Nat) (a b p : Nat) (hap : a ≤ p) (hpb : p < b) (hb : b ≤ n) (hn : n ≤ 1000) (hB : Below lotLt a b d) (K : AV → AH → Prop)
    (hk : ∀ (mid : Nat) (ok : Bool) R, a ≤ mid → mid < b → R.size = n → Below lotLt a mid R → Below lotLt (mid + 1) b R → (∀ L, PermIn a mid R L → SortedIn lotLt a mid L → L.size = n ∧ Goes d a b L (mid + 1) b) → (∀ L, PermIn (mid + 1) b R L → SortedIn lotLt (mid + 1) b L → L.size = n ∧ Goes d a b L a mid) → K (.tup [(.one (.c (.int .i64 ((mid : Int))))), (.one (.c (.bool (ok))))]) [arrO g cap R]) : ACalls Tryz.prog 370 [.one (.sl 0 g 0 n), (.one (.c (.int .i64 ((a : Int))))), (.one (.c (.int .i64 ((b : Int))))), (.one (.c (.int .i64 ((p : Int))))), .one (.clo 251 [])] [arrO g cap d] K :=
  s_partition d n e g cap a b p hap hpb hb hn K (by
    obtain ⟨h1, h2, h3, h4, h5, h6, h7⟩ := round_part swo_lotLt (partition_holds lotLt) hap hpb (by omega) hB (mid := (partition lotLt d a b p).1) (ap := (partition lotLt d a b p).2.1) (d4 := (partition lotLt d a b p).2.2) rfl
    exact hk _ _ _ h1 h2 (by omega) h4 h5 (fun L q1 q2 => ⟨by rw [q1.1]; omega, h6 L q1 q2⟩) (fun L q1 q2 => ⟨by rw [q1.1]; omega, h7 L q1 q2⟩))
theorem q_sub {a b n : Nat} (h : a ≤ b) (hb : b ≤ n) (hn : n ≤ 1000) : wrap64 ((b : Int) - (a : Int)) = ((b - a : Nat) : Int) := by unfold wrap64; omega
theorem q_pre {x : Nat} (h0 : 0 < x) (h : x ≤ 1000) : wrap64 ((x : Int) - 1) = ((x - 1 : Nat) : Int) := by unfold wrap64; omega
theorem q_8 {l : Nat} (h : l ≤ 1000) : wrap64 (Int.tdiv (l : Int) 8) = ((l / 8 : Nat) : Int) := by
  have : Int.tdiv (l : Int) 8 = ((l / 8 : Nat) : Int) := (Int.ofNat_tdiv l 8).symm
  rw [this]; unfold wrap64; omega
theorem q_piv {a b p n : Nat} (h1 : a ≤ p) (h2 : p < b) (hb : b ≤ n) (hn : n ≤ 1000) : wrap64 ((b : Int) - 1) = ((b - 1 : Nat) : Int) ∧ wrap64 ((p : Int) - (a : Int)) = ((p - a : Nat) : Int) ∧ wrap64 (((b - 1 : Nat) : Int) - ((p - a : Nat) : Int)) = (((b - 1) - (p - a) : Nat) : Int) ∧ a ≤ (b - 1) - (p - a) ∧ (b - 1) - (p - a) < b := by
  refine ⟨?_, ?_, ?_, by omega, by omega⟩ <;> unfold wrap64 <;> omega
theorem q_eq0 {x : Nat} (h : 0 < x) : ((x : Int) == 0) = false := beq_eq_false_iff_ne.2 (by omega)
theorem q_part {x mid y n : Nat} (h1 : x ≤ mid) (h2 : mid < y) (hy : y ≤ n) (hn : n ≤ 1000) : wrap64 ((mid : Int) - (x : Int)) = ((mid - x : Nat) : Int) ∧ wrap64 ((y : Int) - (mid : Int)) = ((y - mid : Nat) : Int) ∧ wrap64 ((mid : Int) + 1) = ((mid + 1 : Nat) : Int) ∧ mid - x < y - x ∧ y - (mid + 1) < y - x ∧ mid + 1 ≤ y ∧ mid ≤ n ∧ mid ≤ y := by
  refine ⟨?_, ?_, ?_, by omega, by omega, by omega, by omega, by omega⟩ <;> unfold wrap64 <;> omega
theorem q_len {a b x y m : Nat} (h1 : a ≤ x) (h2 : y ≤ b) (hm : b - a ≤ m) : y - x ≤ m := by omega
theorem q_12 {x y n : Nat} (h : ¬ y - x ≤ 12) (hy : y ≤ n) (hn : n ≤ 1000) : x < y ∧ x + 8 ≤ y ∧ y - x ≤ 1000 ∧ x < n ∧ x ≤ 1000 := by omega
theorem q_mid {x mid y : Nat} (h1 : x < mid) (h2 : mid ≤ y) : y - mid < y - x ∧ x ≤ mid := by omega
theorem q_in {x p y n : Nat} (hp : p < y) (hy : y ≤ n) : p < n ∧ (p : Int) < (n : Int) := ⟨by omega, by omega⟩
theorem q_x1 {x y n : Nat} (h0 : 0 < x) (hx : x < y) (hy : y ≤ n) : x - 1 < n ∧ ((x - 1 : Nat) : Int) < (n : Int) := ⟨by omega, by omega⟩
theorem q_d12 {x y : Nat} : (y - x ≤ 12 → decide (((y - x : Nat) : Int) ≤ 12) = true) ∧ (¬ y - x ≤ 12 → decide (((y - x : Nat) : Int) ≤ 12) = false) := ⟨fun h => decide_eq_true (by omega), fun h => decide_eq_false (by omega)⟩
theorem q_lt (u v : Nat) : (u < v → decide ((u : Int) < (v : Int)) = true) ∧ (¬ u < v → decide ((u : Int) < (v : Int)) = false) := ⟨fun h => decide_eq_true (by omega), fun h => decide_eq_false (by omega)⟩
theorem q_lt0 (v : Nat) : (0 < v → decide ((0 : Int) < (v : Int)) = true) ∧ (¬ 0 < v → decide ((0 : Int) < (v : Int)) = false) := ⟨fun h => decide_eq_true (by omega), fun h => decide_eq_false (by omega)⟩
theorem q_le3 {a x x2 : Nat} (h : a ≤ x) (h2 : x ≤ x2) : a ≤ x2 := Nat.le_trans h h2
theorem q_dec {l : Nat} (h : l ≤ 1000) : l - 1 ≤ 1000 := by omega
theorem q_pos {l : Nat} (h : ¬ l = 0) : 0 < l := by omega
set_option maxHeartbeats 16000000 in
theorem s_pdq (m : Nat) : ∀ (d : Array Lot) (n : Nat) (e : d.size = n) (g : Nat) (cap : Option Nat) (a b limit : Nat) (hm : b - a ≤ m) (hab : a ≤ b) (hb : b ≤ n) (hn : n ≤ 1000) (hl : limit ≤ 1000) (hB : Below lotLt a b d) (K : AV → AH → Prop) (hk : ∀ R, PermIn a b d R → SortedIn lotLt a b R → K (.tup []) [arrO g cap R]), ACalls Tryz.prog 323 [.one (.sl 0 g 0 n), (.one (.c (.int .i64 ((a : Int))))), (.one (.c (.int .i64 ((b : Int))))), (.one (.c (.int .i64 ((limit : Int))))), .one (.clo 251 [])] [arrO g cap d] K := by
  induction m using Nat.strongRecOn with
  | _ m ih =>
  intro d n e g cap a b limit hm hab hb hn hl hB K hk
  have h8 : (8 : Int) ≠ 0 := by decide
  refine acall_h Tryz.f323.results.toList mixed Tryz.func323 rfl rfl (by kernel_rfl) ?_
  intro Q hQ hQN
  simp only [go_sem, arrO]
  (try simp only [go_sem]); repeat' (first | (with_reducible first | refine c_split ?_ ?_ | refine w_split ?_ ?_ | refine tw_split ?_ ?_) <;> intro hb <;> try simp only [go_sem, hb] | with_reducible refine d323_0_LSortB (by with_unfolding_all rfl) (by kernel_rfl) ?_ <;> try simp only [go_sem] | fail)
  refine while_at (α := Nat × Nat × Nat × Bool × Bool × Array Lot) (fun ⟨x, y, lim, wb, wp, z⟩ => y - x) [0, 4] (fun ⟨x, y, lim, wb, wp, z⟩ f h => f 1 = (.one (.c (.int .i64 ((x : Int))))) ∧ f 2 = (.one (.c (.int .i64 ((y : Int))))) ∧ f 3 = (.one (.c (.int .i64 ((lim : Int))))) ∧ f 10 = (.one (.c (.bool (wb)))) ∧ f 11 = (.one (.c (.bool (wp)))) ∧ h = [.own g 112 5 cap (z.toList.map lotC)] ∧ a ≤ x ∧ x ≤ y ∧ y ≤ b ∧ lim ≤ 1000 ∧ z.size = n ∧ Goes d a b z x y) (a, b, limit, true, true, d) (GC.now ?_) ?_
  · simp only [go_sem, nc_0, true_and]
    exact ⟨hab, hl, e, Goes.start hB⟩
  · rintro ⟨x, y, lim, wb, wp, z⟩ f h J hA ⟨e1, e2, e3, e10, e11, rfl, hP⟩ hJ
    simp only [go_sem] at hA
    try dsimp only at hJ
    simp only [go_sem, hA, e1, e2, e3, e10, e11]
    obtain ⟨hax, hxy, hyb, hlm, hzs, hgo⟩ := hP
    have hyn : y ≤ n := Nat.le_trans hyb hb
    have w1 := q_sub hxy hyn hn
    have hym := q_len hax hyb hm
    by_cases h12 : y - x ≤ 12
    · have d12 := q_d12.1 h12
      (try simp only [go_sem, hA, e1, e2, e3, e10, e11, w1, d12]); repeat' (first | (with_reducible first | refine c_split ?_ ?_ | refine w_split ?_ ?_ | refine tw_split ?_ ?_) <;> intro hb <;> try simp only [go_sem, hb, hA, e1, e2, e3, e10, e11, w1, d12] | with_reducible refine d323_0_LSortB (by with_unfolding_all rfl) (by kernel_rfl) ?_ <;> try simp only [go_sem, hA, e1, e2, e3, e10, e11, w1, d12] | fail)
      refine call_h (w_ins z n hzs g cap x y hxy hyn hn _ (fun R p1 s1 => ?_))
      simp only [arrO]
      (try simp only [go_sem, hA, e1, e2, e3, e10, e11]); repeat' (first | (with_reducible first | refine c_split ?_ ?_ | refine w_split ?_ ?_ | refine tw_split ?_ ?_) <;> intro hb <;> try simp only [go_sem, hb, hA, e1, e2, e3, e10, e11] | with_reducible refine d323_0_LSortB (by with_unfolding_all rfl) (by kernel_rfl) ?_ <;> try simp only [go_sem, hA, e1, e2, e3, e10, e11] | fail)
      obtain ⟨r1, r2⟩ := hgo.2 R p1 s1
      refine hQ [] _ _ (GC.now ?_) <;> simp only [Tryz.f323, go_sem, List.nodup_cons, List.nodup_nil, List.mem_cons, List.not_mem_nil, or_false, not_false_eq_true, List.idxOf?_cons, List.idxOf?_nil, Option.map_none, forall_eq]
      exact hk R r1 r2
    have d12 := q_d12.2 h12
    obtain ⟨hlt, h8y, hy8, hxn, hx1000⟩ := q_12 h12 hyn hn
    have w8 := q_8 hy8
    by_cases hl0 : lim = 0
    · subst hl0
      have dl : (((0 : Nat) : Int) == 0) = true := rfl
      (try simp only [go_sem, hA, e1, e2, e3, e10, e11, w1, d12, dl]); repeat' (first | (with_reducible first | refine c_split ?_ ?_ | refine w_split ?_ ?_ | refine tw_split ?_ ?_) <;> intro hb <;> try simp only [go_sem, hb, hA, e1, e2, e3, e10, e11, w1, d12, dl] | with_reducible refine d323_0_LSortB (by with_unfolding_all rfl) (by kernel_rfl) ?_ <;> try simp only [go_sem, hA, e1, e2, e3, e10, e11, w1, d12, dl] | fail)
      refine call_h (w_heap z n hzs g cap x y hxy hyn hn _ (fun R p1 s1 => ?_))
      simp only [arrO]
      (try simp only [go_sem, hA, e1, e2, e3, e10, e11]); repeat' (first | (with_reducible first | refine c_split ?_ ?_ | refine w_split ?_ ?_ | refine tw_split ?_ ?_) <;> intro hb <;> try simp only [go_sem, hb, hA, e1, e2, e3, e10, e11] | with_reducible refine d323_0_LSortB (by with_unfolding_all rfl) (by kernel_rfl) ?_ <;> try simp only [go_sem, hA, e1, e2, e3, e10, e11] | fail)
      obtain ⟨r1, r2⟩ := hgo.2 R p1 s1
      refine hQ [] _ _ (GC.now ?_) <;> simp only [Tryz.f323, go_sem, List.nodup_cons, List.nodup_nil, List.mem_cons, List.not_mem_nil, or_false, not_false_eq_true, List.idxOf?_cons, List.idxOf?_nil, Option.map_none, forall_eq]
      exact hk R r1 r2
    have dl := q_eq0 (q_pos hl0)
    have wl := q_pre (q_pos hl0) hlm
    have hlm1 := q_dec hlm
    cases wb with
    | false =>
      (try simp only [go_sem, hA, e1, e2, e3, e10, e11, w1, d12, dl, wl]); repeat' (first | (with_reducible first | refine c_split ?_ ?_ | refine w_split ?_ ?_ | refine tw_split ?_ ?_) <;> intro hb <;> try simp only [go_sem, hb, hA, e1, e2, e3, e10, e11, w1, d12, dl, wl] | with_reducible refine d323_0_LSortB (by with_unfolding_all rfl) (by kernel_rfl) ?_ <;> try simp only [go_sem, hA, e1, e2, e3, e10, e11, w1, d12, dl, wl] | fail)
      refine call_h (w_break z n hzs g cap x y h8y hyn hn hgo.1 _ (fun z1 P1 B1 => ?_))
      simp only [arrO]
      have zs1 : z1.size = n := by rw [P1.1]; exact hzs
      have g1 := Goes.perm hgo (hzs ▸ hyn) P1
      (try simp only [go_sem, hA, e1, e2, e3, e10, e11, w1, d12, dl, wl]); repeat' (first | (with_reducible first | refine c_split ?_ ?_ | refine w_split ?_ ?_ | refine tw_split ?_ ?_) <;> intro hb <;> try simp only [go_sem, hb, hA, e1, e2, e3, e10, e11, w1, d12, dl, wl] | with_reducible refine d323_0_LSortB (by with_unfolding_all rfl) (by kernel_rfl) ?_ <;> try simp only [go_sem, hA, e1, e2, e3, e10, e11, w1, d12, dl, wl] | fail)
      refine call_h (w_pivot z1 n zs1 g cap x y hlt hyn hn _ (fun p c hp1 hp2 => ?_))
      simp only [arrO]
      obtain ⟨u1, u2, u3, hq1, hq2⟩ := q_piv hp1 hp2 hyn hn
      cases h2 : (c == 2) with
      | true =>
        (try simp only [go_sem, hA, e1, e2, e3, e10, e11, wl, h2, u1, u2, u3]); repeat' (first | (with_reducible first | refine c_split ?_ ?_ | refine w_split ?_ ?_ | refine tw_split ?_ ?_) <;> intro hb <;> try simp only [go_sem, hb, hA, e1, e2, e3, e10, e11, wl, h2, u1, u2, u3] | with_reducible refine d323_0_LSortB (by with_unfolding_all rfl) (by kernel_rfl) ?_ <;> try simp only [go_sem, hA, e1, e2, e3, e10, e11, wl, h2, u1, u2, u3] | fail)
        refine call_h (w_rev z1 n zs1 g cap x y hlt hyn hn g1.1 _ (fun z2 P2 B2 => ?_))
        simp only [arrO]
        have zs2 : z2.size = n := by rw [P2.1]; exact zs1
        have g2 := Goes.perm g1 (zs1 ▸ hyn) P2
        by_cases hx0 : 0 < x
        · have dx := (q_lt0 x).1 hx0
          have wx := q_pre hx0 hx1000
          obtain ⟨hx1n, lx⟩ := q_x1 hx0 hlt hyn
          obtain ⟨hpn, lp⟩ := q_in (x := x) hq2 hyn
          have gx := arr_get z2 (zs2 ▸ hx1n)
          have gp := arr_get z2 (zs2 ▸ hpn)
          cases hc : lotLt z2[x - 1]! z2[(y - 1 - (p - x))]! with
          | false =>
            have kd : decide (lotCmp z2[x - 1]! z2[(y - 1 - (p - x))]! < 0) = false := by rw [← lotCmp_lt]; exact hc
            (try simp only [go_sem, hA, e1, e2, e3, e10, e11, wl, h2, u1, u2, u3, dx, wx, gx, gp, lx, lp, kd]); repeat' (first | (with_reducible first | refine c_split ?_ ?_ | refine w_split ?_ ?_ | refine tw_split ?_ ?_) <;> intro hb <;> try simp only [go_sem, hb, hA, e1, e2, e3, e10, e11, wl, h2, u1, u2, u3, dx, wx, gx, gp, lx, lp, kd] | (first | with_reducible refine d323_0_LSortB (by with_unfolding_all rfl) (by kernel_rfl) ?_ | refine call_c (c_lotBefore _ _ _ ?_) | fail) <;> try simp only [go_sem, hA, e1, e2, e3, e10, e11, wl, h2, u1, u2, u3, dx, wx, gx, gp, lx, lp, kd] | fail)
            refine call_h (w_peq z2 n zs2 g cap x y (y - 1 - (p - x)) hq1 hq2 hyn hn hx0 g2.1 hc _ (fun mid R m1 m2 Rs gR => ?_))
            simp only [arrO]
            (try simp only [go_sem, hA, e1, e2, e3, e10, e11, wl, h2, u1, u2, u3]); repeat' (first | (with_reducible first | refine c_split ?_ ?_ | refine w_split ?_ ?_ | refine tw_split ?_ ?_) <;> intro hb <;> try simp only [go_sem, hb, hA, e1, e2, e3, e10, e11, wl, h2, u1, u2, u3] | with_reducible refine d323_0_LSortB (by with_unfolding_all rfl) (by kernel_rfl) ?_ <;> try simp only [go_sem, hA, e1, e2, e3, e10, e11, wl, h2, u1, u2, u3] | fail)
            obtain ⟨hdec, hxm⟩ := q_mid m1 m2
            refine GC.now (hJ (mid, y, (lim - 1), false, wp, R) _ _ (by exact hdec) (by simp only [go_sem, hA, e1, e2, e3, e10, e11]) ⟨?_, ?_, ?_, ?_, ?_, ?_, ?_⟩) <;> try simp only [go_sem, hA, e1, e2, e3, e10, e11, wl, h2, u1, u2, u3]
            exact ⟨q_le3 hax hxm, m2, hyb, hlm1, Rs, g2.goes gR⟩
          | true =>
            have kd : decide (lotCmp z2[x - 1]! z2[(y - 1 - (p - x))]! < 0) = true := by rw [← lotCmp_lt]; exact hc
            (try simp only [go_sem, hA, e1, e2, e3, e10, e11, wl, h2, u1, u2, u3, dx, wx, gx, gp, lx, lp, kd]); repeat' (first | (with_reducible first | refine c_split ?_ ?_ | refine w_split ?_ ?_ | refine tw_split ?_ ?_) <;> intro hb <;> try simp only [go_sem, hb, hA, e1, e2, e3, e10, e11, wl, h2, u1, u2, u3, dx, wx, gx, gp, lx, lp, kd] | (first | with_reducible refine d323_0_LSortB (by with_unfolding_all rfl) (by kernel_rfl) ?_ | refine call_c (c_lotBefore _ _ _ ?_) | fail) <;> try simp only [go_sem, hA, e1, e2, e3, e10, e11, wl, h2, u1, u2, u3, dx, wx, gx, gp, lx, lp, kd] | fail)
            refine call_h (w_part z2 n zs2 g cap x y (y - 1 - (p - x)) hq1 hq2 hyn hn g2.1 _ (fun mid ok R m1 m2 Rs B1 B2 L1 L2 => ?_))
            simp only [arrO]
            obtain ⟨v1, v2, v3, t1, t2, t3, t4, t5⟩ := q_part m1 m2 hyn hn
            by_cases hlr : mid - x < y - mid
            · have dlr := (q_lt _ _).1 hlr
              (try simp only [go_sem, hA, e1, e2, e3, e10, e11, wl, h2, u1, u2, u3, w1, v1, v2, v3, h8, w8, dlr, ne_eq, not_false_eq_true, b_quo]); repeat' (first | (with_reducible first | refine c_split ?_ ?_ | refine w_split ?_ ?_ | refine tw_split ?_ ?_) <;> intro hb <;> try simp only [go_sem, hb, hA, e1, e2, e3, e10, e11, wl, h2, u1, u2, u3, w1, v1, v2, v3, h8, w8, dlr, ne_eq, not_false_eq_true, b_quo] | with_reducible refine d323_0_LSortB (by with_unfolding_all rfl) (by kernel_rfl) ?_ <;> try simp only [go_sem, hA, e1, e2, e3, e10, e11, wl, h2, u1, u2, u3, w1, v1, v2, v3, h8, w8, dlr, ne_eq, not_false_eq_true, b_quo] | fail)
              refine call_h (ih (mid - x) (Nat.lt_of_lt_of_le t1 hym) R n Rs g cap x mid (lim - 1) (Nat.le_refl _) m1 t4 hn hlm1 B1 _ (fun Q p1 s1 => ?_))
              obtain ⟨Qs, gQ⟩ := L1 Q p1 s1
              simp only [arrO]
              (try simp only [go_sem, hA, e1, e2, e3, e10, e11, wl, h2, u1, u2, u3, v1, v2, v3]); repeat' (first | (with_reducible first | refine c_split ?_ ?_ | refine w_split ?_ ?_ | refine tw_split ?_ ?_) <;> intro hb <;> try simp only [go_sem, hb, hA, e1, e2, e3, e10, e11, wl, h2, u1, u2, u3, v1, v2, v3] | with_reducible refine d323_0_LSortB (by with_unfolding_all rfl) (by kernel_rfl) ?_ <;> try simp only [go_sem, hA, e1, e2, e3, e10, e11, wl, h2, u1, u2, u3, v1, v2, v3] | fail)
              refine GC.now (hJ (mid + 1, y, (lim - 1), decide ((((y - x) / 8 : Nat) : Int) ≤ ((mid - x : Nat) : Int)), ok, Q) _ _ (by exact t2) (by simp only [go_sem, hA, e1, e2, e3, e10, e11]) ⟨?_, ?_, ?_, ?_, ?_, ?_, ?_⟩) <;> try simp only [go_sem, hA, e1, e2, e3, e10, e11, v1, v2, v3, wl, h2, u1, u2, u3]
              exact ⟨q_le3 hax (Nat.le_succ_of_le m1), t3, hyb, hlm1, Qs, g2.goes gQ⟩
            · have dlr := (q_lt _ _).2 hlr
              (try simp only [go_sem, hA, e1, e2, e3, e10, e11, wl, h2, u1, u2, u3, w1, v1, v2, v3, h8, w8, dlr, ne_eq, not_false_eq_true, b_quo]); repeat' (first | (with_reducible first | refine c_split ?_ ?_ | refine w_split ?_ ?_ | refine tw_split ?_ ?_) <;> intro hb <;> try simp only [go_sem, hb, hA, e1, e2, e3, e10, e11, wl, h2, u1, u2, u3, w1, v1, v2, v3, h8, w8, dlr, ne_eq, not_false_eq_true, b_quo] | with_reducible refine d323_0_LSortB (by with_unfolding_all rfl) (by kernel_rfl) ?_ <;> try simp only [go_sem, hA, e1, e2, e3, e10, e11, wl, h2, u1, u2, u3, w1, v1, v2, v3, h8, w8, dlr, ne_eq, not_false_eq_true, b_quo] | fail)
              refine call_h (ih (y - (mid + 1)) (Nat.lt_of_lt_of_le t2 hym) R n Rs g cap (mid + 1) y (lim - 1) (Nat.le_refl _) t3 hyn hn hlm1 B2 _ (fun Q p1 s1 => ?_))
              obtain ⟨Qs, gQ⟩ := L2 Q p1 s1
              simp only [arrO]
              (try simp only [go_sem, hA, e1, e2, e3, e10, e11, wl, h2, u1, u2, u3, v1, v2, v3]); repeat' (first | (with_reducible first | refine c_split ?_ ?_ | refine w_split ?_ ?_ | refine tw_split ?_ ?_) <;> intro hb <;> try simp only [go_sem, hb, hA, e1, e2, e3, e10, e11, wl, h2, u1, u2, u3, v1, v2, v3] | with_reducible refine d323_0_LSortB (by with_unfolding_all rfl) (by kernel_rfl) ?_ <;> try simp only [go_sem, hA, e1, e2, e3, e10, e11, wl, h2, u1, u2, u3, v1, v2, v3] | fail)
              refine GC.now (hJ (x, mid, (lim - 1), decide ((((y - x) / 8 : Nat) : Int) ≤ ((y - mid : Nat) : Int)), ok, Q) _ _ (by exact t1) (by simp only [go_sem, hA, e1, e2, e3, e10, e11]) ⟨?_, ?_, ?_, ?_, ?_, ?_, ?_⟩) <;> try simp only [go_sem, hA, e1, e2, e3, e10, e11, v1, v2, v3, wl, h2, u1, u2, u3]
              exact ⟨hax, m1, q_le3 t5 hyb, hlm1, Qs, g2.goes gQ⟩
        · have dx := (q_lt0 x).2 hx0
          (try simp only [go_sem, hA, e1, e2, e3, e10, e11, wl, h2, u1, u2, u3, dx]); repeat' (first | (with_reducible first | refine c_split ?_ ?_ | refine w_split ?_ ?_ | refine tw_split ?_ ?_) <;> intro hb <;> try simp only [go_sem, hb, hA, e1, e2, e3, e10, e11, wl, h2, u1, u2, u3, dx] | with_reducible refine d323_0_LSortB (by with_unfolding_all rfl) (by kernel_rfl) ?_ <;> try simp only [go_sem, hA, e1, e2, e3, e10, e11, wl, h2, u1, u2, u3, dx] | fail)
          refine call_h (w_part z2 n zs2 g cap x y (y - 1 - (p - x)) hq1 hq2 hyn hn g2.1 _ (fun mid ok R m1 m2 Rs B1 B2 L1 L2 => ?_))
          simp only [arrO]
          obtain ⟨v1, v2, v3, t1, t2, t3, t4, t5⟩ := q_part m1 m2 hyn hn
          by_cases hlr : mid - x < y - mid
          · have dlr := (q_lt _ _).1 hlr
            (try simp only [go_sem, hA, e1, e2, e3, e10, e11, wl, h2, u1, u2, u3, w1, v1, v2, v3, h8, w8, dlr, ne_eq, not_false_eq_true, b_quo]); repeat' (first | (with_reducible first | refine c_split ?_ ?_ | refine w_split ?_ ?_ | refine tw_split ?_ ?_) <;> intro hb <;> try simp only [go_sem, hb, hA, e1, e2, e3, e10, e11, wl, h2, u1, u2, u3, w1, v1, v2, v3, h8, w8, dlr, ne_eq, not_false_eq_true, b_quo] | with_reducible refine d323_0_LSortB (by with_unfolding_all rfl) (by kernel_rfl) ?_ <;> try simp only [go_sem, hA, e1, e2, e3, e10, e11, wl, h2, u1, u2, u3, w1, v1, v2, v3, h8, w8, dlr, ne_eq, not_false_eq_true, b_quo] | fail)
            refine call_h (ih (mid - x) (Nat.lt_of_lt_of_le t1 hym) R n Rs g cap x mid (lim - 1) (Nat.le_refl _) m1 t4 hn hlm1 B1 _ (fun Q p1 s1 => ?_))
            obtain ⟨Qs, gQ⟩ := L1 Q p1 s1
            simp only [arrO]
            (try simp only [go_sem, hA, e1, e2, e3, e10, e11, wl, h2, u1, u2, u3, v1, v2, v3]); repeat' (first | (with_reducible first | refine c_split ?_ ?_ | refine w_split ?_ ?_ | refine tw_split ?_ ?_) <;> intro hb <;> try simp only [go_sem, hb, hA, e1, e2, e3, e10, e11, wl, h2, u1, u2, u3, v1, v2, v3] | with_reducible refine d323_0_LSortB (by with_unfolding_all rfl) (by kernel_rfl) ?_ <;> try simp only [go_sem, hA, e1, e2, e3, e10, e11, wl, h2, u1, u2, u3, v1, v2, v3] | fail)
            refine GC.now (hJ (mid + 1, y, (lim - 1), decide ((((y - x) / 8 : Nat) : Int) ≤ ((mid - x : Nat) : Int)), ok, Q) _ _ (by exact t2) (by simp only [go_sem, hA, e1, e2, e3, e10, e11]) ⟨?_, ?_, ?_, ?_, ?_, ?_, ?_⟩) <;> try simp only [go_sem, hA, e1, e2, e3, e10, e11, v1, v2, v3, wl, h2, u1, u2, u3]
            exact ⟨q_le3 hax (Nat.le_succ_of_le m1), t3, hyb, hlm1, Qs, g2.goes gQ⟩
          · have dlr := (q_lt _ _).2 hlr
            (try simp only [go_sem, hA, e1, e2, e3, e10, e11, wl, h2, u1, u2, u3, w1, v1, v2, v3, h8, w8, dlr, ne_eq, not_false_eq_true, b_quo]); repeat' (first | (with_reducible first | refine c_split ?_ ?_ | refine w_split ?_ ?_ | refine tw_split ?_ ?_) <;> intro hb <;> try simp only [go_sem, hb, hA, e1, e2, e3, e10, e11, wl, h2, u1, u2, u3, w1, v1, v2, v3, h8, w8, dlr, ne_eq, not_false_eq_true, b_quo] | with_reducible refine d323_0_LSortB (by with_unfolding_all rfl) (by kernel_rfl) ?_ <;> try simp only [go_sem, hA, e1, e2, e3, e10, e11, wl, h2, u1, u2, u3, w1, v1, v2, v3, h8, w8, dlr, ne_eq, not_false_eq_true, b_quo] | fail)
            refine call_h (ih (y - (mid + 1)) (Nat.lt_of_lt_of_le t2 hym) R n Rs g cap (mid + 1) y (lim - 1) (Nat.le_refl _) t3 hyn hn hlm1 B2 _ (fun Q p1 s1 => ?_))
            obtain ⟨Qs, gQ⟩ := L2 Q p1 s1
            simp only [arrO]
            (try simp only [go_sem, hA, e1, e2, e3, e10, e11, wl, h2, u1, u2, u3, v1, v2, v3]); repeat' (first | (with_reducible first | refine c_split ?_ ?_ | refine w_split ?_ ?_ | refine tw_split ?_ ?_) <;> intro hb <;> try simp only [go_sem, hb, hA, e1, e2, e3, e10, e11, wl, h2, u1, u2, u3, v1, v2, v3] | with_reducible refine d323_0_LSortB (by with_unfolding_all rfl) (by kernel_rfl) ?_ <;> try simp only [go_sem, hA, e1, e2, e3, e10, e11, wl, h2, u1, u2, u3, v1, v2, v3] | fail)
            refine GC.now (hJ (x, mid, (lim - 1), decide ((((y - x) / 8 : Nat) : Int) ≤ ((y - mid : Nat) : Int)), ok, Q) _ _ (by exact t1) (by simp only [go_sem, hA, e1, e2, e3, e10, e11]) ⟨?_, ?_, ?_, ?_, ?_, ?_, ?_⟩) <;> try simp only [go_sem, hA, e1, e2, e3, e10, e11, v1, v2, v3, wl, h2, u1, u2, u3]
            exact ⟨hax, m1, q_le3 t5 hyb, hlm1, Qs, g2.goes gQ⟩
      | false =>
        by_cases hx0 : 0 < x
        · have dx := (q_lt0 x).1 hx0
          have wx := q_pre hx0 hx1000
          obtain ⟨hx1n, lx⟩ := q_x1 hx0 hlt hyn
          obtain ⟨hpn, lp⟩ := q_in (x := x) hp2 hyn
          have gx := arr_get z1 (zs1 ▸ hx1n)
          have gp := arr_get z1 (zs1 ▸ hpn)
          cases hc : lotLt z1[x - 1]! z1[p]! with
          | false =>
            have kd : decide (lotCmp z1[x - 1]! z1[p]! < 0) = false := by rw [← lotCmp_lt]; exact hc
            (try simp only [go_sem, hA, e1, e2, e3, e10, e11, wl, h2, dx, wx, gx, gp, lx, lp, kd]); repeat' (first | (with_reducible first | refine c_split ?_ ?_ | refine w_split ?_ ?_ | refine tw_split ?_ ?_) <;> intro hb <;> try simp only [go_sem, hb, hA, e1, e2, e3, e10, e11, wl, h2, dx, wx, gx, gp, lx, lp, kd] | (first | with_reducible refine d323_0_LSortB (by with_unfolding_all rfl) (by kernel_rfl) ?_ | refine call_c (c_lotBefore _ _ _ ?_) | fail) <;> try simp only [go_sem, hA, e1, e2, e3, e10, e11, wl, h2, dx, wx, gx, gp, lx, lp, kd] | fail)
            refine call_h (w_peq z1 n zs1 g cap x y p hp1 hp2 hyn hn hx0 g1.1 hc _ (fun mid R m1 m2 Rs gR => ?_))
            simp only [arrO]
            (try simp only [go_sem, hA, e1, e2, e3, e10, e11, wl, h2]); repeat' (first | (with_reducible first | refine c_split ?_ ?_ | refine w_split ?_ ?_ | refine tw_split ?_ ?_) <;> intro hb <;> try simp only [go_sem, hb, hA, e1, e2, e3, e10, e11, wl, h2] | with_reducible refine d323_0_LSortB (by with_unfolding_all rfl) (by kernel_rfl) ?_ <;> try simp only [go_sem, hA, e1, e2, e3, e10, e11, wl, h2] | fail)
            obtain ⟨hdec, hxm⟩ := q_mid m1 m2
            refine GC.now (hJ (mid, y, (lim - 1), false, wp, R) _ _ (by exact hdec) (by simp only [go_sem, hA, e1, e2, e3, e10, e11]) ⟨?_, ?_, ?_, ?_, ?_, ?_, ?_⟩) <;> try simp only [go_sem, hA, e1, e2, e3, e10, e11, wl, h2]
            exact ⟨q_le3 hax hxm, m2, hyb, hlm1, Rs, g1.goes gR⟩
          | true =>
            have kd : decide (lotCmp z1[x - 1]! z1[p]! < 0) = true := by rw [← lotCmp_lt]; exact hc
            (try simp only [go_sem, hA, e1, e2, e3, e10, e11, wl, h2, dx, wx, gx, gp, lx, lp, kd]); repeat' (first | (with_reducible first | refine c_split ?_ ?_ | refine w_split ?_ ?_ | refine tw_split ?_ ?_) <;> intro hb <;> try simp only [go_sem, hb, hA, e1, e2, e3, e10, e11, wl, h2, dx, wx, gx, gp, lx, lp, kd] | (first | with_reducible refine d323_0_LSortB (by with_unfolding_all rfl) (by kernel_rfl) ?_ | refine call_c (c_lotBefore _ _ _ ?_) | fail) <;> try simp only [go_sem, hA, e1, e2, e3, e10, e11, wl, h2, dx, wx, gx, gp, lx, lp, kd] | fail)
            refine call_h (w_part z1 n zs1 g cap x y p hp1 hp2 hyn hn g1.1 _ (fun mid ok R m1 m2 Rs B1 B2 L1 L2 => ?_))
            simp only [arrO]
            obtain ⟨v1, v2, v3, t1, t2, t3, t4, t5⟩ := q_part m1 m2 hyn hn
            by_cases hlr : mid - x < y - mid
            · have dlr := (q_lt _ _).1 hlr
              (try simp only [go_sem, hA, e1, e2, e3, e10, e11, wl, h2, w1, v1, v2, v3, h8, w8, dlr, ne_eq, not_false_eq_true, b_quo]); repeat' (first | (with_reducible first | refine c_split ?_ ?_ | refine w_split ?_ ?_ | refine tw_split ?_ ?_) <;> intro hb <;> try simp only [go_sem, hb, hA, e1, e2, e3, e10, e11, wl, h2, w1, v1, v2, v3, h8, w8, dlr, ne_eq, not_false_eq_true, b_quo] | with_reducible refine d323_0_LSortB (by with_unfolding_all rfl) (by kernel_rfl) ?_ <;> try simp only [go_sem, hA, e1, e2, e3, e10, e11, wl, h2, w1, v1, v2, v3, h8, w8, dlr, ne_eq, not_false_eq_true, b_quo] | fail)
              refine call_h (ih (mid - x) (Nat.lt_of_lt_of_le t1 hym) R n Rs g cap x mid (lim - 1) (Nat.le_refl _) m1 t4 hn hlm1 B1 _ (fun Q p1 s1 => ?_))
              obtain ⟨Qs, gQ⟩ := L1 Q p1 s1
              simp only [arrO]
              (try simp only [go_sem, hA, e1, e2, e3, e10, e11, wl, h2, v1, v2, v3]); repeat' (first | (with_reducible first | refine c_split ?_ ?_ | refine w_split ?_ ?_ | refine tw_split ?_ ?_) <;> intro hb <;> try simp only [go_sem, hb, hA, e1, e2, e3, e10, e11, wl, h2, v1, v2, v3] | with_reducible refine d323_0_LSortB (by with_unfolding_all rfl) (by kernel_rfl) ?_ <;> try simp only [go_sem, hA, e1, e2, e3, e10, e11, wl, h2, v1, v2, v3] | fail)
              refine GC.now (hJ (mid + 1, y, (lim - 1), decide ((((y - x) / 8 : Nat) : Int) ≤ ((mid - x : Nat) : Int)), ok, Q) _ _ (by exact t2) (by simp only [go_sem, hA, e1, e2, e3, e10, e11]) ⟨?_, ?_, ?_, ?_, ?_, ?_, ?_⟩) <;> try simp only [go_sem, hA, e1, e2, e3, e10, e11, v1, v2, v3, wl, h2]
              exact ⟨q_le3 hax (Nat.le_succ_of_le m1), t3, hyb, hlm1, Qs, g1.goes gQ⟩
            · have dlr := (q_lt _ _).2 hlr
              (try simp only [go_sem, hA, e1, e2, e3, e10, e11, wl, h2, w1, v1, v2, v3, h8, w8, dlr, ne_eq, not_false_eq_true, b_quo]); repeat' (first | (with_reducible first | refine c_split ?_ ?_ | refine w_split ?_ ?_ | refine tw_split ?_ ?_) <;> intro hb <;> try simp only [go_sem, hb, hA, e1, e2, e3, e10, e11, wl, h2, w1, v1, v2, v3, h8, w8, dlr, ne_eq, not_false_eq_true, b_quo] | with_reducible refine d323_0_LSortB (by with_unfolding_all rfl) (by kernel_rfl) ?_ <;> try simp only [go_sem, hA, e1, e2, e3, e10, e11, wl, h2, w1, v1, v2, v3, h8, w8, dlr, ne_eq, not_false_eq_true, b_quo] | fail)
              refine call_h (ih (y - (mid + 1)) (Nat.lt_of_lt_of_le t2 hym) R n Rs g cap (mid + 1) y (lim - 1) (Nat.le_refl _) t3 hyn hn hlm1 B2 _ (fun Q p1 s1 => ?_))
              obtain ⟨Qs, gQ⟩ := L2 Q p1 s1
              simp only [arrO]
              (try simp only [go_sem, hA, e1, e2, e3, e10, e11, wl, h2, v1, v2, v3]); repeat' (first | (with_reducible first | refine c_split ?_ ?_ | refine w_split ?_ ?_ | refine tw_split ?_ ?_) <;> intro hb <;> try simp only [go_sem, hb, hA, e1, e2, e3, e10, e11, wl, h2, v1, v2, v3] | with_reducible refine d323_0_LSortB (by with_unfolding_all rfl) (by kernel_rfl) ?_ <;> try simp only [go_sem, hA, e1, e2, e3, e10, e11, wl, h2, v1, v2, v3] | fail)
              refine GC.now (hJ (x, mid, (lim - 1), decide ((((y - x) / 8 : Nat) : Int) ≤ ((y - mid : Nat) : Int)), ok, Q) _ _ (by exact t1) (by simp only [go_sem, hA, e1, e2, e3, e10, e11]) ⟨?_, ?_, ?_, ?_, ?_, ?_, ?_⟩) <;> try simp only [go_sem, hA, e1, e2, e3, e10, e11, v1, v2, v3, wl, h2]
              exact ⟨hax, m1, q_le3 t5 hyb, hlm1, Qs, g1.goes gQ⟩
        · have dx := (q_lt0 x).2 hx0
          (try simp only [go_sem, hA, e1, e2, e3, e10, e11, wl, h2, dx]); repeat' (first | (with_reducible first | refine c_split ?_ ?_ | refine w_split ?_ ?_ | refine tw_split ?_ ?_) <;> intro hb <;> try simp only [go_sem, hb, hA, e1, e2, e3, e10, e11, wl, h2, dx] | with_reducible refine d323_0_LSortB (by with_unfolding_all rfl) (by kernel_rfl) ?_ <;> try simp only [go_sem, hA, e1, e2, e3, e10, e11, wl, h2, dx] | fail)
          refine call_h (w_part z1 n zs1 g cap x y p hp1 hp2 hyn hn g1.1 _ (fun mid ok R m1 m2 Rs B1 B2 L1 L2 => ?_))
          simp only [arrO]
          obtain ⟨v1, v2, v3, t1, t2, t3, t4, t5⟩ := q_part m1 m2 hyn hn
          by_cases hlr : mid - x < y - mid
          · have dlr := (q_lt _ _).1 hlr
            (try simp only [go_sem, hA, e1, e2, e3, e10, e11, wl, h2, w1, v1, v2, v3, h8, w8, dlr, ne_eq, not_false_eq_true, b_quo]); repeat' (first | (with_reducible first | refine c_split ?_ ?_ | refine w_split ?_ ?_ | refine tw_split ?_ ?_) <;> intro hb <;> try simp only [go_sem, hb, hA, e1, e2, e3, e10, e11, wl, h2, w1, v1, v2, v3, h8, w8, dlr, ne_eq, not_false_eq_true, b_quo] | with_reducible refine d323_0_LSortB (by with_unfolding_all rfl) (by kernel_rfl) ?_ <;> try simp only [go_sem, hA, e1, e2, e3, e10, e11, wl, h2, w1, v1, v2, v3, h8, w8, dlr, ne_eq, not_false_eq_true, b_quo] | fail)
            refine call_h (ih (mid - x) (Nat.lt_of_lt_of_le t1 hym) R n Rs g cap x mid (lim - 1) (Nat.le_refl _) m1 t4 hn hlm1 B1 _ (fun Q p1 s1 => ?_))
            obtain ⟨Qs, gQ⟩ := L1 Q p1 s1
            simp only [arrO]
            (try simp only [go_sem, hA, e1, e2, e3, e10, e11, wl, h2, v1, v2, v3]); repeat' (first | (with_reducible first | refine c_split ?_ ?_ | refine w_split ?_ ?_ | refine tw_split ?_ ?_) <;> intro hb <;> try simp only [go_sem, hb, hA, e1, e2, e3, e10, e11, wl, h2, v1, v2, v3] | with_reducible refine d323_0_LSortB (by with_unfolding_all rfl) (by kernel_rfl) ?_ <;> try simp only [go_sem, hA, e1, e2, e3, e10, e11, wl, h2, v1, v2, v3] | fail)
            refine GC.now (hJ (mid + 1, y, (lim - 1), decide ((((y - x) / 8 : Nat) : Int) ≤ ((mid - x : Nat) : Int)), ok, Q) _ _ (by exact t2) (by simp only [go_sem, hA, e1, e2, e3, e10, e11]) ⟨?_, ?_, ?_, ?_, ?_, ?_, ?_⟩) <;> try simp only [go_sem, hA, e1, e2, e3, e10, e11, v1, v2, v3, wl, h2]
            exact ⟨q_le3 hax (Nat.le_succ_of_le m1), t3, hyb, hlm1, Qs, g1.goes gQ⟩
          · have dlr := (q_lt _ _).2 hlr
            (try simp only [go_sem, hA, e1, e2, e3, e10, e11, wl, h2, w1, v1, v2, v3, h8, w8, dlr, ne_eq, not_false_eq_true, b_quo]); repeat' (first | (with_reducible first | refine c_split ?_ ?_ | refine w_split ?_ ?_ | refine tw_split ?_ ?_) <;> intro hb <;> try simp only [go_sem, hb, hA, e1, e2, e3, e10, e11, wl, h2, w1, v1, v2, v3, h8, w8, dlr, ne_eq, not_false_eq_true, b_quo] | with_reducible refine d323_0_LSortB (by with_unfolding_all rfl) (by kernel_rfl) ?_ <;> try simp only [go_sem, hA, e1, e2, e3, e10, e11, wl, h2, w1, v1, v2, v3, h8, w8, dlr, ne_eq, not_false_eq_true, b_quo] | fail)
            refine call_h (ih (y - (mid + 1)) (Nat.lt_of_lt_of_le t2 hym) R n Rs g cap (mid + 1) y (lim - 1) (Nat.le_refl _) t3 hyn hn hlm1 B2 _ (fun Q p1 s1 => ?_))
            obtain ⟨Qs, gQ⟩ := L2 Q p1 s1
            simp only [arrO]
            (try simp only [go_sem, hA, e1, e2, e3, e10, e11, wl, h2, v1, v2, v3]); repeat' (first | (with_reducible first | refine c_split ?_ ?_ | refine w_split ?_ ?_ | refine tw_split ?_ ?_) <;> intro hb <;> try simp only [go_sem, hb, hA, e1, e2, e3, e10, e11, wl, h2, v1, v2, v3] | with_reducible refine d323_0_LSortB (by with_unfolding_all rfl) (by kernel_rfl) ?_ <;> try simp only [go_sem, hA, e1, e2, e3, e10, e11, wl, h2, v1, v2, v3] | fail)
            refine GC.now (hJ (x, mid, (lim - 1), decide ((((y - x) / 8 : Nat) : Int) ≤ ((y - mid : Nat) : Int)), ok, Q) _ _ (by exact t1) (by simp only [go_sem, hA, e1, e2, e3, e10, e11]) ⟨?_, ?_, ?_, ?_, ?_, ?_, ?_⟩) <;> try simp only [go_sem, hA, e1, e2, e3, e10, e11, v1, v2, v3, wl, h2]
            exact ⟨hax, m1, q_le3 t5 hyb, hlm1, Qs, g1.goes gQ⟩
    | true =>
      (try simp only [go_sem, hA, e1, e2, e3, e10, e11, w1, d12, dl]); repeat' (first | (with_reducible first | refine c_split ?_ ?_ | refine w_split ?_ ?_ | refine tw_split ?_ ?_) <;> intro hb <;> try simp only [go_sem, hb, hA, e1, e2, e3, e10, e11, w1, d12, dl] | with_reducible refine d323_0_LSortB (by with_unfolding_all rfl) (by kernel_rfl) ?_ <;> try simp only [go_sem, hA, e1, e2, e3, e10, e11, w1, d12, dl] | fail)
      refine call_h (w_pivot z n hzs g cap x y hlt hyn hn _ (fun p c hp1 hp2 => ?_))
      simp only [arrO]
      obtain ⟨u1, u2, u3, hq1, hq2⟩ := q_piv hp1 hp2 hyn hn
      cases h2 : (c == 2) with
      | true =>
        (try simp only [go_sem, hA, e1, e2, e3, e10, e11, h2, u1, u2, u3]); repeat' (first | (with_reducible first | refine c_split ?_ ?_ | refine w_split ?_ ?_ | refine tw_split ?_ ?_) <;> intro hb <;> try simp only [go_sem, hb, hA, e1, e2, e3, e10, e11, h2, u1, u2, u3] | with_reducible refine d323_0_LSortB (by with_unfolding_all rfl) (by kernel_rfl) ?_ <;> try simp only [go_sem, hA, e1, e2, e3, e10, e11, h2, u1, u2, u3] | fail)
        refine call_h (w_rev z n hzs g cap x y hlt hyn hn hgo.1 _ (fun z2 P2 B2 => ?_))
        simp only [arrO]
        have zs2 : z2.size = n := by rw [P2.1]; exact hzs
        have g2 := Goes.perm hgo (hzs ▸ hyn) P2
        cases wp with
        | true =>
          (try simp only [go_sem, hA, e1, e2, e3, e10, e11, h2, u1, u2, u3, BEq.rfl]); repeat' (first | (with_reducible first | refine c_split ?_ ?_ | refine w_split ?_ ?_ | refine tw_split ?_ ?_) <;> intro hb <;> try simp only [go_sem, hb, hA, e1, e2, e3, e10, e11, h2, u1, u2, u3, BEq.rfl] | with_reducible refine d323_0_LSortB (by with_unfolding_all rfl) (by kernel_rfl) ?_ <;> try simp only [go_sem, hA, e1, e2, e3, e10, e11, h2, u1, u2, u3, BEq.rfl] | fail)
          refine call_h (w_pins z2 n zs2 g cap x y hlt hyn hn g2.1 _ (fun z3 ok P3 B3 S3 => ?_))
          simp only [arrO]
          have zs3 : z3.size = n := by rw [P3.1]; exact zs2
          cases ok with
          | true =>
            (try simp only [go_sem, hA, e1, e2, e3, e10, e11, u1, u2, u3]); repeat' (first | (with_reducible first | refine c_split ?_ ?_ | refine w_split ?_ ?_ | refine tw_split ?_ ?_) <;> intro hb <;> try simp only [go_sem, hb, hA, e1, e2, e3, e10, e11, u1, u2, u3] | with_reducible refine d323_0_LSortB (by with_unfolding_all rfl) (by kernel_rfl) ?_ <;> try simp only [go_sem, hA, e1, e2, e3, e10, e11, u1, u2, u3] | fail)
            obtain ⟨r1, r2⟩ := g2.2 z3 P3 (S3 rfl)
            refine hQ [] _ _ (GC.now ?_) <;> simp only [Tryz.f323, go_sem, List.nodup_cons, List.nodup_nil, List.mem_cons, List.not_mem_nil, or_false, not_false_eq_true, List.idxOf?_cons, List.idxOf?_nil, Option.map_none, forall_eq]
            exact hk z3 r1 r2
          | false =>
            have g3 := Goes.perm g2 (zs2 ▸ hyn) P3
            by_cases hx0 : 0 < x
            · have dx := (q_lt0 x).1 hx0
              have wx := q_pre hx0 hx1000
              obtain ⟨hx1n, lx⟩ := q_x1 hx0 hlt hyn
              obtain ⟨hpn, lp⟩ := q_in (x := x) hq2 hyn
              have gx := arr_get z3 (zs3 ▸ hx1n)
              have gp := arr_get z3 (zs3 ▸ hpn)
              cases hc : lotLt z3[x - 1]! z3[(y - 1 - (p - x))]! with
              | false =>
                have kd : decide (lotCmp z3[x - 1]! z3[(y - 1 - (p - x))]! < 0) = false := by rw [← lotCmp_lt]; exact hc
                (try simp only [go_sem, hA, e1, e2, e3, e10, e11, u1, u2, u3, dx, wx, gx, gp, lx, lp, kd]); repeat' (first | (with_reducible first | refine c_split ?_ ?_ | refine w_split ?_ ?_ | refine tw_split ?_ ?_) <;> intro hb <;> try simp only [go_sem, hb, hA, e1, e2, e3, e10, e11, u1, u2, u3, dx, wx, gx, gp, lx, lp, kd] | (first | with_reducible refine d323_0_LSortB (by with_unfolding_all rfl) (by kernel_rfl) ?_ | refine call_c (c_lotBefore _ _ _ ?_) | fail) <;> try simp only [go_sem, hA, e1, e2, e3, e10, e11, u1, u2, u3, dx, wx, gx, gp, lx, lp, kd] | fail)
                refine call_h (w_peq z3 n zs3 g cap x y (y - 1 - (p - x)) hq1 hq2 hyn hn hx0 g3.1 hc _ (fun mid R m1 m2 Rs gR => ?_))
                simp only [arrO]
                (try simp only [go_sem, hA, e1, e2, e3, e10, e11, u1, u2, u3]); repeat' (first | (with_reducible first | refine c_split ?_ ?_ | refine w_split ?_ ?_ | refine tw_split ?_ ?_) <;> intro hb <;> try simp only [go_sem, hb, hA, e1, e2, e3, e10, e11, u1, u2, u3] | with_reducible refine d323_0_LSortB (by with_unfolding_all rfl) (by kernel_rfl) ?_ <;> try simp only [go_sem, hA, e1, e2, e3, e10, e11, u1, u2, u3] | fail)
                obtain ⟨hdec, hxm⟩ := q_mid m1 m2
                refine GC.now (hJ (mid, y, lim, true, true, R) _ _ (by exact hdec) (by simp only [go_sem, hA, e1, e2, e3, e10, e11]) ⟨?_, ?_, ?_, ?_, ?_, ?_, ?_⟩) <;> try simp only [go_sem, hA, e1, e2, e3, e10, e11, u1, u2, u3]
                exact ⟨q_le3 hax hxm, m2, hyb, hlm, Rs, g3.goes gR⟩
              | true =>
                have kd : decide (lotCmp z3[x - 1]! z3[(y - 1 - (p - x))]! < 0) = true := by rw [← lotCmp_lt]; exact hc
                (try simp only [go_sem, hA, e1, e2, e3, e10, e11, u1, u2, u3, dx, wx, gx, gp, lx, lp, kd]); repeat' (first | (with_reducible first | refine c_split ?_ ?_ | refine w_split ?_ ?_ | refine tw_split ?_ ?_) <;> intro hb <;> try simp only [go_sem, hb, hA, e1, e2, e3, e10, e11, u1, u2, u3, dx, wx, gx, gp, lx, lp, kd] | (first | with_reducible refine d323_0_LSortB (by with_unfolding_all rfl) (by kernel_rfl) ?_ | refine call_c (c_lotBefore _ _ _ ?_) | fail) <;> try simp only [go_sem, hA, e1, e2, e3, e10, e11, u1, u2, u3, dx, wx, gx, gp, lx, lp, kd] | fail)
                refine call_h (w_part z3 n zs3 g cap x y (y - 1 - (p - x)) hq1 hq2 hyn hn g3.1 _ (fun mid ok R m1 m2 Rs B1 B2 L1 L2 => ?_))
                simp only [arrO]
                obtain ⟨v1, v2, v3, t1, t2, t3, t4, t5⟩ := q_part m1 m2 hyn hn
                by_cases hlr : mid - x < y - mid
                · have dlr := (q_lt _ _).1 hlr
                  (try simp only [go_sem, hA, e1, e2, e3, e10, e11, u1, u2, u3, w1, v1, v2, v3, h8, w8, dlr, ne_eq, not_false_eq_true, b_quo]); repeat' (first | (with_reducible first | refine c_split ?_ ?_ | refine w_split ?_ ?_ | refine tw_split ?_ ?_) <;> intro hb <;> try simp only [go_sem, hb, hA, e1, e2, e3, e10, e11, u1, u2, u3, w1, v1, v2, v3, h8, w8, dlr, ne_eq, not_false_eq_true, b_quo] | with_reducible refine d323_0_LSortB (by with_unfolding_all rfl) (by kernel_rfl) ?_ <;> try simp only [go_sem, hA, e1, e2, e3, e10, e11, u1, u2, u3, w1, v1, v2, v3, h8, w8, dlr, ne_eq, not_false_eq_true, b_quo] | fail)
                  refine call_h (ih (mid - x) (Nat.lt_of_lt_of_le t1 hym) R n Rs g cap x mid lim (Nat.le_refl _) m1 t4 hn hlm B1 _ (fun Q p1 s1 => ?_))
                  obtain ⟨Qs, gQ⟩ := L1 Q p1 s1
                  simp only [arrO]
                  (try simp only [go_sem, hA, e1, e2, e3, e10, e11, u1, u2, u3, v1, v2, v3]); repeat' (first | (with_reducible first | refine c_split ?_ ?_ | refine w_split ?_ ?_ | refine tw_split ?_ ?_) <;> intro hb <;> try simp only [go_sem, hb, hA, e1, e2, e3, e10, e11, u1, u2, u3, v1, v2, v3] | with_reducible refine d323_0_LSortB (by with_unfolding_all rfl) (by kernel_rfl) ?_ <;> try simp only [go_sem, hA, e1, e2, e3, e10, e11, u1, u2, u3, v1, v2, v3] | fail)
                  refine GC.now (hJ (mid + 1, y, lim, decide ((((y - x) / 8 : Nat) : Int) ≤ ((mid - x : Nat) : Int)), ok, Q) _ _ (by exact t2) (by simp only [go_sem, hA, e1, e2, e3, e10, e11]) ⟨?_, ?_, ?_, ?_, ?_, ?_, ?_⟩) <;> try simp only [go_sem, hA, e1, e2, e3, e10, e11, v1, v2, v3, u1, u2, u3]
                  exact ⟨q_le3 hax (Nat.le_succ_of_le m1), t3, hyb, hlm, Qs, g3.goes gQ⟩
                · have dlr := (q_lt _ _).2 hlr
                  (try simp only [go_sem, hA, e1, e2, e3, e10, e11, u1, u2, u3, w1, v1, v2, v3, h8, w8, dlr, ne_eq, not_false_eq_true, b_quo]); repeat' (first | (with_reducible first | refine c_split ?_ ?_ | refine w_split ?_ ?_ | refine tw_split ?_ ?_) <;> intro hb <;> try simp only [go_sem, hb, hA, e1, e2, e3, e10, e11, u1, u2, u3, w1, v1, v2, v3, h8, w8, dlr, ne_eq, not_false_eq_true, b_quo] | with_reducible refine d323_0_LSortB (by with_unfolding_all rfl) (by kernel_rfl) ?_ <;> try simp only [go_sem, hA, e1, e2, e3, e10, e11, u1, u2, u3, w1, v1, v2, v3, h8, w8, dlr, ne_eq, not_false_eq_true, b_quo] | fail)
                  refine call_h (ih (y - (mid + 1)) (Nat.lt_of_lt_of_le t2 hym) R n Rs g cap (mid + 1) y lim (Nat.le_refl _) t3 hyn hn hlm B2 _ (fun Q p1 s1 => ?_))
                  obtain ⟨Qs, gQ⟩ := L2 Q p1 s1
                  simp only [arrO]
                  (try simp only [go_sem, hA, e1, e2, e3, e10, e11, u1, u2, u3, v1, v2, v3]); repeat' (first | (with_reducible first | refine c_split ?_ ?_ | refine w_split ?_ ?_ | refine tw_split ?_ ?_) <;> intro hb <;> try simp only [go_sem, hb, hA, e1, e2, e3, e10, e11, u1, u2, u3, v1, v2, v3] | with_reducible refine d323_0_LSortB (by with_unfolding_all rfl) (by kernel_rfl) ?_ <;> try simp only [go_sem, hA, e1, e2, e3, e10, e11, u1, u2, u3, v1, v2, v3] | fail)
                  refine GC.now (hJ (x, mid, lim, decide ((((y - x) / 8 : Nat) : Int) ≤ ((y - mid : Nat) : Int)), ok, Q) _ _ (by exact t1) (by simp only [go_sem, hA, e1, e2, e3, e10, e11]) ⟨?_, ?_, ?_, ?_, ?_, ?_, ?_⟩) <;> try simp only [go_sem, hA, e1, e2, e3, e10, e11, v1, v2, v3, u1, u2, u3]
                  exact ⟨hax, m1, q_le3 t5 hyb, hlm, Qs, g3.goes gQ⟩
            · have dx := (q_lt0 x).2 hx0
              (try simp only [go_sem, hA, e1, e2, e3, e10, e11, u1, u2, u3, dx]); repeat' (first | (with_reducible first | refine c_split ?_ ?_ | refine w_split ?_ ?_ | refine tw_split ?_ ?_) <;> intro hb <;> try simp only [go_sem, hb, hA, e1, e2, e3, e10, e11, u1, u2, u3, dx] | with_reducible refine d323_0_LSortB (by with_unfolding_all rfl) (by kernel_rfl) ?_ <;> try simp only [go_sem, hA, e1, e2, e3, e10, e11, u1, u2, u3, dx] | fail)
              refine call_h (w_part z3 n zs3 g cap x y (y - 1 - (p - x)) hq1 hq2 hyn hn g3.1 _ (fun mid ok R m1 m2 Rs B1 B2 L1 L2 => ?_))
              simp only [arrO]
              obtain ⟨v1, v2, v3, t1, t2, t3, t4, t5⟩ := q_part m1 m2 hyn hn
              by_cases hlr : mid - x < y - mid
              · have dlr := (q_lt _ _).1 hlr
                (try simp only [go_sem, hA, e1, e2, e3, e10, e11, u1, u2, u3, w1, v1, v2, v3, h8, w8, dlr, ne_eq, not_false_eq_true, b_quo]); repeat' (first | (with_reducible first | refine c_split ?_ ?_ | refine w_split ?_ ?_ | refine tw_split ?_ ?_) <;> intro hb <;> try simp only [go_sem, hb, hA, e1, e2, e3, e10, e11, u1, u2, u3, w1, v1, v2, v3, h8, w8, dlr, ne_eq, not_false_eq_true, b_quo] | with_reducible refine d323_0_LSortB (by with_unfolding_all rfl) (by kernel_rfl) ?_ <;> try simp only [go_sem, hA, e1, e2, e3, e10, e11, u1, u2, u3, w1, v1, v2, v3, h8, w8, dlr, ne_eq, not_false_eq_true, b_quo] | fail)
                refine call_h (ih (mid - x) (Nat.lt_of_lt_of_le t1 hym) R n Rs g cap x mid lim (Nat.le_refl _) m1 t4 hn hlm B1 _ (fun Q p1 s1 => ?_))
                obtain ⟨Qs, gQ⟩ := L1 Q p1 s1
                simp only [arrO]
                (try simp only [go_sem, hA, e1, e2, e3, e10, e11, u1, u2, u3, v1, v2, v3]); repeat' (first | (with_reducible first | refine c_split ?_ ?_ | refine w_split ?_ ?_ | refine tw_split ?_ ?_) <;> intro hb <;> try simp only [go_sem, hb, hA, e1, e2, e3, e10, e11, u1, u2, u3, v1, v2, v3] | with_reducible refine d323_0_LSortB (by with_unfolding_all rfl) (by kernel_rfl) ?_ <;> try simp only [go_sem, hA, e1, e2, e3, e10, e11, u1, u2, u3, v1, v2, v3] | fail)
                refine GC.now (hJ (mid + 1, y, lim, decide ((((y - x) / 8 : Nat) : Int) ≤ ((mid - x : Nat) : Int)), ok, Q) _ _ (by exact t2) (by simp only [go_sem, hA, e1, e2, e3, e10, e11]) ⟨?_, ?_, ?_, ?_, ?_, ?_, ?_⟩) <;> try simp only [go_sem, hA, e1, e2, e3, e10, e11, v1, v2, v3, u1, u2, u3]
                exact ⟨q_le3 hax (Nat.le_succ_of_le m1), t3, hyb, hlm, Qs, g3.goes gQ⟩
              · have dlr := (q_lt _ _).2 hlr
                (try simp only [go_sem, hA, e1, e2, e3, e10, e11, u1, u2, u3, w1, v1, v2, v3, h8, w8, dlr, ne_eq, not_false_eq_true, b_quo]); repeat' (first | (with_reducible first | refine c_split ?_ ?_ | refine w_split ?_ ?_ | refine tw_split ?_ ?_) <;> intro hb <;> try simp only [go_sem, hb, hA, e1, e2, e3, e10, e11, u1, u2, u3, w1, v1, v2, v3, h8, w8, dlr, ne_eq, not_false_eq_true, b_quo] | with_reducible refine d323_0_LSortB (by with_unfolding_all rfl) (by kernel_rfl) ?_ <;> try simp only [go_sem, hA, e1, e2, e3, e10, e11, u1, u2, u3, w1, v1, v2, v3, h8, w8, dlr, ne_eq, not_false_eq_true, b_quo] | fail)
                refine call_h (ih (y - (mid + 1)) (Nat.lt_of_lt_of_le t2 hym) R n Rs g cap (mid + 1) y lim (Nat.le_refl _) t3 hyn hn hlm B2 _ (fun Q p1 s1 => ?_))
                obtain ⟨Qs, gQ⟩ := L2 Q p1 s1
                simp only [arrO]
                (try simp only [go_sem, hA, e1, e2, e3, e10, e11, u1, u2, u3, v1, v2, v3]); repeat' (first | (with_reducible first | refine c_split ?_ ?_ | refine w_split ?_ ?_ | refine tw_split ?_ ?_) <;> intro hb <;> try simp only [go_sem, hb, hA, e1, e2, e3, e10, e11, u1, u2, u3, v1, v2, v3] | with_reducible refine d323_0_LSortB (by with_unfolding_all rfl) (by kernel_rfl) ?_ <;> try simp only [go_sem, hA, e1, e2, e3, e10, e11, u1, u2, u3, v1, v2, v3] | fail)
                refine GC.now (hJ (x, mid, lim, decide ((((y - x) / 8 : Nat) : Int) ≤ ((y - mid : Nat) : Int)), ok, Q) _ _ (by exact t1) (by simp only [go_sem, hA, e1, e2, e3, e10, e11]) ⟨?_, ?_, ?_, ?_, ?_, ?_, ?_⟩) <;> try simp only [go_sem, hA, e1, e2, e3, e10, e11, v1, v2, v3, u1, u2, u3]
                exact ⟨hax, m1, q_le3 t5 hyb, hlm, Qs, g3.goes gQ⟩
        | false =>
          by_cases hx0 : 0 < x
          · have dx := (q_lt0 x).1 hx0
            have wx := q_pre hx0 hx1000
            obtain ⟨hx1n, lx⟩ := q_x1 hx0 hlt hyn
            obtain ⟨hpn, lp⟩ := q_in (x := x) hq2 hyn
            have gx := arr_get z2 (zs2 ▸ hx1n)
            have gp := arr_get z2 (zs2 ▸ hpn)
            cases hc : lotLt z2[x - 1]! z2[(y - 1 - (p - x))]! with
            | false =>
              have kd : decide (lotCmp z2[x - 1]! z2[(y - 1 - (p - x))]! < 0) = false := by rw [← lotCmp_lt]; exact hc
              (try simp only [go_sem, hA, e1, e2, e3, e10, e11, h2, u1, u2, u3, dx, wx, gx, gp, lx, lp, kd]); repeat' (first | (with_reducible first | refine c_split ?_ ?_ | refine w_split ?_ ?_ | refine tw_split ?_ ?_) <;> intro hb <;> try simp only [go_sem, hb, hA, e1, e2, e3, e10, e11, h2, u1, u2, u3, dx, wx, gx, gp, lx, lp, kd] | (first | with_reducible refine d323_0_LSortB (by with_unfolding_all rfl) (by kernel_rfl) ?_ | refine call_c (c_lotBefore _ _ _ ?_) | fail) <;> try simp only [go_sem, hA, e1, e2, e3, e10, e11, h2, u1, u2, u3, dx, wx, gx, gp, lx, lp, kd] | fail)
              refine call_h (w_peq z2 n zs2 g cap x y (y - 1 - (p - x)) hq1 hq2 hyn hn hx0 g2.1 hc _ (fun mid R m1 m2 Rs gR => ?_))
              simp only [arrO]
              (try simp only [go_sem, hA, e1, e2, e3, e10, e11, h2, u1, u2, u3]); repeat' (first | (with_reducible first | refine c_split ?_ ?_ | refine w_split ?_ ?_ | refine tw_split ?_ ?_) <;> intro hb <;> try simp only [go_sem, hb, hA, e1, e2, e3, e10, e11, h2, u1, u2, u3] | with_reducible refine d323_0_LSortB (by with_unfolding_all rfl) (by kernel_rfl) ?_ <;> try simp only [go_sem, hA, e1, e2, e3, e10, e11, h2, u1, u2, u3] | fail)
              obtain ⟨hdec, hxm⟩ := q_mid m1 m2
              refine GC.now (hJ (mid, y, lim, true, false, R) _ _ (by exact hdec) (by simp only [go_sem, hA, e1, e2, e3, e10, e11]) ⟨?_, ?_, ?_, ?_, ?_, ?_, ?_⟩) <;> try simp only [go_sem, hA, e1, e2, e3, e10, e11, h2, u1, u2, u3]
              exact ⟨q_le3 hax hxm, m2, hyb, hlm, Rs, g2.goes gR⟩
            | true =>
              have kd : decide (lotCmp z2[x - 1]! z2[(y - 1 - (p - x))]! < 0) = true := by rw [← lotCmp_lt]; exact hc
              (try simp only [go_sem, hA, e1, e2, e3, e10, e11, h2, u1, u2, u3, dx, wx, gx, gp, lx, lp, kd]); repeat' (first | (with_reducible first | refine c_split ?_ ?_ | refine w_split ?_ ?_ | refine tw_split ?_ ?_) <;> intro hb <;> try simp only [go_sem, hb, hA, e1, e2, e3, e10, e11, h2, u1, u2, u3, dx, wx, gx, gp, lx, lp, kd] | (first | with_reducible refine d323_0_LSortB (by with_unfolding_all rfl) (by kernel_rfl) ?_ | refine call_c (c_lotBefore _ _ _ ?_) | fail) <;> try simp only [go_sem, hA, e1, e2, e3, e10, e11, h2, u1, u2, u3, dx, wx, gx, gp, lx, lp, kd] | fail)
              refine call_h (w_part z2 n zs2 g cap x y (y - 1 - (p - x)) hq1 hq2 hyn hn g2.1 _ (fun mid ok R m1 m2 Rs B1 B2 L1 L2 => ?_))
              simp only [arrO]
              obtain ⟨v1, v2, v3, t1, t2, t3, t4, t5⟩ := q_part m1 m2 hyn hn
              by_cases hlr : mid - x < y - mid
              · have dlr := (q_lt _ _).1 hlr
                (try simp only [go_sem, hA, e1, e2, e3, e10, e11, h2, u1, u2, u3, w1, v1, v2, v3, h8, w8, dlr, ne_eq, not_false_eq_true, b_quo]); repeat' (first | (with_reducible first | refine c_split ?_ ?_ | refine w_split ?_ ?_ | refine tw_split ?_ ?_) <;> intro hb <;> try simp only [go_sem, hb, hA, e1, e2, e3, e10, e11, h2, u1, u2, u3, w1, v1, v2, v3, h8, w8, dlr, ne_eq, not_false_eq_true, b_quo] | with_reducible refine d323_0_LSortB (by with_unfolding_all rfl) (by kernel_rfl) ?_ <;> try simp only [go_sem, hA, e1, e2, e3, e10, e11, h2, u1, u2, u3, w1, v1, v2, v3, h8, w8, dlr, ne_eq, not_false_eq_true, b_quo] | fail)
                refine call_h (ih (mid - x) (Nat.lt_of_lt_of_le t1 hym) R n Rs g cap x mid lim (Nat.le_refl _) m1 t4 hn hlm B1 _ (fun Q p1 s1 => ?_))
                obtain ⟨Qs, gQ⟩ := L1 Q p1 s1
                simp only [arrO]
                (try simp only [go_sem, hA, e1, e2, e3, e10, e11, h2, u1, u2, u3, v1, v2, v3]); repeat' (first | (with_reducible first | refine c_split ?_ ?_ | refine w_split ?_ ?_ | refine tw_split ?_ ?_) <;> intro hb <;> try simp only [go_sem, hb, hA, e1, e2, e3, e10, e11, h2, u1, u2, u3, v1, v2, v3] | with_reducible refine d323_0_LSortB (by with_unfolding_all rfl) (by kernel_rfl) ?_ <;> try simp only [go_sem, hA, e1, e2, e3, e10, e11, h2, u1, u2, u3, v1, v2, v3] | fail)
                refine GC.now (hJ (mid + 1, y, lim, decide ((((y - x) / 8 : Nat) : Int) ≤ ((mid - x : Nat) : Int)), ok, Q) _ _ (by exact t2) (by simp only [go_sem, hA, e1, e2, e3, e10, e11]) ⟨?_, ?_, ?_, ?_, ?_, ?_, ?_⟩) <;> try simp only [go_sem, hA, e1, e2, e3, e10, e11, v1, v2, v3, h2, u1, u2, u3]
                exact ⟨q_le3 hax (Nat.le_succ_of_le m1), t3, hyb, hlm, Qs, g2.goes gQ⟩
              · have dlr := (q_lt _ _).2 hlr
                (try simp only [go_sem, hA, e1, e2, e3, e10, e11, h2, u1, u2, u3, w1, v1, v2, v3, h8, w8, dlr, ne_eq, not_false_eq_true, b_quo]); repeat' (first | (with_reducible first | refine c_split ?_ ?_ | refine w_split ?_ ?_ | refine tw_split ?_ ?_) <;> intro hb <;> try simp only [go_sem, hb, hA, e1, e2, e3, e10, e11, h2, u1, u2, u3, w1, v1, v2, v3, h8, w8, dlr, ne_eq, not_false_eq_true, b_quo] | with_reducible refine d323_0_LSortB (by with_unfolding_all rfl) (by kernel_rfl) ?_ <;> try simp only [go_sem, hA, e1, e2, e3, e10, e11, h2, u1, u2, u3, w1, v1, v2, v3, h8, w8, dlr, ne_eq, not_false_eq_true, b_quo] | fail)
                refine call_h (ih (y - (mid + 1)) (Nat.lt_of_lt_of_le t2 hym) R n Rs g cap (mid + 1) y lim (Nat.le_refl _) t3 hyn hn hlm B2 _ (fun Q p1 s1 => ?_))
                obtain ⟨Qs, gQ⟩ := L2 Q p1 s1
                simp only [arrO]
                (try simp only [go_sem, hA, e1, e2, e3, e10, e11, h2, u1, u2, u3, v1, v2, v3]); repeat' (first | (with_reducible first | refine c_split ?_ ?_ | refine w_split ?_ ?_ | refine tw_split ?_ ?_) <;> intro hb <;> try simp only [go_sem, hb, hA, e1, e2, e3, e10, e11, h2, u1, u2, u3, v1, v2, v3] | with_reducible refine d323_0_LSortB (by with_unfolding_all rfl) (by kernel_rfl) ?_ <;> try simp only [go_sem, hA, e1, e2, e3, e10, e11, h2, u1, u2, u3, v1, v2, v3] | fail)
                refine GC.now (hJ (x, mid, lim, decide ((((y - x) / 8 : Nat) : Int) ≤ ((y - mid : Nat) : Int)), ok, Q) _ _ (by exact t1) (by simp only [go_sem, hA, e1, e2, e3, e10, e11]) ⟨?_, ?_, ?_, ?_, ?_, ?_, ?_⟩) <;> try simp only [go_sem, hA, e1, e2, e3, e10, e11, v1, v2, v3, h2, u1, u2, u3]
                exact ⟨hax, m1, q_le3 t5 hyb, hlm, Qs, g2.goes gQ⟩
          · have dx := (q_lt0 x).2 hx0
            (try simp only [go_sem, hA, e1, e2, e3, e10, e11, h2, u1, u2, u3, dx]); repeat' (first | (with_reducible first | refine c_split ?_ ?_ | refine w_split ?_ ?_ | refine tw_split ?_ ?_) <;> intro hb <;> try simp only [go_sem, hb, hA, e1, e2, e3, e10, e11, h2, u1, u2, u3, dx] | with_reducible refine d323_0_LSortB (by with_unfolding_all rfl) (by kernel_rfl) ?_ <;> try simp only [go_sem, hA, e1, e2, e3, e10, e11, h2, u1, u2, u3, dx] | fail)
            refine call_h (w_part z2 n zs2 g cap x y (y - 1 - (p - x)) hq1 hq2 hyn hn g2.1 _ (fun mid ok R m1 m2 Rs B1 B2 L1 L2 => ?_))
            simp only [arrO]
            obtain ⟨v1, v2, v3, t1, t2, t3, t4, t5⟩ := q_part m1 m2 hyn hn
            by_cases hlr : mid - x < y - mid
            · have dlr := (q_lt _ _).1 hlr
              (try simp only [go_sem, hA, e1, e2, e3, e10, e11, h2, u1, u2, u3, w1, v1, v2, v3, h8, w8, dlr, ne_eq, not_false_eq_true, b_quo]); repeat' (first | (with_reducible first | refine c_split ?_ ?_ | refine w_split ?_ ?_ | refine tw_split ?_ ?_) <;> intro hb <;> try simp only [go_sem, hb, hA, e1, e2, e3, e10, e11, h2, u1, u2, u3, w1, v1, v2, v3, h8, w8, dlr, ne_eq, not_false_eq_true, b_quo] | with_reducible refine d323_0_LSortB (by with_unfolding_all rfl) (by kernel_rfl) ?_ <;> try simp only [go_sem, hA, e1, e2, e3, e10, e11, h2, u1, u2, u3, w1, v1, v2, v3, h8, w8, dlr, ne_eq, not_false_eq_true, b_quo] | fail)
              refine call_h (ih (mid - x) (Nat.lt_of_lt_of_le t1 hym) R n Rs g cap x mid lim (Nat.le_refl _) m1 t4 hn hlm B1 _ (fun Q p1 s1 => ?_))
              obtain ⟨Qs, gQ⟩ := L1 Q p1 s1
              simp only [arrO]
              (try simp only [go_sem, hA, e1, e2, e3, e10, e11, h2, u1, u2, u3, v1, v2, v3]); repeat' (first | (with_reducible first | refine c_split ?_ ?_ | refine w_split ?_ ?_ | refine tw_split ?_ ?_) <;> intro hb <;> try simp only [go_sem, hb, hA, e1, e2, e3, e10, e11, h2, u1, u2, u3, v1, v2, v3] | with_reducible refine d323_0_LSortB (by with_unfolding_all rfl) (by kernel_rfl) ?_ <;> try simp only [go_sem, hA, e1, e2, e3, e10, e11, h2, u1, u2, u3, v1, v2, v3] | fail)
              refine GC.now (hJ (mid + 1, y, lim, decide ((((y - x) / 8 : Nat) : Int) ≤ ((mid - x : Nat) : Int)), ok, Q) _ _ (by exact t2) (by simp only [go_sem, hA, e1, e2, e3, e10, e11]) ⟨?_, ?_, ?_, ?_, ?_, ?_, ?_⟩) <;> try simp only [go_sem, hA, e1, e2, e3, e10, e11, v1, v2, v3, h2, u1, u2, u3]
              exact ⟨q_le3 hax (Nat.le_succ_of_le m1), t3, hyb, hlm, Qs, g2.goes gQ⟩
            · have dlr := (q_lt _ _).2 hlr
              (try simp only [go_sem, hA, e1, e2, e3, e10, e11, h2, u1, u2, u3, w1, v1, v2, v3, h8, w8, dlr, ne_eq, not_false_eq_true, b_quo]); repeat' (first | (with_reducible first | refine c_split ?_ ?_ | refine w_split ?_ ?_ | refine tw_split ?_ ?_) <;> intro hb <;> try simp only [go_sem, hb, hA, e1, e2, e3, e10, e11, h2, u1, u2, u3, w1, v1, v2, v3, h8, w8, dlr, ne_eq, not_false_eq_true, b_quo] | with_reducible refine d323_0_LSortB (by with_unfolding_all rfl) (by kernel_rfl) ?_ <;> try simp only [go_sem, hA, e1, e2, e3, e10, e11, h2, u1, u2, u3, w1, v1, v2, v3, h8, w8, dlr, ne_eq, not_false_eq_true, b_quo] | fail)
              refine call_h (ih (y - (mid + 1)) (Nat.lt_of_lt_of_le t2 hym) R n Rs g cap (mid + 1) y lim (Nat.le_refl _) t3 hyn hn hlm B2 _ (fun Q p1 s1 => ?_))
              obtain ⟨Qs, gQ⟩ := L2 Q p1 s1
              simp only [arrO]
              (try simp only [go_sem, hA, e1, e2, e3, e10, e11, h2, u1, u2, u3, v1, v2, v3]); repeat' (first | (with_reducible first | refine c_split ?_ ?_ | refine w_split ?_ ?_ | refine tw_split ?_ ?_) <;> intro hb <;> try simp only [go_sem, hb, hA, e1, e2, e3, e10, e11, h2, u1, u2, u3, v1, v2, v3] | with_reducible refine d323_0_LSortB (by with_unfolding_all rfl) (by kernel_rfl) ?_ <;> try simp only [go_sem, hA, e1, e2, e3, e10, e11, h2, u1, u2, u3, v1, v2, v3] | fail)
              refine GC.now (hJ (x, mid, lim, decide ((((y - x) / 8 : Nat) : Int) ≤ ((y - mid : Nat) : Int)), ok, Q) _ _ (by exact t1) (by simp only [go_sem, hA, e1, e2, e3, e10, e11]) ⟨?_, ?_, ?_, ?_, ?_, ?_, ?_⟩) <;> try simp only [go_sem, hA, e1, e2, e3, e10, e11, v1, v2, v3, h2, u1, u2, u3]
              exact ⟨hax, m1, q_le3 t5 hyb, hlm, Qs, g2.goes gQ⟩
      | false =>
        cases wp with
        | true =>
          cases h3 : (c == 1) with
          | true =>
            (try simp only [go_sem, hA, e1, e2, e3, e10, e11, h2, h3]); repeat' (first | (with_reducible first | refine c_split ?_ ?_ | refine w_split ?_ ?_ | refine tw_split ?_ ?_) <;> intro hb <;> try simp only [go_sem, hb, hA, e1, e2, e3, e10, e11, h2, h3] | with_reducible refine d323_0_LSortB (by with_unfolding_all rfl) (by kernel_rfl) ?_ <;> try simp only [go_sem, hA, e1, e2, e3, e10, e11, h2, h3] | fail)
            refine call_h (w_pins z n hzs g cap x y hlt hyn hn hgo.1 _ (fun z3 ok P3 B3 S3 => ?_))
            simp only [arrO]
            have zs3 : z3.size = n := by rw [P3.1]; exact hzs
            cases ok with
            | true =>
              (try simp only [go_sem, hA, e1, e2, e3, e10, e11]); repeat' (first | (with_reducible first | refine c_split ?_ ?_ | refine w_split ?_ ?_ | refine tw_split ?_ ?_) <;> intro hb <;> try simp only [go_sem, hb, hA, e1, e2, e3, e10, e11] | with_reducible refine d323_0_LSortB (by with_unfolding_all rfl) (by kernel_rfl) ?_ <;> try simp only [go_sem, hA, e1, e2, e3, e10, e11] | fail)
              obtain ⟨r1, r2⟩ := hgo.2 z3 P3 (S3 rfl)
              refine hQ [] _ _ (GC.now ?_) <;> simp only [Tryz.f323, go_sem, List.nodup_cons, List.nodup_nil, List.mem_cons, List.not_mem_nil, or_false, not_false_eq_true, List.idxOf?_cons, List.idxOf?_nil, Option.map_none, forall_eq]
              exact hk z3 r1 r2
            | false =>
              have g3 := Goes.perm hgo (hzs ▸ hyn) P3
              by_cases hx0 : 0 < x
              · have dx := (q_lt0 x).1 hx0
                have wx := q_pre hx0 hx1000
                obtain ⟨hx1n, lx⟩ := q_x1 hx0 hlt hyn
                obtain ⟨hpn, lp⟩ := q_in (x := x) hp2 hyn
                have gx := arr_get z3 (zs3 ▸ hx1n)
                have gp := arr_get z3 (zs3 ▸ hpn)
                cases hc : lotLt z3[x - 1]! z3[p]! with
                | false =>
                  have kd : decide (lotCmp z3[x - 1]! z3[p]! < 0) = false := by rw [← lotCmp_lt]; exact hc
                  (try simp only [go_sem, hA, e1, e2, e3, e10, e11, dx, wx, gx, gp, lx, lp, kd]); repeat' (first | (with_reducible first | refine c_split ?_ ?_ | refine w_split ?_ ?_ | refine tw_split ?_ ?_) <;> intro hb <;> try simp only [go_sem, hb, hA, e1, e2, e3, e10, e11, dx, wx, gx, gp, lx, lp, kd] | (first | with_reducible refine d323_0_LSortB (by with_unfolding_all rfl) (by kernel_rfl) ?_ | refine call_c (c_lotBefore _ _ _ ?_) | fail) <;> try simp only [go_sem, hA, e1, e2, e3, e10, e11, dx, wx, gx, gp, lx, lp, kd] | fail)
                  refine call_h (w_peq z3 n zs3 g cap x y p hp1 hp2 hyn hn hx0 g3.1 hc _ (fun mid R m1 m2 Rs gR => ?_))
                  simp only [arrO]
                  (try simp only [go_sem, hA, e1, e2, e3, e10, e11]); repeat' (first | (with_reducible first | refine c_split ?_ ?_ | refine w_split ?_ ?_ | refine tw_split ?_ ?_) <;> intro hb <;> try simp only [go_sem, hb, hA, e1, e2, e3, e10, e11] | with_reducible refine d323_0_LSortB (by with_unfolding_all rfl) (by kernel_rfl) ?_ <;> try simp only [go_sem, hA, e1, e2, e3, e10, e11] | fail)
                  obtain ⟨hdec, hxm⟩ := q_mid m1 m2
                  refine GC.now (hJ (mid, y, lim, true, true, R) _ _ (by exact hdec) (by simp only [go_sem, hA, e1, e2, e3, e10, e11]) ⟨?_, ?_, ?_, ?_, ?_, ?_, ?_⟩) <;> try simp only [go_sem, hA, e1, e2, e3, e10, e11]
                  exact ⟨q_le3 hax hxm, m2, hyb, hlm, Rs, g3.goes gR⟩
                | true =>
                  have kd : decide (lotCmp z3[x - 1]! z3[p]! < 0) = true := by rw [← lotCmp_lt]; exact hc
                  (try simp only [go_sem, hA, e1, e2, e3, e10, e11, dx, wx, gx, gp, lx, lp, kd]); repeat' (first | (with_reducible first | refine c_split ?_ ?_ | refine w_split ?_ ?_ | refine tw_split ?_ ?_) <;> intro hb <;> try simp only [go_sem, hb, hA, e1, e2, e3, e10, e11, dx, wx, gx, gp, lx, lp, kd] | (first | with_reducible refine d323_0_LSortB (by with_unfolding_all rfl) (by kernel_rfl) ?_ | refine call_c (c_lotBefore _ _ _ ?_) | fail) <;> try simp only [go_sem, hA, e1, e2, e3, e10, e11, dx, wx, gx, gp, lx, lp, kd] | fail)
                  refine call_h (w_part z3 n zs3 g cap x y p hp1 hp2 hyn hn g3.1 _ (fun mid ok R m1 m2 Rs B1 B2 L1 L2 => ?_))
                  simp only [arrO]
                  obtain ⟨v1, v2, v3, t1, t2, t3, t4, t5⟩ := q_part m1 m2 hyn hn
                  by_cases hlr : mid - x < y - mid
                  · have dlr := (q_lt _ _).1 hlr
                    (try simp only [go_sem, hA, e1, e2, e3, e10, e11, w1, v1, v2, v3, h8, w8, dlr, ne_eq, not_false_eq_true, b_quo]); repeat' (first | (with_reducible first | refine c_split ?_ ?_ | refine w_split ?_ ?_ | refine tw_split ?_ ?_) <;> intro hb <;> try simp only [go_sem, hb, hA, e1, e2, e3, e10, e11, w1, v1, v2, v3, h8, w8, dlr, ne_eq, not_false_eq_true, b_quo] | with_reducible refine d323_0_LSortB (by with_unfolding_all rfl) (by kernel_rfl) ?_ <;> try simp only [go_sem, hA, e1, e2, e3, e10, e11, w1, v1, v2, v3, h8, w8, dlr, ne_eq, not_false_eq_true, b_quo] | fail)
                    refine call_h (ih (mid - x) (Nat.lt_of_lt_of_le t1 hym) R n Rs g cap x mid lim (Nat.le_refl _) m1 t4 hn hlm B1 _ (fun Q p1 s1 => ?_))
                    obtain ⟨Qs, gQ⟩ := L1 Q p1 s1
                    simp only [arrO]
                    (try simp only [go_sem, hA, e1, e2, e3, e10, e11, v1, v2, v3]); repeat' (first | (with_reducible first | refine c_split ?_ ?_ | refine w_split ?_ ?_ | refine tw_split ?_ ?_) <;> intro hb <;> try simp only [go_sem, hb, hA, e1, e2, e3, e10, e11, v1, v2, v3] | with_reducible refine d323_0_LSortB (by with_unfolding_all rfl) (by kernel_rfl) ?_ <;> try simp only [go_sem, hA, e1, e2, e3, e10, e11, v1, v2, v3] | fail)
                    refine GC.now (hJ (mid + 1, y, lim, decide ((((y - x) / 8 : Nat) : Int) ≤ ((mid - x : Nat) : Int)), ok, Q) _ _ (by exact t2) (by simp only [go_sem, hA, e1, e2, e3, e10, e11]) ⟨?_, ?_, ?_, ?_, ?_, ?_, ?_⟩) <;> try simp only [go_sem, hA, e1, e2, e3, e10, e11, v1, v2, v3]
                    exact ⟨q_le3 hax (Nat.le_succ_of_le m1), t3, hyb, hlm, Qs, g3.goes gQ⟩
                  · have dlr := (q_lt _ _).2 hlr
                    (try simp only [go_sem, hA, e1, e2, e3, e10, e11, w1, v1, v2, v3, h8, w8, dlr, ne_eq, not_false_eq_true, b_quo]); repeat' (first | (with_reducible first | refine c_split ?_ ?_ | refine w_split ?_ ?_ | refine tw_split ?_ ?_) <;> intro hb <;> try simp only [go_sem, hb, hA, e1, e2, e3, e10, e11, w1, v1, v2, v3, h8, w8, dlr, ne_eq, not_false_eq_true, b_quo] | with_reducible refine d323_0_LSortB (by with_unfolding_all rfl) (by kernel_rfl) ?_ <;> try simp only [go_sem, hA, e1, e2, e3, e10, e11, w1, v1, v2, v3, h8, w8, dlr, ne_eq, not_false_eq_true, b_quo] | fail)
                    refine call_h (ih (y - (mid + 1)) (Nat.lt_of_lt_of_le t2 hym) R n Rs g cap (mid + 1) y lim (Nat.le_refl _) t3 hyn hn hlm B2 _ (fun Q p1 s1 => ?_))
                    obtain ⟨Qs, gQ⟩ := L2 Q p1 s1
                    simp only [arrO]
                    (try simp only [go_sem, hA, e1, e2, e3, e10, e11, v1, v2, v3]); repeat' (first | (with_reducible first | refine c_split ?_ ?_ | refine w_split ?_ ?_ | refine tw_split ?_ ?_) <;> intro hb <;> try simp only [go_sem, hb, hA, e1, e2, e3, e10, e11, v1, v2, v3] | with_reducible refine d323_0_LSortB (by with_unfolding_all rfl) (by kernel_rfl) ?_ <;> try simp only [go_sem, hA, e1, e2, e3, e10, e11, v1, v2, v3] | fail)
                    refine GC.now (hJ (x, mid, lim, decide ((((y - x) / 8 : Nat) : Int) ≤ ((y - mid : Nat) : Int)), ok, Q) _ _ (by exact t1) (by simp only [go_sem, hA, e1, e2, e3, e10, e11]) ⟨?_, ?_, ?_, ?_, ?_, ?_, ?_⟩) <;> try simp only [go_sem, hA, e1, e2, e3, e10, e11, v1, v2, v3]
                    exact ⟨hax, m1, q_le3 t5 hyb, hlm, Qs, g3.goes gQ⟩
              · have dx := (q_lt0 x).2 hx0
                (try simp only [go_sem, hA, e1, e2, e3, e10, e11, dx]); repeat' (first | (with_reducible first | refine c_split ?_ ?_ | refine w_split ?_ ?_ | refine tw_split ?_ ?_) <;> intro hb <;> try simp only [go_sem, hb, hA, e1, e2, e3, e10, e11, dx] | with_reducible refine d323_0_LSortB (by with_unfolding_all rfl) (by kernel_rfl) ?_ <;> try simp only [go_sem, hA, e1, e2, e3, e10, e11, dx] | fail)
                refine call_h (w_part z3 n zs3 g cap x y p hp1 hp2 hyn hn g3.1 _ (fun mid ok R m1 m2 Rs B1 B2 L1 L2 => ?_))
                simp only [arrO]
                obtain ⟨v1, v2, v3, t1, t2, t3, t4, t5⟩ := q_part m1 m2 hyn hn
                by_cases hlr : mid - x < y - mid
                · have dlr := (q_lt _ _).1 hlr
                  (try simp only [go_sem, hA, e1, e2, e3, e10, e11, w1, v1, v2, v3, h8, w8, dlr, ne_eq, not_false_eq_true, b_quo]); repeat' (first | (with_reducible first | refine c_split ?_ ?_ | refine w_split ?_ ?_ | refine tw_split ?_ ?_) <;> intro hb <;> try simp only [go_sem, hb, hA, e1, e2, e3, e10, e11, w1, v1, v2, v3, h8, w8, dlr, ne_eq, not_false_eq_true, b_quo] | with_reducible refine d323_0_LSortB (by with_unfolding_all rfl) (by kernel_rfl) ?_ <;> try simp only [go_sem, hA, e1, e2, e3, e10, e11, w1, v1, v2, v3, h8, w8, dlr, ne_eq, not_false_eq_true, b_quo] | fail)
                  refine call_h (ih (mid - x) (Nat.lt_of_lt_of_le t1 hym) R n Rs g cap x mid lim (Nat.le_refl _) m1 t4 hn hlm B1 _ (fun Q p1 s1 => ?_))
                  obtain ⟨Qs, gQ⟩ := L1 Q p1 s1
                  simp only [arrO]
                  (try simp only [go_sem, hA, e1, e2, e3, e10, e11, v1, v2, v3]); repeat' (first | (with_reducible first | refine c_split ?_ ?_ | refine w_split ?_ ?_ | refine tw_split ?_ ?_) <;> intro hb <;> try simp only [go_sem, hb, hA, e1, e2, e3, e10, e11, v1, v2, v3] | with_reducible refine d323_0_LSortB (by with_unfolding_all rfl) (by kernel_rfl) ?_ <;> try simp only [go_sem, hA, e1, e2, e3, e10, e11, v1, v2, v3] | fail)
                  refine GC.now (hJ (mid + 1, y, lim, decide ((((y - x) / 8 : Nat) : Int) ≤ ((mid - x : Nat) : Int)), ok, Q) _ _ (by exact t2) (by simp only [go_sem, hA, e1, e2, e3, e10, e11]) ⟨?_, ?_, ?_, ?_, ?_, ?_, ?_⟩) <;> try simp only [go_sem, hA, e1, e2, e3, e10, e11, v1, v2, v3]
                  exact ⟨q_le3 hax (Nat.le_succ_of_le m1), t3, hyb, hlm, Qs, g3.goes gQ⟩
                · have dlr := (q_lt _ _).2 hlr
                  (try simp only [go_sem, hA, e1, e2, e3, e10, e11, w1, v1, v2, v3, h8, w8, dlr, ne_eq, not_false_eq_true, b_quo]); repeat' (first | (with_reducible first | refine c_split ?_ ?_ | refine w_split ?_ ?_ | refine tw_split ?_ ?_) <;> intro hb <;> try simp only [go_sem, hb, hA, e1, e2, e3, e10, e11, w1, v1, v2, v3, h8, w8, dlr, ne_eq, not_false_eq_true, b_quo] | with_reducible refine d323_0_LSortB (by with_unfolding_all rfl) (by kernel_rfl) ?_ <;> try simp only [go_sem, hA, e1, e2, e3, e10, e11, w1, v1, v2, v3, h8, w8, dlr, ne_eq, not_false_eq_true, b_quo] | fail)
                  refine call_h (ih (y - (mid + 1)) (Nat.lt_of_lt_of_le t2 hym) R n Rs g cap (mid + 1) y lim (Nat.le_refl _) t3 hyn hn hlm B2 _ (fun Q p1 s1 => ?_))
                  obtain ⟨Qs, gQ⟩ := L2 Q p1 s1
                  simp only [arrO]
                  (try simp only [go_sem, hA, e1, e2, e3, e10, e11, v1, v2, v3]); repeat' (first | (with_reducible first | refine c_split ?_ ?_ | refine w_split ?_ ?_ | refine tw_split ?_ ?_) <;> intro hb <;> try simp only [go_sem, hb, hA, e1, e2, e3, e10, e11, v1, v2, v3] | with_reducible refine d323_0_LSortB (by with_unfolding_all rfl) (by kernel_rfl) ?_ <;> try simp only [go_sem, hA, e1, e2, e3, e10, e11, v1, v2, v3] | fail)
                  refine GC.now (hJ (x, mid, lim, decide ((((y - x) / 8 : Nat) : Int) ≤ ((y - mid : Nat) : Int)), ok, Q) _ _ (by exact t1) (by simp only [go_sem, hA, e1, e2, e3, e10, e11]) ⟨?_, ?_, ?_, ?_, ?_, ?_, ?_⟩) <;> try simp only [go_sem, hA, e1, e2, e3, e10, e11, v1, v2, v3]
                  exact ⟨hax, m1, q_le3 t5 hyb, hlm, Qs, g3.goes gQ⟩
          | false =>
            by_cases hx0 : 0 < x
            · have dx := (q_lt0 x).1 hx0
              have wx := q_pre hx0 hx1000
              obtain ⟨hx1n, lx⟩ := q_x1 hx0 hlt hyn
              obtain ⟨hpn, lp⟩ := q_in (x := x) hp2 hyn
              have gx := arr_get z (hzs ▸ hx1n)
              have gp := arr_get z (hzs ▸ hpn)
              cases hc : lotLt z[x - 1]! z[p]! with
              | false =>
                have kd : decide (lotCmp z[x - 1]! z[p]! < 0) = false := by rw [← lotCmp_lt]; exact hc
                (try simp only [go_sem, hA, e1, e2, e3, e10, e11, h2, h3, dx, wx, gx, gp, lx, lp, kd]); repeat' (first | (with_reducible first | refine c_split ?_ ?_ | refine w_split ?_ ?_ | refine tw_split ?_ ?_) <;> intro hb <;> try simp only [go_sem, hb, hA, e1, e2, e3, e10, e11, h2, h3, dx, wx, gx, gp, lx, lp, kd] | (first | with_reducible refine d323_0_LSortB (by with_unfolding_all rfl) (by kernel_rfl) ?_ | refine call_c (c_lotBefore _ _ _ ?_) | fail) <;> try simp only [go_sem, hA, e1, e2, e3, e10, e11, h2, h3, dx, wx, gx, gp, lx, lp, kd] | fail)
                refine call_h (w_peq z n hzs g cap x y p hp1 hp2 hyn hn hx0 hgo.1 hc _ (fun mid R m1 m2 Rs gR => ?_))
                simp only [arrO]
                (try simp only [go_sem, hA, e1, e2, e3, e10, e11, h2, h3]); repeat' (first | (with_reducible first | refine c_split ?_ ?_ | refine w_split ?_ ?_ | refine tw_split ?_ ?_) <;> intro hb <;> try simp only [go_sem, hb, hA, e1, e2, e3, e10, e11, h2, h3] | with_reducible refine d323_0_LSortB (by with_unfolding_all rfl) (by kernel_rfl) ?_ <;> try simp only [go_sem, hA, e1, e2, e3, e10, e11, h2, h3] | fail)
                obtain ⟨hdec, hxm⟩ := q_mid m1 m2
                refine GC.now (hJ (mid, y, lim, true, true, R) _ _ (by exact hdec) (by simp only [go_sem, hA, e1, e2, e3, e10, e11]) ⟨?_, ?_, ?_, ?_, ?_, ?_, ?_⟩) <;> try simp only [go_sem, hA, e1, e2, e3, e10, e11, h2, h3]
                exact ⟨q_le3 hax hxm, m2, hyb, hlm, Rs, hgo.goes gR⟩
              | true =>
                have kd : decide (lotCmp z[x - 1]! z[p]! < 0) = true := by rw [← lotCmp_lt]; exact hc
                (try simp only [go_sem, hA, e1, e2, e3, e10, e11, h2, h3, dx, wx, gx, gp, lx, lp, kd]); repeat' (first | (with_reducible first | refine c_split ?_ ?_ | refine w_split ?_ ?_ | refine tw_split ?_ ?_) <;> intro hb <;> try simp only [go_sem, hb, hA, e1, e2, e3, e10, e11, h2, h3, dx, wx, gx, gp, lx, lp, kd] | (first | with_reducible refine d323_0_LSortB (by with_unfolding_all rfl) (by kernel_rfl) ?_ | refine call_c (c_lotBefore _ _ _ ?_) | fail) <;> try simp only [go_sem, hA, e1, e2, e3, e10, e11, h2, h3, dx, wx, gx, gp, lx, lp, kd] | fail)
                refine call_h (w_part z n hzs g cap x y p hp1 hp2 hyn hn hgo.1 _ (fun mid ok R m1 m2 Rs B1 B2 L1 L2 => ?_))
                simp only [arrO]
                obtain ⟨v1, v2, v3, t1, t2, t3, t4, t5⟩ := q_part m1 m2 hyn hn
                by_cases hlr : mid - x < y - mid
                · have dlr := (q_lt _ _).1 hlr
                  (try simp only [go_sem, hA, e1, e2, e3, e10, e11, h2, h3, w1, v1, v2, v3, h8, w8, dlr, ne_eq, not_false_eq_true, b_quo]); repeat' (first | (with_reducible first | refine c_split ?_ ?_ | refine w_split ?_ ?_ | refine tw_split ?_ ?_) <;> intro hb <;> try simp only [go_sem, hb, hA, e1, e2, e3, e10, e11, h2, h3, w1, v1, v2, v3, h8, w8, dlr, ne_eq, not_false_eq_true, b_quo] | with_reducible refine d323_0_LSortB (by with_unfolding_all rfl) (by kernel_rfl) ?_ <;> try simp only [go_sem, hA, e1, e2, e3, e10, e11, h2, h3, w1, v1, v2, v3, h8, w8, dlr, ne_eq, not_false_eq_true, b_quo] | fail)
                  refine call_h (ih (mid - x) (Nat.lt_of_lt_of_le t1 hym) R n Rs g cap x mid lim (Nat.le_refl _) m1 t4 hn hlm B1 _ (fun Q p1 s1 => ?_))
                  obtain ⟨Qs, gQ⟩ := L1 Q p1 s1
                  simp only [arrO]
                  (try simp only [go_sem, hA, e1, e2, e3, e10, e11, h2, h3, v1, v2, v3]); repeat' (first | (with_reducible first | refine c_split ?_ ?_ | refine w_split ?_ ?_ | refine tw_split ?_ ?_) <;> intro hb <;> try simp only [go_sem, hb, hA, e1, e2, e3, e10, e11, h2, h3, v1, v2, v3] | with_reducible refine d323_0_LSortB (by with_unfolding_all rfl) (by kernel_rfl) ?_ <;> try simp only [go_sem, hA, e1, e2, e3, e10, e11, h2, h3, v1, v2, v3] | fail)
                  refine GC.now (hJ (mid + 1, y, lim, decide ((((y - x) / 8 : Nat) : Int) ≤ ((mid - x : Nat) : Int)), ok, Q) _ _ (by exact t2) (by simp only [go_sem, hA, e1, e2, e3, e10, e11]) ⟨?_, ?_, ?_, ?_, ?_, ?_, ?_⟩) <;> try simp only [go_sem, hA, e1, e2, e3, e10, e11, v1, v2, v3, h2, h3]
                  exact ⟨q_le3 hax (Nat.le_succ_of_le m1), t3, hyb, hlm, Qs, hgo.goes gQ⟩
                · have dlr := (q_lt _ _).2 hlr
                  (try simp only [go_sem, hA, e1, e2, e3, e10, e11, h2, h3, w1, v1, v2, v3, h8, w8, dlr, ne_eq, not_false_eq_true, b_quo]); repeat' (first | (with_reducible first | refine c_split ?_ ?_ | refine w_split ?_ ?_ | refine tw_split ?_ ?_) <;> intro hb <;> try simp only [go_sem, hb, hA, e1, e2, e3, e10, e11, h2, h3, w1, v1, v2, v3, h8, w8, dlr, ne_eq, not_false_eq_true, b_quo] | with_reducible refine d323_0_LSortB (by with_unfolding_all rfl) (by kernel_rfl) ?_ <;> try simp only [go_sem, hA, e1, e2, e3, e10, e11, h2, h3, w1, v1, v2, v3, h8, w8, dlr, ne_eq, not_false_eq_true, b_quo] | fail)
                  refine call_h (ih (y - (mid + 1)) (Nat.lt_of_lt_of_le t2 hym) R n Rs g cap (mid + 1) y lim (Nat.le_refl _) t3 hyn hn hlm B2 _ (fun Q p1 s1 => ?_))
                  obtain ⟨Qs, gQ⟩ := L2 Q p1 s1
                  simp only [arrO]
                  (try simp only [go_sem, hA, e1, e2, e3, e10, e11, h2, h3, v1, v2, v3]); repeat' (first | (with_reducible first | refine c_split ?_ ?_ | refine w_split ?_ ?_ | refine tw_split ?_ ?_) <;> intro hb <;> try simp only [go_sem, hb, hA, e1, e2, e3, e10, e11, h2, h3, v1, v2, v3] | with_reducible refine d323_0_LSortB (by with_unfolding_all rfl) (by kernel_rfl) ?_ <;> try simp only [go_sem, hA, e1, e2, e3, e10, e11, h2, h3, v1, v2, v3] | fail)
                  refine GC.now (hJ (x, mid, lim, decide ((((y - x) / 8 : Nat) : Int) ≤ ((y - mid : Nat) : Int)), ok, Q) _ _ (by exact t1) (by simp only [go_sem, hA, e1, e2, e3, e10, e11]) ⟨?_, ?_, ?_, ?_, ?_, ?_, ?_⟩) <;> try simp only [go_sem, hA, e1, e2, e3, e10, e11, v1, v2, v3, h2, h3]
                  exact ⟨hax, m1, q_le3 t5 hyb, hlm, Qs, hgo.goes gQ⟩
            · have dx := (q_lt0 x).2 hx0
              (try simp only [go_sem, hA, e1, e2, e3, e10, e11, h2, h3, dx]); repeat' (first | (with_reducible first | refine c_split ?_ ?_ | refine w_split ?_ ?_ | refine tw_split ?_ ?_) <;> intro hb <;> try simp only [go_sem, hb, hA, e1, e2, e3, e10, e11, h2, h3, dx] | with_reducible refine d323_0_LSortB (by with_unfolding_all rfl) (by kernel_rfl) ?_ <;> try simp only [go_sem, hA, e1, e2, e3, e10, e11, h2, h3, dx] | fail)
              refine call_h (w_part z n hzs g cap x y p hp1 hp2 hyn hn hgo.1 _ (fun mid ok R m1 m2 Rs B1 B2 L1 L2 => ?_))
              simp only [arrO]
              obtain ⟨v1, v2, v3, t1, t2, t3, t4, t5⟩ := q_part m1 m2 hyn hn
              by_cases hlr : mid - x < y - mid
              · have dlr := (q_lt _ _).1 hlr
                (try simp only [go_sem, hA, e1, e2, e3, e10, e11, h2, h3, w1, v1, v2, v3, h8, w8, dlr, ne_eq, not_false_eq_true, b_quo]); repeat' (first | (with_reducible first | refine c_split ?_ ?_ | refine w_split ?_ ?_ | refine tw_split ?_ ?_) <;> intro hb <;> try simp only [go_sem, hb, hA, e1, e2, e3, e10, e11, h2, h3, w1, v1, v2, v3, h8, w8, dlr, ne_eq, not_false_eq_true, b_quo] | with_reducible refine d323_0_LSortB (by with_unfolding_all rfl) (by kernel_rfl) ?_ <;> try simp only [go_sem, hA, e1, e2, e3, e10, e11, h2, h3, w1, v1, v2, v3, h8, w8, dlr, ne_eq, not_false_eq_true, b_quo] | fail)
                refine call_h (ih (mid - x) (Nat.lt_of_lt_of_le t1 hym) R n Rs g cap x mid lim (Nat.le_refl _) m1 t4 hn hlm B1 _ (fun Q p1 s1 => ?_))
                obtain ⟨Qs, gQ⟩ := L1 Q p1 s1
                simp only [arrO]
                (try simp only [go_sem, hA, e1, e2, e3, e10, e11, h2, h3, v1, v2, v3]); repeat' (first | (with_reducible first | refine c_split ?_ ?_ | refine w_split ?_ ?_ | refine tw_split ?_ ?_) <;> intro hb <;> try simp only [go_sem, hb, hA, e1, e2, e3, e10, e11, h2, h3, v1, v2, v3] | with_reducible refine d323_0_LSortB (by with_unfolding_all rfl) (by kernel_rfl) ?_ <;> try simp only [go_sem, hA, e1, e2, e3, e10, e11, h2, h3, v1, v2, v3] | fail)
                refine GC.now (hJ (mid + 1, y, lim, decide ((((y - x) / 8 : Nat) : Int) ≤ ((mid - x : Nat) : Int)), ok, Q) _ _ (by exact t2) (by simp only [go_sem, hA, e1, e2, e3, e10, e11]) ⟨?_, ?_, ?_, ?_, ?_, ?_, ?_⟩) <;> try simp only [go_sem, hA, e1, e2, e3, e10, e11, v1, v2, v3, h2, h3]
                exact ⟨q_le3 hax (Nat.le_succ_of_le m1), t3, hyb, hlm, Qs, hgo.goes gQ⟩
              · have dlr := (q_lt _ _).2 hlr
                (try simp only [go_sem, hA, e1, e2, e3, e10, e11, h2, h3, w1, v1, v2, v3, h8, w8, dlr, ne_eq, not_false_eq_true, b_quo]); repeat' (first | (with_reducible first | refine c_split ?_ ?_ | refine w_split ?_ ?_ | refine tw_split ?_ ?_) <;> intro hb <;> try simp only [go_sem, hb, hA, e1, e2, e3, e10, e11, h2, h3, w1, v1, v2, v3, h8, w8, dlr, ne_eq, not_false_eq_true, b_quo] | with_reducible refine d323_0_LSortB (by with_unfolding_all rfl) (by kernel_rfl) ?_ <;> try simp only [go_sem, hA, e1, e2, e3, e10, e11, h2, h3, w1, v1, v2, v3, h8, w8, dlr, ne_eq, not_false_eq_true, b_quo] | fail)
                refine call_h (ih (y - (mid + 1)) (Nat.lt_of_lt_of_le t2 hym) R n Rs g cap (mid + 1) y lim (Nat.le_refl _) t3 hyn hn hlm B2 _ (fun Q p1 s1 => ?_))
                obtain ⟨Qs, gQ⟩ := L2 Q p1 s1
                simp only [arrO]
                (try simp only [go_sem, hA, e1, e2, e3, e10, e11, h2, h3, v1, v2, v3]); repeat' (first | (with_reducible first | refine c_split ?_ ?_ | refine w_split ?_ ?_ | refine tw_split ?_ ?_) <;> intro hb <;> try simp only [go_sem, hb, hA, e1, e2, e3, e10, e11, h2, h3, v1, v2, v3] | with_reducible refine d323_0_LSortB (by with_unfolding_all rfl) (by kernel_rfl) ?_ <;> try simp only [go_sem, hA, e1, e2, e3, e10, e11, h2, h3, v1, v2, v3] | fail)
                refine GC.now (hJ (x, mid, lim, decide ((((y - x) / 8 : Nat) : Int) ≤ ((y - mid : Nat) : Int)), ok, Q) _ _ (by exact t1) (by simp only [go_sem, hA, e1, e2, e3, e10, e11]) ⟨?_, ?_, ?_, ?_, ?_, ?_, ?_⟩) <;> try simp only [go_sem, hA, e1, e2, e3, e10, e11, v1, v2, v3, h2, h3]
                exact ⟨hax, m1, q_le3 t5 hyb, hlm, Qs, hgo.goes gQ⟩
        | false =>
          by_cases hx0 : 0 < x
          · have dx := (q_lt0 x).1 hx0
            have wx := q_pre hx0 hx1000
            obtain ⟨hx1n, lx⟩ := q_x1 hx0 hlt hyn
            obtain ⟨hpn, lp⟩ := q_in (x := x) hp2 hyn
            have gx := arr_get z (hzs ▸ hx1n)
            have gp := arr_get z (hzs ▸ hpn)
            cases hc : lotLt z[x - 1]! z[p]! with
            | false =>
              have kd : decide (lotCmp z[x - 1]! z[p]! < 0) = false := by rw [← lotCmp_lt]; exact hc
              (try simp only [go_sem, hA, e1, e2, e3, e10, e11, h2, dx, wx, gx, gp, lx, lp, kd]); repeat' (first | (with_reducible first | refine c_split ?_ ?_ | refine w_split ?_ ?_ | refine tw_split ?_ ?_) <;> intro hb <;> try simp only [go_sem, hb, hA, e1, e2, e3, e10, e11, h2, dx, wx, gx, gp, lx, lp, kd] | (first | with_reducible refine d323_0_LSortB (by with_unfolding_all rfl) (by kernel_rfl) ?_ | refine call_c (c_lotBefore _ _ _ ?_) | fail) <;> try simp only [go_sem, hA, e1, e2, e3, e10, e11, h2, dx, wx, gx, gp, lx, lp, kd] | fail)
              refine call_h (w_peq z n hzs g cap x y p hp1 hp2 hyn hn hx0 hgo.1 hc _ (fun mid R m1 m2 Rs gR => ?_))
              simp only [arrO]
              (try simp only [go_sem, hA, e1, e2, e3, e10, e11, h2]); repeat' (first | (with_reducible first | refine c_split ?_ ?_ | refine w_split ?_ ?_ | refine tw_split ?_ ?_) <;> intro hb <;> try simp only [go_sem, hb, hA, e1, e2, e3, e10, e11, h2] | with_reducible refine d323_0_LSortB (by with_unfolding_all rfl) (by kernel_rfl) ?_ <;> try simp only [go_sem, hA, e1, e2, e3, e10, e11, h2] | fail)
              obtain ⟨hdec, hxm⟩ := q_mid m1 m2
              refine GC.now (hJ (mid, y, lim, true, false, R) _ _ (by exact hdec) (by simp only [go_sem, hA, e1, e2, e3, e10, e11]) ⟨?_, ?_, ?_, ?_, ?_, ?_, ?_⟩) <;> try simp only [go_sem, hA, e1, e2, e3, e10, e11, h2]
              exact ⟨q_le3 hax hxm, m2, hyb, hlm, Rs, hgo.goes gR⟩
            | true =>
              have kd : decide (lotCmp z[x - 1]! z[p]! < 0) = true := by rw [← lotCmp_lt]; exact hc
              (try simp only [go_sem, hA, e1, e2, e3, e10, e11, h2, dx, wx, gx, gp, lx, lp, kd]); repeat' (first | (with_reducible first | refine c_split ?_ ?_ | refine w_split ?_ ?_ | refine tw_split ?_ ?_) <;> intro hb <;> try simp only [go_sem, hb, hA, e1, e2, e3, e10, e11, h2, dx, wx, gx, gp, lx, lp, kd] | (first | with_reducible refine d323_0_LSortB (by with_unfolding_all rfl) (by kernel_rfl) ?_ | refine call_c (c_lotBefore _ _ _ ?_) | fail) <;> try simp only [go_sem, hA, e1, e2, e3, e10, e11, h2, dx, wx, gx, gp, lx, lp, kd] | fail)
              refine call_h (w_part z n hzs g cap x y p hp1 hp2 hyn hn hgo.1 _ (fun mid ok R m1 m2 Rs B1 B2 L1 L2 => ?_))
              simp only [arrO]
              obtain ⟨v1, v2, v3, t1, t2, t3, t4, t5⟩ := q_part m1 m2 hyn hn
              by_cases hlr : mid - x < y - mid
              · have dlr := (q_lt _ _).1 hlr
                (try simp only [go_sem, hA, e1, e2, e3, e10, e11, h2, w1, v1, v2, v3, h8, w8, dlr, ne_eq, not_false_eq_true, b_quo]); repeat' (first | (with_reducible first | refine c_split ?_ ?_ | refine w_split ?_ ?_ | refine tw_split ?_ ?_) <;> intro hb <;> try simp only [go_sem, hb, hA, e1, e2, e3, e10, e11, h2, w1, v1, v2, v3, h8, w8, dlr, ne_eq, not_false_eq_true, b_quo] | with_reducible refine d323_0_LSortB (by with_unfolding_all rfl) (by kernel_rfl) ?_ <;> try simp only [go_sem, hA, e1, e2, e3, e10, e11, h2, w1, v1, v2, v3, h8, w8, dlr, ne_eq, not_false_eq_true, b_quo] | fail)
                refine call_h (ih (mid - x) (Nat.lt_of_lt_of_le t1 hym) R n Rs g cap x mid lim (Nat.le_refl _) m1 t4 hn hlm B1 _ (fun Q p1 s1 => ?_))
                obtain ⟨Qs, gQ⟩ := L1 Q p1 s1
                simp only [arrO]
                (try simp only [go_sem, hA, e1, e2, e3, e10, e11, h2, v1, v2, v3]); repeat' (first | (with_reducible first | refine c_split ?_ ?_ | refine w_split ?_ ?_ | refine tw_split ?_ ?_) <;> intro hb <;> try simp only [go_sem, hb, hA, e1, e2, e3, e10, e11, h2, v1, v2, v3] | with_reducible refine d323_0_LSortB (by with_unfolding_all rfl) (by kernel_rfl) ?_ <;> try simp only [go_sem, hA, e1, e2, e3, e10, e11, h2, v1, v2, v3] | fail)
                refine GC.now (hJ (mid + 1, y, lim, decide ((((y - x) / 8 : Nat) : Int) ≤ ((mid - x : Nat) : Int)), ok, Q) _ _ (by exact t2) (by simp only [go_sem, hA, e1, e2, e3, e10, e11]) ⟨?_, ?_, ?_, ?_, ?_, ?_, ?_⟩) <;> try simp only [go_sem, hA, e1, e2, e3, e10, e11, v1, v2, v3, h2]
                exact ⟨q_le3 hax (Nat.le_succ_of_le m1), t3, hyb, hlm, Qs, hgo.goes gQ⟩
              · have dlr := (q_lt _ _).2 hlr
                (try simp only [go_sem, hA, e1, e2, e3, e10, e11, h2, w1, v1, v2, v3, h8, w8, dlr, ne_eq, not_false_eq_true, b_quo]); repeat' (first | (with_reducible first | refine c_split ?_ ?_ | refine w_split ?_ ?_ | refine tw_split ?_ ?_) <;> intro hb <;> try simp only [go_sem, hb, hA, e1, e2, e3, e10, e11, h2, w1, v1, v2, v3, h8, w8, dlr, ne_eq, not_false_eq_true, b_quo] | with_reducible refine d323_0_LSortB (by with_unfolding_all rfl) (by kernel_rfl) ?_ <;> try simp only [go_sem, hA, e1, e2, e3, e10, e11, h2, w1, v1, v2, v3, h8, w8, dlr, ne_eq, not_false_eq_true, b_quo] | fail)
                refine call_h (ih (y - (mid + 1)) (Nat.lt_of_lt_of_le t2 hym) R n Rs g cap (mid + 1) y lim (Nat.le_refl _) t3 hyn hn hlm B2 _ (fun Q p1 s1 => ?_))
                obtain ⟨Qs, gQ⟩ := L2 Q p1 s1
                simp only [arrO]
                (try simp only [go_sem, hA, e1, e2, e3, e10, e11, h2, v1, v2, v3]); repeat' (first | (with_reducible first | refine c_split ?_ ?_ | refine w_split ?_ ?_ | refine tw_split ?_ ?_) <;> intro hb <;> try simp only [go_sem, hb, hA, e1, e2, e3, e10, e11, h2, v1, v2, v3] | with_reducible refine d323_0_LSortB (by with_unfolding_all rfl) (by kernel_rfl) ?_ <;> try simp only [go_sem, hA, e1, e2, e3, e10, e11, h2, v1, v2, v3] | fail)
                refine GC.now (hJ (x, mid, lim, decide ((((y - x) / 8 : Nat) : Int) ≤ ((y - mid : Nat) : Int)), ok, Q) _ _ (by exact t1) (by simp only [go_sem, hA, e1, e2, e3, e10, e11]) ⟨?_, ?_, ?_, ?_, ?_, ?_, ?_⟩) <;> try simp only [go_sem, hA, e1, e2, e3, e10, e11, v1, v2, v3, h2]
                exact ⟨hax, m1, q_le3 t5 hyb, hlm, Qs, hgo.goes gQ⟩
          · have dx := (q_lt0 x).2 hx0
            (try simp only [go_sem, hA, e1, e2, e3, e10, e11, h2, dx]); repeat' (first | (with_reducible first | refine c_split ?_ ?_ | refine w_split ?_ ?_ | refine tw_split ?_ ?_) <;> intro hb <;> try simp only [go_sem, hb, hA, e1, e2, e3, e10, e11, h2, dx] | with_reducible refine d323_0_LSortB (by with_unfolding_all rfl) (by kernel_rfl) ?_ <;> try simp only [go_sem, hA, e1, e2, e3, e10, e11, h2, dx] | fail)
            refine call_h (w_part z n hzs g cap x y p hp1 hp2 hyn hn hgo.1 _ (fun mid ok R m1 m2 Rs B1 B2 L1 L2 => ?_))
            simp only [arrO]
            obtain ⟨v1, v2, v3, t1, t2, t3, t4, t5⟩ := q_part m1 m2 hyn hn
            by_cases hlr : mid - x < y - mid
            · have dlr := (q_lt _ _).1 hlr
              (try simp only [go_sem, hA, e1, e2, e3, e10, e11, h2, w1, v1, v2, v3, h8, w8, dlr, ne_eq, not_false_eq_true, b_quo]); repeat' (first | (with_reducible first | refine c_split ?_ ?_ | refine w_split ?_ ?_ | refine tw_split ?_ ?_) <;> intro hb <;> try simp only [go_sem, hb, hA, e1, e2, e3, e10, e11, h2, w1, v1, v2, v3, h8, w8, dlr, ne_eq, not_false_eq_true, b_quo] | with_reducible refine d323_0_LSortB (by with_unfolding_all rfl) (by kernel_rfl) ?_ <;> try simp only [go_sem, hA, e1, e2, e3, e10, e11, h2, w1, v1, v2, v3, h8, w8, dlr, ne_eq, not_false_eq_true, b_quo] | fail)
              refine call_h (ih (mid - x) (Nat.lt_of_lt_of_le t1 hym) R n Rs g cap x mid lim (Nat.le_refl _) m1 t4 hn hlm B1 _ (fun Q p1 s1 => ?_))
              obtain ⟨Qs, gQ⟩ := L1 Q p1 s1
              simp only [arrO]
              (try simp only [go_sem, hA, e1, e2, e3, e10, e11, h2, v1, v2, v3]); repeat' (first | (with_reducible first | refine c_split ?_ ?_ | refine w_split ?_ ?_ | refine tw_split ?_ ?_) <;> intro hb <;> try simp only [go_sem, hb, hA, e1, e2, e3, e10, e11, h2, v1, v2, v3] | with_reducible refine d323_0_LSortB (by with_unfolding_all rfl) (by kernel_rfl) ?_ <;> try simp only [go_sem, hA, e1, e2, e3, e10, e11, h2, v1, v2, v3] | fail)
              refine GC.now (hJ (mid + 1, y, lim, decide ((((y - x) / 8 : Nat) : Int) ≤ ((mid - x : Nat) : Int)), ok, Q) _ _ (by exact t2) (by simp only [go_sem, hA, e1, e2, e3, e10, e11]) ⟨?_, ?_, ?_, ?_, ?_, ?_, ?_⟩) <;> try simp only [go_sem, hA, e1, e2, e3, e10, e11, v1, v2, v3, h2]
              exact ⟨q_le3 hax (Nat.le_succ_of_le m1), t3, hyb, hlm, Qs, hgo.goes gQ⟩
            · have dlr := (q_lt _ _).2 hlr
              (try simp only [go_sem, hA, e1, e2, e3, e10, e11, h2, w1, v1, v2, v3, h8, w8, dlr, ne_eq, not_false_eq_true, b_quo]); repeat' (first | (with_reducible first | refine c_split ?_ ?_ | refine w_split ?_ ?_ | refine tw_split ?_ ?_) <;> intro hb <;> try simp only [go_sem, hb, hA, e1, e2, e3, e10, e11, h2, w1, v1, v2, v3, h8, w8, dlr, ne_eq, not_false_eq_true, b_quo] | with_reducible refine d323_0_LSortB (by with_unfolding_all rfl) (by kernel_rfl) ?_ <;> try simp only [go_sem, hA, e1, e2, e3, e10, e11, h2, w1, v1, v2, v3, h8, w8, dlr, ne_eq, not_false_eq_true, b_quo] | fail)
              refine call_h (ih (y - (mid + 1)) (Nat.lt_of_lt_of_le t2 hym) R n Rs g cap (mid + 1) y lim (Nat.le_refl _) t3 hyn hn hlm B2 _ (fun Q p1 s1 => ?_))
              obtain ⟨Qs, gQ⟩ := L2 Q p1 s1
              simp only [arrO]
              (try simp only [go_sem, hA, e1, e2, e3, e10, e11, h2, v1, v2, v3]); repeat' (first | (with_reducible first | refine c_split ?_ ?_ | refine w_split ?_ ?_ | refine tw_split ?_ ?_) <;> intro hb <;> try simp only [go_sem, hb, hA, e1, e2, e3, e10, e11, h2, v1, v2, v3] | with_reducible refine d323_0_LSortB (by with_unfolding_all rfl) (by kernel_rfl) ?_ <;> try simp only [go_sem, hA, e1, e2, e3, e10, e11, h2, v1, v2, v3] | fail)
              refine GC.now (hJ (x, mid, lim, decide ((((y - x) / 8 : Nat) : Int) ≤ ((y - mid : Nat) : Int)), ok, Q) _ _ (by exact t1) (by simp only [go_sem, hA, e1, e2, e3, e10, e11]) ⟨?_, ?_, ?_, ?_, ?_, ?_, ?_⟩) <;> try simp only [go_sem, hA, e1, e2, e3, e10, e11, v1, v2, v3, h2]
              exact ⟨hax, m1, q_le3 t5 hyb, hlm, Qs, hgo.goes gQ⟩
end Go.Proofs.YtkndmncgohmjmaaGreat
end
section
namespace Go.Proofs.YtkndmncgohmjmaaGreat
open Go.BL Go.RowKit
set_option linter.unusedVariables false
set_option linter.unusedSimpArgs false
set_option maxRecDepth 100000
def mdOk (a b c : Int) : Bool := decide (0 ≤ a ∧ a ≤ 1000000000000000) && decide (0 ≤ b ∧ b ≤ 1000000000000000) && decide (1 ≤ c ∧ c ≤ 1000000000000000)
def mulDivR (a b c : Int) : Option (Int × Int) := if (mdOk a b c && decide (a * b / c ≤ 1000000000000000)) = true then some (a * b / c, a * b % c) else none
def mdV : Option (Int × Int) → AV
  | some (q, r) => .tup [(.one (.c (.int .i64 (q)))), (.one (.c (.int .i64 (r)))), (.one (.c (.bool (true))))]
  | none => .tup [(.one (.c (.int .i64 (0)))), (.one (.c (.int .i64 (0)))), (.one (.c (.bool (false))))]
theorem md_bit (a g : Nat) : a / 2 ^ g = 2 * (a / 2 ^ (g + 1)) + a / 2 ^ g % 2 := by
  rw [Nat.pow_succ, ← Nat.div_div_eq_div_mul]; omega
theorem md_shr (a g : Nat) (hg : g ≤ 50) : (a : Int).fdiv (2 ^ min g 64) = ((a / 2 ^ g : Nat) : Int) := by
  have h1 : min g 64 = g := by omega
  rw [h1, Int.fdiv_eq_ediv_of_nonneg _ (by have : (0 : Int) < 2 ^ g := Int.pow_pos (by decide); omega)]
  rw [Int.natCast_ediv, Int.natCast_pow]; rfl
theorem and_1 (n : Nat) (hn : n < 9223372036854775808) : IntKind.i64.wrap (((BitVec.ofInt IntKind.i64.bits (n : Int) &&& BitVec.ofInt IntKind.i64.bits 1).toNat : Nat) : Int) = ((n % 2 : Nat) : Int) := by
  have h := and_nat n 1 hn (by omega)
  rw [Nat.and_one_is_mod] at h
  exact h
theorem md_eq {a b c q r : Nat} (hc : 1 ≤ c) (h : q * c + r = a * b) (hr : r < c) : a * b / c = q ∧ a * b % c = r := by
  rw [← h]
  constructor
  · rw [Nat.mul_comm, Nat.mul_add_div (by omega), Nat.div_eq_of_lt hr, Nat.add_zero]
  · rw [Nat.mul_comm, Nat.mul_add_mod, Nat.mod_eq_of_lt hr]
theorem md_over {A a b c q r : Nat} (hc : 1 ≤ c) (hA : A ≤ a) (h : q * c + r = A * b) (hq : 1000000000000000 < q) : 1000000000000000 < a * b / c := by
  have h1 : A * b ≤ a * b := Nat.mul_le_mul_right b hA
  have h2 : q * c ≤ a * b := by omega
  have h3 : q ≤ a * b / c := (Nat.le_div_iff_mul_le (by omega)).2 h2
  omega
theorem md_half {A b c q r : Nat} (h : q * c + r = A * b) (hr : r < c) (hq : q ≤ 1000000000000000) (hc : c ≤ 1000000000000000) : (c ≤ 2 * r → (2 * q + 1) * c + (2 * r - c) = 2 * (A * b) ∧ 2 * r - c < c) ∧ (¬ c ≤ 2 * r → 2 * q * c + 2 * r = 2 * (A * b) ∧ 2 * r < c) := by
  have e : 2 * q * c = 2 * (q * c) := Nat.mul_assoc _ _ _
  constructor
  · intro h1
    rw [Nat.add_mul, e]; omega
  · intro h1
    rw [e]; omega
theorem md_add {b c q r g a : Nat} (hc : 1 ≤ c) (h : q * c + r = 2 * (a / 2 ^ (g + 1) * b)) (hr : r < c) : (¬ a / 2 ^ g % 2 = 1 → q * c + r = a / 2 ^ g * b) ∧ (a / 2 ^ g % 2 = 1 → (c ≤ r + b % c → (q + b / c + 1) * c + (r + b % c - c) = a / 2 ^ g * b ∧ r + b % c - c < c) ∧ (¬ c ≤ r + b % c → (q + b / c) * c + (r + b % c) = a / 2 ^ g * b ∧ r + b % c < c)) := by
  have hm := Nat.mod_lt b (show c > 0 by omega)
  have hd := Nat.div_add_mod b c
  have hb := md_bit a g
  have hbc : b / c * c = c * (b / c) := Nat.mul_comm _ _
  have e0 : 2 * (a / 2 ^ (g + 1) * b) = 2 * (a / 2 ^ (g + 1)) * b := (Nat.mul_assoc _ _ _).symm
  generalize a / 2 ^ g = x at *
  generalize a / 2 ^ (g + 1) = y at *
  constructor
  · intro h1
    have : x = 2 * y := by omega
    rw [h, e0, this]
  · intro h1
    have hx : x = 2 * y + 1 := by omega
    have hxb : x * b = 2 * y * b + b := by rw [hx, Nat.add_mul, Nat.one_mul]
    rw [hxb, ← e0, ← h]
    constructor
    · intro h2
      rw [Nat.add_mul, Nat.add_mul, hbc]; omega
    · intro h2
      rw [Nat.add_mul, hbc]; omega
theorem md_words {q r c : Nat} (hq : q ≤ 1000000000000000) (hr : r < c) (hc : c ≤ 1000000000000000) : wrap64 (2 * (q : Int)) = ((2 * q : Nat) : Int) ∧ wrap64 (2 * (r : Int)) = ((2 * r : Nat) : Int) ∧ wrap64 (((2 * q : Nat) : Int) + 1) = ((2 * q + 1 : Nat) : Int) := by
  refine ⟨?_, ?_, ?_⟩ <;> (rw [wrap_id _ (by omega) (by omega)]; omega)
theorem md_sub {x c : Nat} (h : c ≤ x) (hx : x ≤ 4000000000000000) : wrap64 ((x : Int) - (c : Int)) = ((x - c : Nat) : Int) := by rw [wrap_id _ (by omega) (by omega)]; omega
theorem md_plus {x y : Nat} (hx : x ≤ 4000000000000000) (hy : y ≤ 4000000000000000) : wrap64 ((x : Int) + (y : Int)) = ((x + y : Nat) : Int) := by rw [wrap_id _ (by omega) (by omega)]; omega
theorem md_plus1 {x : Nat} (hx : x ≤ 4000000000000000) : wrap64 ((x : Int) + 1) = ((x + 1 : Nat) : Int) := by rw [wrap_id _ (by omega) (by omega)]; omega
theorem md_quo {b c : Nat} (hb : b ≤ 1000000000000000) : wrap64 ((b : Int).tdiv (c : Int)) = ((b / c : Nat) : Int) ∧ (b : Int).tmod (c : Int) = ((b % c : Nat) : Int) := by
  have h := Nat.div_le_self b c
  refine ⟨?_, (Int.ofNat_tmod b c).symm⟩
  rw [show (b : Int).tdiv (c : Int) = ((b / c : Nat) : Int) from (Int.ofNat_tdiv b c).symm]
  generalize b / c = x at *
  rw [wrap_id _ (by omega) (by omega)]
theorem md_dle {x y : Nat} (h : x ≤ y) : decide ((x : Int) ≤ (y : Int)) = true := decide_eq_true (Int.ofNat_le.2 h)
theorem md_dnle {x y : Nat} (h : ¬ x ≤ y) : decide ((x : Int) ≤ (y : Int)) = false := decide_eq_false fun q => h (Int.ofNat_le.1 q)
theorem md_big {q : Nat} : (1000000000000000 < q → decide ((1000000000000000 : Int) < (q : Int)) = true) ∧ (¬ 1000000000000000 < q → decide ((1000000000000000 : Int) < (q : Int)) = false) := ⟨fun h => decide_eq_true (by omega), fun h => decide_eq_false (by omega)⟩
theorem md_dec {g : Nat} (h : g ≤ 51) : wrap64 ((g : Int) - 1) = (g : Int) - 1 := by rw [wrap_id _ (by omega) (by omega)]
theorem md_end {a b c q r : Nat} (hc : 1 ≤ c) (h : q * c + r = a / 2 ^ 0 * b) (hr : r < c) : a * b / c = q ∧ a * b % c = r := md_eq hc (by rw [h]; simp) hr
theorem md_fail {a b c q r g : Nat} (hc : 1 ≤ c) (h : q * c + r = a / 2 ^ g * b) (hq : 1000000000000000 < q) : ¬ a * b / c ≤ 1000000000000000 := by
  have := md_over hc (Nat.div_le_self a (2 ^ g)) h hq
  omega
theorem md_qb {q1 x : Nat} (h1 : q1 ≤ 2000000000000001) (h2 : x ≤ 1000000000000001) : q1 + x ≤ 4000000000000000 := by omega
theorem md_h2 {q : Nat} (h : q ≤ 1000000000000000) : 2 * q ≤ 2000000000000001 ∧ 2 * q + 1 ≤ 2000000000000001 := by omega
theorem md_4b {r b c : Nat} (h : r < c) (hc1 : 1 ≤ c) (hc : c ≤ 1000000000000000) : r + b % c ≤ 4000000000000000 ∧ b % c ≤ 4000000000000000 ∧ r ≤ 4000000000000000 := by have := Nat.mod_lt b (show c > 0 by omega); omega
theorem md_d {b c : Nat} (hb : b ≤ 1000000000000000) : b / c ≤ 4000000000000000 ∧ b / c ≤ 1000000000000001 ∧ b / c + 1 ≤ 1000000000000001 := by have := Nat.div_le_self b c; omega
theorem md_nb2 {x : Nat} (h : ¬ 1000000000000000 < x + 1) : x ≤ 999999999999999 := by omega
theorem md_nb {x : Nat} (h : ¬ 1000000000000000 < x) : x ≤ 1000000000000000 := by omega
theorem md_c3 {x : Nat} (h : x ≤ 2000000000000001) : x ≤ 4000000000000000 := by omega
theorem c_spec_MulDiv (a b c : Int) (K : AV → AH → Prop) (hk : K (mdV (mulDivR a b c)) []) : ACalls Tryz.prog 149 [(.one (.c (.int .i64 (a)))), (.one (.c (.int .i64 (b)))), (.one (.c (.int .i64 (c))))] [] K := by
  cases hm : mdOk a b c with
  | false =>
    have e : mulDivR a b c = none := by unfold mulDivR; rw [hm]; rfl
    rw [e] at hk
    refine acall_c Tryz.f149.results.toList mixed Tryz.func149 rfl rfl (by kernel_rfl) ?_
    intro Q hQ hQO
    simp only [go_sem]
    cases h1 : decide (0 ≤ a ∧ a ≤ 1000000000000000) with
    | false =>
      (try simp only [go_sem, h1]); repeat' (first | (with_reducible first | refine c_split ?_ ?_ | refine w_split ?_ ?_) <;> intro hb <;> try simp only [go_sem, hb, h1] | refine call_c (c_l1Some _ _ _ ?_) <;> try simp only [go_sem, h1] | with_reducible refine hQ _ _ ?_ <;> simp only [Tryz.f149, go_sem, h1])
      exact hk
    | true =>
      cases h2 : decide (0 ≤ b ∧ b ≤ 1000000000000000) with
      | false =>
        (try simp only [go_sem, h1, h2]); repeat' (first | (with_reducible first | refine c_split ?_ ?_ | refine w_split ?_ ?_) <;> intro hb <;> try simp only [go_sem, hb, h1, h2] | refine call_c (c_l1Some _ _ _ ?_) <;> try simp only [go_sem, h1, h2] | with_reducible refine hQ _ _ ?_ <;> simp only [Tryz.f149, go_sem, h1, h2])
        exact hk
      | true =>
        have h3 : decide (1 ≤ c ∧ c ≤ 1000000000000000) = false := by
          rw [mdOk, h1, h2] at hm; exact hm
        (try simp only [go_sem, h1, h2, h3]); repeat' (first | (with_reducible first | refine c_split ?_ ?_ | refine w_split ?_ ?_) <;> intro hb <;> try simp only [go_sem, hb, h1, h2, h3] | refine call_c (c_l1Some _ _ _ ?_) <;> try simp only [go_sem, h1, h2, h3] | with_reducible refine hQ _ _ ?_ <;> simp only [Tryz.f149, go_sem, h1, h2, h3])
        exact hk
  | true =>
    rw [mdOk, Bool.and_eq_true, Bool.and_eq_true] at hm
    have hm0 : mdOk a b c = true := by rw [mdOk, hm.1.1, hm.1.2, hm.2]; rfl
    obtain ⟨⟨h1, h2⟩, h3⟩ := hm
    have g1 := of_decide_eq_true h1
    have g2 := of_decide_eq_true h2
    have g3 := of_decide_eq_true h3
    obtain ⟨a, rfl⟩ : ∃ n : Nat, a = (n : Int) := ⟨a.toNat, by omega⟩
    obtain ⟨b, rfl⟩ : ∃ n : Nat, b = (n : Int) := ⟨b.toNat, by omega⟩
    obtain ⟨c, rfl⟩ : ∃ n : Nat, c = (n : Int) := ⟨c.toNat, by omega⟩
    have ha : a ≤ 1000000000000000 := Int.ofNat_le.1 g1.2
    have hb : b ≤ 1000000000000000 := Int.ofNat_le.1 g2.2
    have hc : 1 ≤ c ∧ c ≤ 1000000000000000 := ⟨Int.ofNat_le.1 g3.1, Int.ofNat_le.1 g3.2⟩
    have hR : mulDivR (a : Int) (b : Int) (c : Int) = if a * b / c ≤ 1000000000000000 then some (((a * b / c : Nat) : Int), ((a * b % c : Nat) : Int)) else none := by
      unfold mulDivR
      rw [hm0, Bool.true_and, ← Int.natCast_mul, ← Int.natCast_ediv, ← Int.natCast_emod]
      by_cases h : a * b / c ≤ 1000000000000000
      · rw [if_pos (decide_eq_true (show ((a * b / c : Nat) : Int) ≤ 1000000000000000 from Int.ofNat_le.2 h)), if_pos h]
      · rw [if_neg (show ¬ decide (((a * b / c : Nat) : Int) ≤ 1000000000000000) = true from fun q => h (Int.ofNat_le.1 (of_decide_eq_true q))), if_neg h]
    rw [hR] at hk
    have j1 : decide ((a : Int) ≤ 1000000000000000) = true := decide_eq_true g1.2
    have j2 : decide ((b : Int) ≤ 1000000000000000) = true := decide_eq_true g2.2
    clear hR hm0 h1 h2 g1 g2
    refine acall_c Tryz.f149.results.toList mixed Tryz.func149 rfl rfl (by kernel_rfl) ?_
    intro Q hQ hQO
    simp only [go_sem]
    (try simp only [go_sem, j1, j2, h3]); repeat' (first | (with_reducible first | refine c_split ?_ ?_ | refine w_split ?_ ?_) <;> intro hb <;> try simp only [go_sem, hb, j1, j2, h3] | refine call_c (c_l1Some _ _ _ ?_) <;> try simp only [go_sem, j1, j2, h3] | fail)
    have h51 : 0 * c + 0 = a / 2 ^ 51 * b := by rw [Nat.div_eq_of_lt (Nat.lt_of_le_of_lt ha (by decide))]; simp
    refine while_at (α := Nat × Nat × Nat) (fun ⟨u, q, r⟩ => u) [0, 1, 2] (fun ⟨u, q, r⟩ f h => f 11 = (.one (.c (.int .i64 ((u : Int) - 1)))) ∧ f 9 = (.one (.c (.int .i64 ((q : Int))))) ∧ f 10 = (.one (.c (.int .i64 ((r : Int))))) ∧ h = [] ∧ u ≤ 51 ∧ q * c + r = a / 2 ^ u * b ∧ r < c ∧ q ≤ 1000000000000000) (51, 0, 0) (GC.now ?_) ?_
    · simp only [go_sem, nc_0, true_and]
      exact ⟨rfl, h51, hc.1⟩
    · rintro ⟨u, q, r⟩ f h J hA ⟨e11, e9, e10, rfl, hP⟩ hJ
      simp only [go_sem] at hA
      try dsimp only at hJ
      simp only [go_sem, hA, e11, e9, e10]
      obtain ⟨hf, hinv, hrc, hqm⟩ := hP
      cases u with
      | zero =>
        obtain ⟨z1, z2⟩ := md_end hc.1 hinv hrc
        rw [z1, z2, if_pos hqm] at hk
        have hd0 : decide (0 ≤ ((0 : Nat) : Int) - 1) = false := rfl
        (try simp only [go_sem, hA, e11, e9, e10, hd0]); repeat' (first | (with_reducible first | refine c_split ?_ ?_ | refine w_split ?_ ?_) <;> intro hb <;> try simp only [go_sem, hb, hA, e11, e9, e10, hd0] | with_reducible refine hQ _ _ ?_ <;> simp only [Tryz.f149, go_sem, hA, e11, e9, e10, hd0])
        exact hk
      | succ g =>
        have hg : g ≤ 50 := Nat.le_of_succ_le_succ hf
        have hfi : ((g + 1 : Nat) : Int) - 1 = (g : Int) := by omega
        have hd0 : decide (0 ≤ (g : Int)) = true := decide_eq_true (Int.natCast_nonneg g)
        have hg0 : (0 : Int) ≤ (g : Int) := Int.natCast_nonneg g
        obtain ⟨w1, w2, w3⟩ := md_words hqm hrc hc.2
        obtain ⟨p1, p2⟩ := md_half hinv hrc hqm hc.2
        obtain ⟨m1, m2⟩ := md_h2 hqm
        have hsh := md_shr a g hg
        have hla : a / 2 ^ g < 9223372036854775808 := Nat.lt_of_le_of_lt (Nat.div_le_self _ _) (Nat.lt_of_le_of_lt ha (by decide))
        have han := and_1 (a / 2 ^ g) hla
        obtain ⟨u1, u2⟩ := md_quo (c := c) hb
        have hc0 : (c : Int) ≠ 0 := by have := hc.1; omega
        have hdw := md_dec (g := g) (Nat.le_trans hg (by decide))
        simp only [IntKind.bits] at han
        by_cases hc2 : c ≤ 2 * r
        · have x0 := md_sub hc2 (show 2 * r ≤ 4000000000000000 by omega)
          obtain ⟨e1, e2⟩ := p1 hc2
          obtain ⟨a1, a2⟩ := md_add (g := g) (a := a) (b := b) hc.1 e1 e2
          obtain ⟨v1, v2, v3⟩ := md_4b (b := b) e2 hc.1 hc.2
          obtain ⟨v4, v5, v6⟩ := md_d (c := c) hb
          by_cases hbit : a / 2 ^ g % 2 = 1
          · have hb1 : (((a / 2 ^ g % 2 : Nat) : Int) == 1) = true := by rw [hbit]; rfl
            obtain ⟨a3, a4⟩ := a2 hbit
            have x1 := md_plus (md_c3 m2) v4
            have x2 := md_plus v3 v2
            have x3 := md_plus1 (md_qb m2 v5)
            by_cases hle : c ≤ (2 * r - c) + b % c
            · have x4 := md_sub hle v1
              by_cases hbig : 1000000000000000 < ((2 * q + 1) + b / c + 1)
              · rw [if_neg (md_fail hc.1 (a3 hle).1 hbig)] at hk
                (try simp only [go_sem, hA, e11, e9, e10, hfi, hd0, w1, w2, x0, w3, md_dle hc2, b_shr, b_and, hg0, hsh, han, hb1, b_quo, b_rem, ne_eq, hc0, not_false_eq_true, u1, u2, x1, x2, x3, x4, md_dle hle, md_big.1 hbig]); repeat' (first | (with_reducible first | refine c_split ?_ ?_ | refine w_split ?_ ?_) <;> intro hb <;> try simp only [go_sem, hb, hA, e11, e9, e10, hfi, hd0, w1, w2, x0, w3, md_dle hc2, b_shr, b_and, hg0, hsh, han, hb1, b_quo, b_rem, ne_eq, hc0, not_false_eq_true, u1, u2, x1, x2, x3, x4, md_dle hle, md_big.1 hbig] | with_reducible refine hQ _ _ ?_ <;> simp only [Tryz.f149, go_sem, hA, e11, e9, e10, hfi, hd0, w1, w2, x0, w3, md_dle hc2, b_shr, b_and, hg0, hsh, han, hb1, b_quo, b_rem, ne_eq, hc0, not_false_eq_true, u1, u2, x1, x2, x3, x4, md_dle hle, md_big.1 hbig])
                exact hk
              · (try simp only [go_sem, hA, e11, e9, e10, hfi, hd0, w1, w2, x0, w3, md_dle hc2, b_shr, b_and, hg0, hsh, han, hb1, b_quo, b_rem, ne_eq, hc0, not_false_eq_true, u1, u2, x1, x2, x3, x4, md_dle hle, md_big.2 hbig]); repeat' (first | (with_reducible first | refine c_split ?_ ?_ | refine w_split ?_ ?_) <;> intro hb <;> try simp only [go_sem, hb, hA, e11, e9, e10, hfi, hd0, w1, w2, x0, w3, md_dle hc2, b_shr, b_and, hg0, hsh, han, hb1, b_quo, b_rem, ne_eq, hc0, not_false_eq_true, u1, u2, x1, x2, x3, x4, md_dle hle, md_big.2 hbig] | fail)
                refine GC.now (hJ (g, ((2 * q + 1) + b / c + 1), ((2 * r - c) + b % c - c)) _ _ (by exact Nat.lt_succ_self g) (by simp only [go_sem, hA, e11, e9, e10]) ⟨?_, ?_, ?_, ?_, ?_⟩) <;> try simp only [go_sem, hA, e11, e9, e10, hdw, hfi]
                exact ⟨Nat.le_trans hg (by decide), (a3 hle).1, (a3 hle).2, by first | exact md_nb hbig | exact md_nb2 hbig⟩
            · skip
              by_cases hbig : 1000000000000000 < ((2 * q + 1) + b / c)
              · rw [if_neg (md_fail hc.1 (a4 hle).1 hbig)] at hk
                (try simp only [go_sem, hA, e11, e9, e10, hfi, hd0, w1, w2, x0, w3, md_dle hc2, b_shr, b_and, hg0, hsh, han, hb1, b_quo, b_rem, ne_eq, hc0, not_false_eq_true, u1, u2, x1, x2, md_dnle hle, md_big.1 hbig]); repeat' (first | (with_reducible first | refine c_split ?_ ?_ | refine w_split ?_ ?_) <;> intro hb <;> try simp only [go_sem, hb, hA, e11, e9, e10, hfi, hd0, w1, w2, x0, w3, md_dle hc2, b_shr, b_and, hg0, hsh, han, hb1, b_quo, b_rem, ne_eq, hc0, not_false_eq_true, u1, u2, x1, x2, md_dnle hle, md_big.1 hbig] | with_reducible refine hQ _ _ ?_ <;> simp only [Tryz.f149, go_sem, hA, e11, e9, e10, hfi, hd0, w1, w2, x0, w3, md_dle hc2, b_shr, b_and, hg0, hsh, han, hb1, b_quo, b_rem, ne_eq, hc0, not_false_eq_true, u1, u2, x1, x2, md_dnle hle, md_big.1 hbig])
                exact hk
              · (try simp only [go_sem, hA, e11, e9, e10, hfi, hd0, w1, w2, x0, w3, md_dle hc2, b_shr, b_and, hg0, hsh, han, hb1, b_quo, b_rem, ne_eq, hc0, not_false_eq_true, u1, u2, x1, x2, md_dnle hle, md_big.2 hbig]); repeat' (first | (with_reducible first | refine c_split ?_ ?_ | refine w_split ?_ ?_) <;> intro hb <;> try simp only [go_sem, hb, hA, e11, e9, e10, hfi, hd0, w1, w2, x0, w3, md_dle hc2, b_shr, b_and, hg0, hsh, han, hb1, b_quo, b_rem, ne_eq, hc0, not_false_eq_true, u1, u2, x1, x2, md_dnle hle, md_big.2 hbig] | fail)
                refine GC.now (hJ (g, ((2 * q + 1) + b / c), ((2 * r - c) + b % c)) _ _ (by exact Nat.lt_succ_self g) (by simp only [go_sem, hA, e11, e9, e10]) ⟨?_, ?_, ?_, ?_, ?_⟩) <;> try simp only [go_sem, hA, e11, e9, e10, hdw, hfi]
                exact ⟨Nat.le_trans hg (by decide), (a4 hle).1, (a4 hle).2, by first | exact md_nb hbig | exact md_nb2 hbig⟩
          · have hb1 : (((a / 2 ^ g % 2 : Nat) : Int) == 1) = false := beq_eq_false_iff_ne.2 (fun q => hbit (Int.ofNat_inj.1 q))
            by_cases hbig : 1000000000000000 < (2 * q + 1)
            · rw [if_neg (md_fail hc.1 (a1 hbit) hbig)] at hk
              (try simp only [go_sem, hA, e11, e9, e10, hfi, hd0, w1, w2, x0, w3, md_dle hc2, b_shr, b_and, hg0, hsh, han, hb1, md_big.1 hbig]); repeat' (first | (with_reducible first | refine c_split ?_ ?_ | refine w_split ?_ ?_) <;> intro hb <;> try simp only [go_sem, hb, hA, e11, e9, e10, hfi, hd0, w1, w2, x0, w3, md_dle hc2, b_shr, b_and, hg0, hsh, han, hb1, md_big.1 hbig] | with_reducible refine hQ _ _ ?_ <;> simp only [Tryz.f149, go_sem, hA, e11, e9, e10, hfi, hd0, w1, w2, x0, w3, md_dle hc2, b_shr, b_and, hg0, hsh, han, hb1, md_big.1 hbig])
              exact hk
            · (try simp only [go_sem, hA, e11, e9, e10, hfi, hd0, w1, w2, x0, w3, md_dle hc2, b_shr, b_and, hg0, hsh, han, hb1, md_big.2 hbig]); repeat' (first | (with_reducible first | refine c_split ?_ ?_ | refine w_split ?_ ?_) <;> intro hb <;> try simp only [go_sem, hb, hA, e11, e9, e10, hfi, hd0, w1, w2, x0, w3, md_dle hc2, b_shr, b_and, hg0, hsh, han, hb1, md_big.2 hbig] | fail)
              refine GC.now (hJ (g, (2 * q + 1), (2 * r - c)) _ _ (by exact Nat.lt_succ_self g) (by simp only [go_sem, hA, e11, e9, e10]) ⟨?_, ?_, ?_, ?_, ?_⟩) <;> try simp only [go_sem, hA, e11, e9, e10, hdw, hfi]
              exact ⟨Nat.le_trans hg (by decide), (a1 hbit), e2, by first | exact md_nb hbig | exact md_nb2 hbig⟩
        · obtain ⟨e1, e2⟩ := p2 hc2
          obtain ⟨a1, a2⟩ := md_add (g := g) (a := a) (b := b) hc.1 e1 e2
          obtain ⟨v1, v2, v3⟩ := md_4b (b := b) e2 hc.1 hc.2
          obtain ⟨v4, v5, v6⟩ := md_d (c := c) hb
          by_cases hbit : a / 2 ^ g % 2 = 1
          · have hb1 : (((a / 2 ^ g % 2 : Nat) : Int) == 1) = true := by rw [hbit]; rfl
            obtain ⟨a3, a4⟩ := a2 hbit
            have x1 := md_plus (md_c3 m1) v4
            have x2 := md_plus v3 v2
            have x3 := md_plus1 (md_qb m1 v5)
            by_cases hle : c ≤ (2 * r) + b % c
            · have x4 := md_sub hle v1
              by_cases hbig : 1000000000000000 < ((2 * q) + b / c + 1)
              · rw [if_neg (md_fail hc.1 (a3 hle).1 hbig)] at hk
                (try simp only [go_sem, hA, e11, e9, e10, hfi, hd0, w1, w2, md_dnle hc2, b_shr, b_and, hg0, hsh, han, hb1, b_quo, b_rem, ne_eq, hc0, not_false_eq_true, u1, u2, x1, x2, x3, x4, md_dle hle, md_big.1 hbig]); repeat' (first | (with_reducible first | refine c_split ?_ ?_ | refine w_split ?_ ?_) <;> intro hb <;> try simp only [go_sem, hb, hA, e11, e9, e10, hfi, hd0, w1, w2, md_dnle hc2, b_shr, b_and, hg0, hsh, han, hb1, b_quo, b_rem, ne_eq, hc0, not_false_eq_true, u1, u2, x1, x2, x3, x4, md_dle hle, md_big.1 hbig] | with_reducible refine hQ _ _ ?_ <;> simp only [Tryz.f149, go_sem, hA, e11, e9, e10, hfi, hd0, w1, w2, md_dnle hc2, b_shr, b_and, hg0, hsh, han, hb1, b_quo, b_rem, ne_eq, hc0, not_false_eq_true, u1, u2, x1, x2, x3, x4, md_dle hle, md_big.1 hbig])
                exact hk
              · (try simp only [go_sem, hA, e11, e9, e10, hfi, hd0, w1, w2, md_dnle hc2, b_shr, b_and, hg0, hsh, han, hb1, b_quo, b_rem, ne_eq, hc0, not_false_eq_true, u1, u2, x1, x2, x3, x4, md_dle hle, md_big.2 hbig]); repeat' (first | (with_reducible first | refine c_split ?_ ?_ | refine w_split ?_ ?_) <;> intro hb <;> try simp only [go_sem, hb, hA, e11, e9, e10, hfi, hd0, w1, w2, md_dnle hc2, b_shr, b_and, hg0, hsh, han, hb1, b_quo, b_rem, ne_eq, hc0, not_false_eq_true, u1, u2, x1, x2, x3, x4, md_dle hle, md_big.2 hbig] | fail)
                refine GC.now (hJ (g, ((2 * q) + b / c + 1), ((2 * r) + b % c - c)) _ _ (by exact Nat.lt_succ_self g) (by simp only [go_sem, hA, e11, e9, e10]) ⟨?_, ?_, ?_, ?_, ?_⟩) <;> try simp only [go_sem, hA, e11, e9, e10, hdw, hfi]
                exact ⟨Nat.le_trans hg (by decide), (a3 hle).1, (a3 hle).2, by first | exact md_nb hbig | exact md_nb2 hbig⟩
            · skip
              by_cases hbig : 1000000000000000 < ((2 * q) + b / c)
              · rw [if_neg (md_fail hc.1 (a4 hle).1 hbig)] at hk
                (try simp only [go_sem, hA, e11, e9, e10, hfi, hd0, w1, w2, md_dnle hc2, b_shr, b_and, hg0, hsh, han, hb1, b_quo, b_rem, ne_eq, hc0, not_false_eq_true, u1, u2, x1, x2, md_dnle hle, md_big.1 hbig]); repeat' (first | (with_reducible first | refine c_split ?_ ?_ | refine w_split ?_ ?_) <;> intro hb <;> try simp only [go_sem, hb, hA, e11, e9, e10, hfi, hd0, w1, w2, md_dnle hc2, b_shr, b_and, hg0, hsh, han, hb1, b_quo, b_rem, ne_eq, hc0, not_false_eq_true, u1, u2, x1, x2, md_dnle hle, md_big.1 hbig] | with_reducible refine hQ _ _ ?_ <;> simp only [Tryz.f149, go_sem, hA, e11, e9, e10, hfi, hd0, w1, w2, md_dnle hc2, b_shr, b_and, hg0, hsh, han, hb1, b_quo, b_rem, ne_eq, hc0, not_false_eq_true, u1, u2, x1, x2, md_dnle hle, md_big.1 hbig])
                exact hk
              · (try simp only [go_sem, hA, e11, e9, e10, hfi, hd0, w1, w2, md_dnle hc2, b_shr, b_and, hg0, hsh, han, hb1, b_quo, b_rem, ne_eq, hc0, not_false_eq_true, u1, u2, x1, x2, md_dnle hle, md_big.2 hbig]); repeat' (first | (with_reducible first | refine c_split ?_ ?_ | refine w_split ?_ ?_) <;> intro hb <;> try simp only [go_sem, hb, hA, e11, e9, e10, hfi, hd0, w1, w2, md_dnle hc2, b_shr, b_and, hg0, hsh, han, hb1, b_quo, b_rem, ne_eq, hc0, not_false_eq_true, u1, u2, x1, x2, md_dnle hle, md_big.2 hbig] | fail)
                refine GC.now (hJ (g, ((2 * q) + b / c), ((2 * r) + b % c)) _ _ (by exact Nat.lt_succ_self g) (by simp only [go_sem, hA, e11, e9, e10]) ⟨?_, ?_, ?_, ?_, ?_⟩) <;> try simp only [go_sem, hA, e11, e9, e10, hdw, hfi]
                exact ⟨Nat.le_trans hg (by decide), (a4 hle).1, (a4 hle).2, by first | exact md_nb hbig | exact md_nb2 hbig⟩
          · have hb1 : (((a / 2 ^ g % 2 : Nat) : Int) == 1) = false := beq_eq_false_iff_ne.2 (fun q => hbit (Int.ofNat_inj.1 q))
            by_cases hbig : 1000000000000000 < (2 * q)
            · rw [if_neg (md_fail hc.1 (a1 hbit) hbig)] at hk
              (try simp only [go_sem, hA, e11, e9, e10, hfi, hd0, w1, w2, md_dnle hc2, b_shr, b_and, hg0, hsh, han, hb1, md_big.1 hbig]); repeat' (first | (with_reducible first | refine c_split ?_ ?_ | refine w_split ?_ ?_) <;> intro hb <;> try simp only [go_sem, hb, hA, e11, e9, e10, hfi, hd0, w1, w2, md_dnle hc2, b_shr, b_and, hg0, hsh, han, hb1, md_big.1 hbig] | with_reducible refine hQ _ _ ?_ <;> simp only [Tryz.f149, go_sem, hA, e11, e9, e10, hfi, hd0, w1, w2, md_dnle hc2, b_shr, b_and, hg0, hsh, han, hb1, md_big.1 hbig])
              exact hk
            · (try simp only [go_sem, hA, e11, e9, e10, hfi, hd0, w1, w2, md_dnle hc2, b_shr, b_and, hg0, hsh, han, hb1, md_big.2 hbig]); repeat' (first | (with_reducible first | refine c_split ?_ ?_ | refine w_split ?_ ?_) <;> intro hb <;> try simp only [go_sem, hb, hA, e11, e9, e10, hfi, hd0, w1, w2, md_dnle hc2, b_shr, b_and, hg0, hsh, han, hb1, md_big.2 hbig] | fail)
              refine GC.now (hJ (g, (2 * q), (2 * r)) _ _ (by exact Nat.lt_succ_self g) (by simp only [go_sem, hA, e11, e9, e10]) ⟨?_, ?_, ?_, ?_, ?_⟩) <;> try simp only [go_sem, hA, e11, e9, e10, hdw, hfi]
              exact ⟨Nat.le_trans hg (by decide), (a1 hbit), e2, by first | exact md_nb hbig | exact md_nb2 hbig⟩
end Go.Proofs.YtkndmncgohmjmaaGreat
end
section
namespace Go.Proofs.YtkndmncgohmjmaaGreat
open Go.BL Go.RowKit
set_option linter.unusedVariables false
set_option linter.unusedSimpArgs false
set_option maxRecDepth 100000
attribute [local go_sem] accountC balC lotC tradeC booksC
theorem c_IndexFuncTrade (fs : List Trade) (g : Nat) (caps : List Nat) (p : Trade → Bool) (h0 : AH) (K : AV → AH → Prop) (hn : fs.length ≤ 1000000000)
    (hp : ∀ i (hi : i < fs.length) (K' : AV → AH → Prop), K' (.one (.c (.bool (p fs[i])))) h0 → callA Tryz.prog g ([.agg (tradeC fs[i])] ++ caps.map fun l => .one (.pt l 0 0 0)) h0 K')
    (hk : K (.one (.c (.int .i64 (findG p fs)))) h0) : ACalls Tryz.prog 320 [(.one (.im (fs.map tradeC))), .one (.clo g caps)] h0 K := by
  refine acall_m Tryz.f320.results.toList mixed Tryz.func320 rfl rfl (by kernel_rfl) ?_
  intro hwf Q hQ
  simp only [go_sem, ca_clos]
  refine for_at (fs.length) [0, 1, 7] (fun i f h => f 8 = (.one (.c (.int .i64 (i)))) ∧ f 7 = (.one (.c (.int .i64 (fs.length)))) ∧ h = h0 ∧ noneTo p fs i) (GC.now ?_) ?_
  · simp only [go_sem, nc_0, true_and, ca_clos]
    exact noneTo_0 p fs
  · rintro i f h J hi hA ⟨e8, e7, rfl, hP⟩ hJ
    simp only [go_sem, ca_clos] at hA
    simp only [go_sem, hA, e8, e7, ca_clos]
    refine c_split (fun hb => ?_) (fun hb => ?_)
    rotate_left
    · simp only [go_sem, hb, hA, e8, e7, ca_clos]
      obtain rfl := ge_len hb hi
      refine hQ (h) _ _ ?_; refine GC.now (ret_m (by simp only [go_sem, Tryz.f320, hA, e8, e7, ca_clos]; exact _root_.id rfl) (by simp only [go_sem]) (by simp) (by first | exact hwf | exact wf_set hwf (by simp only [go_sem, hA, e8, e7, ca_clos]) | exact wf_set2 hwf (by simp only [go_sem, hA, e8, e7, ca_clos]) (by simp only [go_sem, hA, e8, e7, ca_clos]) | (simp only [go_sem]; done)) (by first | exact ⟨_, _root_.id rfl⟩ | exact ⟨[], (List.append_nil _).symm⟩) ?_) <;> simp only [go_sem, hA, e8, e7, ca_clos]
      rw [findG_no hP] at hk
      exact hk
    have hi := lt_len hb
    have hw := wrap_nat i (by omega)
    have hil : (i : Int) < ((fs.length : Nat) : Int) := Int.ofNat_lt.2 hi
    have hg0 : (fs)[i]? = some ((fs)[i]) := List.getElem?_eq_getElem (by omega)
    simp only [go_sem, hb, hA, e8, e7, ca_clos, hg0]
    try simp only [go_sem, hA, e8, e7, ca_clos, hil, hg0]
    refine hp i hi _ ?_
    simp only [go_sem, hA, e8, e7, ca_clos, hil, hg0]
    (try simp only [go_sem, hA, e8, e7, ca_clos, hil, hg0]); repeat' (first | (with_reducible first | refine c_split ?_ ?_ | refine w_split ?_ ?_) <;> intro hb <;> try simp only [go_sem, hb, hA, e8, e7, ca_clos, hil, hg0] | fail)
    · refine hQ (h) _ _ ?_; refine GC.now (ret_m (by simp only [go_sem, Tryz.f320, hA, e8, e7, ca_clos, hil, hg0]; exact _root_.id rfl) (by simp only [go_sem]) (by simp) (by first | exact hwf | exact wf_set hwf (by simp only [go_sem, hA, e8, e7, ca_clos, hil, hg0]) | exact wf_set2 hwf (by simp only [go_sem, hA, e8, e7, ca_clos, hil, hg0]) (by simp only [go_sem, hA, e8, e7, ca_clos, hil, hg0]) | (simp only [go_sem]; done)) (by first | exact ⟨_, _root_.id rfl⟩ | exact ⟨[], (List.append_nil _).symm⟩) ?_) <;> simp only [go_sem, hA, e8, e7, ca_clos, hil, hg0]
      rw [findG_of hP hi hb] at hk
      exact hk
    · refine GC.now (hJ _ _ hi (by simp only [go_sem, hA, e8, e7, ca_clos]) ⟨?_, ?_, ?_, ?_⟩) <;> try simp only [go_sem, hA, e8, e7, ca_clos, hw]
      exact noneTo_s hP hi hb
theorem c_tradesRight1 (t : Trade) (b : Books) (hs : Small b) (h0 : AH) (c : Nat) (hc : h0[c]? = some (.own 0 33 6 (some 1) [booksC b])) (K : AV → AH → Prop) (hk : K (.one (.c (.bool (!trdP b t)))) h0) : ACalls Tryz.prog 259 [.agg (tradeC t), .one (.pt c 0 0 0)] h0 K := by
  refine acall_m Tryz.f259.results.toList mixed Tryz.func259 rfl rfl (by kernel_rfl) ?_
  intro hwf Q hQ
  simp only [go_sem, fun a => h_old a hc]
  (try simp only [go_sem, fun a => h_old a hc]); repeat' (first | (with_reducible first | refine c_split ?_ ?_ | refine w_split ?_ ?_) <;> intro hb <;> try simp only [go_sem, hb, fun a => h_old a hc] | (first | refine call_c (c_accountKind _ _ hs.ha _ ?_) | refine call_c (c_instrKind _ _ hs.hi _ ?_) | fail) <;> try simp only [go_sem, fun a => h_old a hc] | fail)
  · refine hQ (h0) _ _ ?_; refine GC.now (ret_m (by simp only [go_sem, Tryz.f259]; exact _root_.id rfl) (by simp only [go_sem]) (by simp) (by first | exact hwf | exact wf_set hwf (by simp only [go_sem]) | exact wf_set2 hwf (by simp only [go_sem]) (by simp only [go_sem]) | (simp only [go_sem]; done)) (by first | exact ⟨_, _root_.id rfl⟩ | exact ⟨[], (List.append_nil _).symm⟩) ?_) <;> simp only [go_sem]
    exact kB hk (by simp only [trdP]; simp_all)
  · refine hQ (h0) _ _ ?_; refine GC.now (ret_m (by simp only [go_sem, Tryz.f259]; exact _root_.id rfl) (by simp only [go_sem]) (by simp) (by first | exact hwf | exact wf_set hwf (by simp only [go_sem]) | exact wf_set2 hwf (by simp only [go_sem]) (by simp only [go_sem]) | (simp only [go_sem]; done)) (by first | exact ⟨_, _root_.id rfl⟩ | exact ⟨[], (List.append_nil _).symm⟩) ?_) <;> simp only [go_sem]
    exact kB hk (by simp only [trdP]; simp_all)
  · refine hQ (h0) _ _ ?_; refine GC.now (ret_m (by simp only [go_sem, Tryz.f259]; exact _root_.id rfl) (by simp only [go_sem]) (by simp) (by first | exact hwf | exact wf_set hwf (by simp only [go_sem]) | exact wf_set2 hwf (by simp only [go_sem]) (by simp only [go_sem]) | (simp only [go_sem]; done)) (by first | exact ⟨_, _root_.id rfl⟩ | exact ⟨[], (List.append_nil _).symm⟩) ?_) <;> simp only [go_sem]
    exact kB hk (by simp only [trdP]; simp_all)
  · refine hQ (h0) _ _ ?_; refine GC.now (ret_m (by simp only [go_sem, Tryz.f259]; exact _root_.id rfl) (by simp only [go_sem]) (by simp) (by first | exact hwf | exact wf_set hwf (by simp only [go_sem]) | exact wf_set2 hwf (by simp only [go_sem]) (by simp only [go_sem]) | (simp only [go_sem]; done)) (by first | exact ⟨_, _root_.id rfl⟩ | exact ⟨[], (List.append_nil _).symm⟩) ?_) <;> simp only [go_sem]
    exact kB hk (by simp only [trdP]; simp_all)
theorem c_ContainsTrade (xs : List Trade) (g : Nat) (c : Nat) (p : Trade → Bool) (h0 : AH) (K : AV → AH → Prop) (hn : xs.length ≤ 1000000000)
    (hp : ∀ i (hi : i < xs.length) (K' : AV → AH → Prop), K' (.one (.c (.bool (p xs[i])))) h0 → callA Tryz.prog g ([.agg (tradeC xs[i])] ++ [c].map fun l => .one (.pt l 0 0 0)) h0 K')
    (hk : K (.one (.c (.bool (decide (0 ≤ findG p xs))))) h0) : ACalls Tryz.prog 258 [(.one (.im (xs.map tradeC))), .one (.clo g [c])] h0 K := by
  refine acall_m Tryz.f258.results.toList mixed Tryz.func258 rfl rfl (by kernel_rfl) ?_
  intro hwf Q hQ
  simp only [go_sem, ca_clos]
  refine .inr (.inl ⟨rfl, c_IndexFuncTrade xs g [c] p _ _ hn hp ?_⟩)
  simp only [go_sem]
  (try simp only [go_sem]); repeat' (first | (with_reducible first | refine c_split ?_ ?_ | refine w_split ?_ ?_) <;> intro hb <;> try simp only [go_sem, hb] | fail)
  refine hQ (h0) _ _ ?_; refine GC.now (ret_m (by simp only [go_sem, Tryz.f258]; exact _root_.id rfl) (by simp only [go_sem]) (by simp) (by first | exact hwf | exact wf_set hwf (by simp only [go_sem]) | exact wf_set2 hwf (by simp only [go_sem]) (by simp only [go_sem]) | (simp only [go_sem]; done)) (by first | exact ⟨_, _root_.id rfl⟩ | exact ⟨[], (List.append_nil _).symm⟩) ?_) <;> simp only [go_sem]
  exact hk
theorem findG_all {α : Type} (p : α → Bool) (xs : List α) : (!decide (0 ≤ findG (fun x => !p x) xs)) = xs.all p := by
  cases h : xs.all p with
  | true =>
    have : findG (fun x => !p x) xs = -1 := findG_none fun j hj => by rw [(List.all_eq_true.1 h) _ (List.getElem_mem hj)]; rfl
    rw [this]; rfl
  | false =>
    obtain ⟨x, hx, hp⟩ : ∃ x ∈ xs, p x = false := by
      rcases Classical.em (∃ x ∈ xs, p x = false) with q | q
      · exact q
      · exfalso
        have : xs.all p = true := List.all_eq_true.2 fun x hx => by
          cases hp : p x with
          | true => rfl
          | false => exact absurd ⟨x, hx, hp⟩ q
        rw [this] at h; cases h
    rw [decide_eq_true (findG_hit hx (show (!p x) = true by rw [hp]; rfl))]; rfl
theorem c_tradesRight (b : Books) (hs : Small b) (K : AV → AH → Prop) (hk : K (.one (.c (.bool (b.trades.all (trdP b))))) []) : ACalls Tryz.prog 170 [.agg (booksC b)] [] K := by
  have hst := hs.ht
  refine acall_c Tryz.f170.results.toList mixed Tryz.func170 rfl rfl (by kernel_rfl) ?_
  intro Q hQ hQO
  simp only [go_sem]
  refine call_h (c_ContainsTrade b.trades _ 0 (fun t => !trdP b t) _ _ hst (fun i hi K' hk' => .inr (.inl ⟨rfl, c_tradesRight1 b.trades[i] b hs _ 0 rfl _ hk'⟩)) ?_)
  simp only [go_sem]
  (try simp only [go_sem]); repeat' (first | (with_reducible first | refine c_split ?_ ?_ | refine w_split ?_ ?_) <;> intro hb <;> try simp only [go_sem, hb] | with_reducible refine hQ _ _ ?_ <;> simp only [Tryz.f170, go_sem])
  rw [← findG_all] at hk
  exact hk
theorem lots_fine {xs : List Lot} (h : lotsOk xs = true) : Fine xs := by
  rw [lotsOk, Bool.and_eq_true] at h; exact okL_fine h.1
theorem c_impl_BooksOk (b : Books) (hs : Small b) (K : AV → AH → Prop) (hk : K (.one (.c (.bool (booksOk b)))) []) : ACalls Tryz.prog 81 [.agg (booksC b)] [] K := by
  cases hl : listsOk b with
  | true =>
    rw [booksOk, hl, Bool.true_and] at hk
    simp only [listsOk, Bool.and_eq_true] at hl
    obtain ⟨⟨⟨⟨⟨f1, f2⟩, f3⟩, f4⟩, f5⟩, f6⟩ := hl
    refine acall_c Tryz.f81.results.toList mixed Tryz.func81 rfl rfl (by kernel_rfl) ?_
    intro Q hQ hQO
    simp only [go_sem]
    (try simp only [go_sem, f1, f2, f3, f4, f5, f6]); repeat' (first | (with_reducible first | refine c_split ?_ ?_ | refine w_split ?_ ?_) <;> intro hb <;> try simp only [go_sem, hb, f1, f2, f3, f4, f5, f6] | (first | refine call_c (c_impl_AccountsOk _ hs.ha _ ?_) | refine call_c (c_impl_InstrsOk _ hs.hi _ ?_) | refine call_c (c_impl_BalsOk _ hs.hb _ ?_) | refine call_c (c_impl_LotsOk _ hs.hl _ ?_) | refine call_c (c_impl_TradesOk _ hs.ht _ ?_) | refine call_c (c_in _ _ _ _ ?_) | refine call_c (c_balsRight b hs f3 _ ?_) | refine call_c (c_lotsRight b hs f3 (lots_fine f4) _ ?_) | refine call_c (c_tradesRight b hs _ ?_) | fail) <;> try simp only [go_sem, f1, f2, f3, f4, f5, f6] | with_reducible refine hQ _ _ ?_ <;> simp only [Tryz.f81, go_sem, f1, f2, f3, f4, f5, f6])
    all_goals (clear hQ hQO; generalize b.bals.all (brP b) = p1 at *; generalize lotsR b = p2 at *; generalize b.trades.all (trdP b) = p3 at *; exact kB hk (by simp_all))
  | false =>
    rw [booksOk, hl, Bool.false_and, Bool.false_and, Bool.false_and] at hk
    refine acall_c Tryz.f81.results.toList mixed Tryz.func81 rfl rfl (by kernel_rfl) ?_
    intro Q hQ hQO
    simp only [go_sem]
    (try simp only [go_sem]); repeat' (first | (with_reducible first | refine c_split ?_ ?_ | refine w_split ?_ ?_) <;> intro hb <;> try simp only [go_sem, hb] | (first | refine call_c (c_impl_AccountsOk _ hs.ha _ ?_) | refine call_c (c_impl_InstrsOk _ hs.hi _ ?_) | refine call_c (c_impl_BalsOk _ hs.hb _ ?_) | refine call_c (c_impl_LotsOk _ hs.hl _ ?_) | refine call_c (c_impl_TradesOk _ hs.ht _ ?_) | refine call_c (c_in _ _ _ _ ?_) | fail) <;> try simp only [go_sem] | with_reducible refine hQ _ _ ?_ <;> simp only [Tryz.f81, go_sem])
    all_goals first | exact hk | exact (Bool.eq_false_iff.1 hl (by clear hl hQ hQO; simp only [listsOk]; simp_all)).elim
theorem c_BooksOk_no (b : Books) (hs : Small b) (hl : listsOk b = false) (K : AV → AH → Prop) (hk : K (.one (.c (.bool (booksOk b)))) []) : ACalls Tryz.prog 74 [.agg (booksC b)] [] K := by
  rw [booksOk, hl, Bool.false_and, Bool.false_and, Bool.false_and] at hk
  refine acall_c Tryz.f74.results.toList mixed Tryz.func74 rfl rfl (by kernel_rfl) ?_
  intro Q hQ hQO
  simp only [go_sem]
  (try simp only [go_sem]); repeat' (first | (with_reducible first | refine c_split ?_ ?_ | refine w_split ?_ ?_) <;> intro hb <;> try simp only [go_sem, hb] | (first | refine call_c (c_spec_AccountsOk _ hs.ha _ ?_) | refine call_c (c_spec_InstrsOk _ hs.hi _ ?_) | refine call_c (c_spec_BalsOk _ hs.hb _ ?_) | refine call_c (c_spec_LotsOk _ hs.hl _ ?_) | refine call_c (c_spec_TradesOk _ hs.ht _ ?_) | refine call_c (c_l1In _ _ _ _ ?_) | fail) <;> try simp only [go_sem] | with_reducible refine hQ _ _ ?_ <;> simp only [Tryz.f74, go_sem])
  all_goals first | exact hk | exact (Bool.eq_false_iff.1 hl (by clear hl hQ hQO; simp only [listsOk]; simp_all)).elim
theorem c_BooksOk (b : Books) (hs : Small b) (K : AV → AH → Prop) (hk : K (.one (.c (.bool (booksOk b)))) []) : ACalls Tryz.prog 74 [.agg (booksC b)] [] K := by
  have hst := hs.ht
  cases hl : listsOk b with
  | true =>
    rw [booksOk, hl, Bool.true_and] at hk
    simp only [listsOk, Bool.and_eq_true] at hl
    obtain ⟨⟨⟨⟨⟨f1, f2⟩, f3⟩, f4⟩, f5⟩, f6⟩ := hl
    refine acall_c Tryz.f74.results.toList mixed Tryz.func74 rfl rfl (by kernel_rfl) ?_
    intro Q hQ hQO
    simp only [go_sem]
    cases g1 : b.bals.all (brP b) with
    | false =>
      rw [g1, Bool.false_and, Bool.false_and] at hk
      (try simp only [go_sem, f1, f2, f3, f4, f5, f6, g1]); repeat' (first | (with_reducible first | refine c_split ?_ ?_ | refine w_split ?_ ?_) <;> intro hb <;> try simp only [go_sem, hb, f1, f2, f3, f4, f5, f6, g1] | (first | refine call_c (c_spec_AccountsOk _ hs.ha _ ?_) | refine call_c (c_spec_InstrsOk _ hs.hi _ ?_) | refine call_c (c_spec_BalsOk _ hs.hb _ ?_) | refine call_c (c_spec_LotsOk _ hs.hl _ ?_) | refine call_c (c_spec_TradesOk _ hs.ht _ ?_) | refine call_c (c_l1In _ _ _ _ ?_) | refine call_c (c_l6Bals b hs f1 f2 f3 _ ?_) | fail) <;> try simp only [go_sem, f1, f2, f3, f4, f5, f6, g1] | with_reducible refine hQ _ _ ?_ <;> simp only [Tryz.f74, go_sem, f1, f2, f3, f4, f5, f6, g1])
      exact hk
    | true =>
      cases g2 : lotsR b with
      | false =>
        rw [g1, g2, Bool.true_and, Bool.false_and] at hk
        (try simp only [go_sem, f1, f2, f3, f4, f5, f6, g1, g2]); repeat' (first | (with_reducible first | refine c_split ?_ ?_ | refine w_split ?_ ?_) <;> intro hb <;> try simp only [go_sem, hb, f1, f2, f3, f4, f5, f6, g1, g2] | (first | refine call_c (c_spec_AccountsOk _ hs.ha _ ?_) | refine call_c (c_spec_InstrsOk _ hs.hi _ ?_) | refine call_c (c_spec_BalsOk _ hs.hb _ ?_) | refine call_c (c_spec_LotsOk _ hs.hl _ ?_) | refine call_c (c_spec_TradesOk _ hs.ht _ ?_) | refine call_c (c_l1In _ _ _ _ ?_) | refine call_c (c_l6Bals b hs f1 f2 f3 _ ?_) | refine call_c (c_l6Lots b hs f1 f2 (lots_fine f4) _ ?_) | fail) <;> try simp only [go_sem, f1, f2, f3, f4, f5, f6, g1, g2] | with_reducible refine hQ _ _ ?_ <;> simp only [Tryz.f74, go_sem, f1, f2, f3, f4, f5, f6, g1, g2])
        exact hk
      | true =>
        rw [g1, g2, Bool.true_and, Bool.true_and] at hk
        (try simp only [go_sem, f1, f2, f3, f4, f5, f6, g1, g2]); repeat' (first | (with_reducible first | refine c_split ?_ ?_ | refine w_split ?_ ?_) <;> intro hb <;> try simp only [go_sem, hb, f1, f2, f3, f4, f5, f6, g1, g2] | (first | refine call_c (c_spec_AccountsOk _ hs.ha _ ?_) | refine call_c (c_spec_InstrsOk _ hs.hi _ ?_) | refine call_c (c_spec_BalsOk _ hs.hb _ ?_) | refine call_c (c_spec_LotsOk _ hs.hl _ ?_) | refine call_c (c_spec_TradesOk _ hs.ht _ ?_) | refine call_c (c_l1In _ _ _ _ ?_) | refine call_c (c_l6Bals b hs f1 f2 f3 _ ?_) | refine call_c (c_l6Lots b hs f1 f2 (lots_fine f4) _ ?_) | fail) <;> try simp only [go_sem, f1, f2, f3, f4, f5, f6, g1, g2] | fail)
        refine for_at (b.trades.length) [1] (fun i f h => f 3 = (.one (.c (.int .i64 (i)))) ∧ h = [.own 0 33 6 (some 1) [booksC b]] ∧ noneTo (fun t => !trdP b t) b.trades i) (GC.now ?_) ?_
        · simp only [go_sem, nc_0, true_and]
          exact noneTo_0 _ _
        · rintro i f h J hi hA ⟨e3, rfl, hP⟩ hJ
          simp only [go_sem] at hA
          simp only [go_sem, hA, e3]
          refine c_split (fun hb => ?_) (fun hb => ?_)
          rotate_left
          · simp only [go_sem, hb, hA, e3]
            obtain rfl := ge_len hb hi
            (try simp only [go_sem, hA, e3]); repeat' (first | (with_reducible first | refine c_split ?_ ?_ | refine w_split ?_ ?_) <;> intro hb <;> try simp only [go_sem, hb, hA, e3] | with_reducible refine hQ _ _ ?_ <;> simp only [Tryz.f74, go_sem, hA, e3])
            rw [all_no hP] at hk
            exact hk
          have hi := lt_len hb
          have hw := wrap_nat i (by omega)
          have hil : (i : Int) < ((b.trades.length : Nat) : Int) := Int.ofNat_lt.2 hi
          have hg0 : (b.trades)[i]? = some ((b.trades)[i]) := List.getElem?_eq_getElem (by omega)
          simp only [go_sem, hb, hA, e3, hg0]
          try simp only [go_sem, hA, e3, hil, hg0]
          cases hr : trdP b b.trades[i] with
          | true =>
            have htr := hr
            simp only [trdP, Bool.and_eq_true] at hr
            obtain ⟨⟨⟨t1, t2⟩, t3⟩, t4⟩ := hr
            (try simp only [go_sem, hA, e3, hil, hg0, t1, t2, t3, t4]); repeat' (first | (with_reducible first | refine c_split ?_ ?_ | refine w_split ?_ ?_) <;> intro hb <;> try simp only [go_sem, hb, hA, e3, hil, hg0, t1, t2, t3, t4] | (first | refine call_c (c_AccountKind _ _ hs.ha f1 _ ?_) | refine call_c (c_InstrKind _ _ hs.hi f2 _ ?_) | fail) <;> try simp only [go_sem, hA, e3, hil, hg0, t1, t2, t3, t4] | fail)
            refine gc_trim 1 (by decide) (by simp only [go_sem]) (by simp only [go_sem]) (hJ _ _ hi (by simp only [go_sem, hA, e3]) ⟨?_, ?_, ?_⟩) <;> try simp only [go_sem, hA, e3, hw]
            exact noneTo_s hP hi (not_ff htr)
          | false =>
            rw [all_bad hi hr] at hk
            cases q1 : (kindOf b.accounts b.trades[i].buyer == 1) with
            | false =>
              (try simp only [go_sem, hA, e3, hil, hg0, q1]); repeat' (first | (with_reducible first | refine c_split ?_ ?_ | refine w_split ?_ ?_) <;> intro hb <;> try simp only [go_sem, hb, hA, e3, hil, hg0, q1] | (first | refine call_c (c_AccountKind _ _ hs.ha f1 _ ?_) | refine call_c (c_InstrKind _ _ hs.hi f2 _ ?_) | fail) <;> try simp only [go_sem, hA, e3, hil, hg0, q1] | with_reducible refine hQ _ _ ?_ <;> simp only [Tryz.f74, go_sem, hA, e3, hil, hg0, q1])
              exact hk
            | true =>
              cases q2 : (kindOf b.accounts b.trades[i].seller == 1) with
              | false =>
                (try simp only [go_sem, hA, e3, hil, hg0, q1, q2]); repeat' (first | (with_reducible first | refine c_split ?_ ?_ | refine w_split ?_ ?_) <;> intro hb <;> try simp only [go_sem, hb, hA, e3, hil, hg0, q1, q2] | (first | refine call_c (c_AccountKind _ _ hs.ha f1 _ ?_) | refine call_c (c_InstrKind _ _ hs.hi f2 _ ?_) | fail) <;> try simp only [go_sem, hA, e3, hil, hg0, q1, q2] | with_reducible refine hQ _ _ ?_ <;> simp only [Tryz.f74, go_sem, hA, e3, hil, hg0, q1, q2])
                exact hk
              | true =>
                cases q3 : (kindOf b.instrs b.trades[i].paper == 2) with
                | false =>
                  (try simp only [go_sem, hA, e3, hil, hg0, q1, q2, q3]); repeat' (first | (with_reducible first | refine c_split ?_ ?_ | refine w_split ?_ ?_) <;> intro hb <;> try simp only [go_sem, hb, hA, e3, hil, hg0, q1, q2, q3] | (first | refine call_c (c_AccountKind _ _ hs.ha f1 _ ?_) | refine call_c (c_InstrKind _ _ hs.hi f2 _ ?_) | fail) <;> try simp only [go_sem, hA, e3, hil, hg0, q1, q2, q3] | with_reducible refine hQ _ _ ?_ <;> simp only [Tryz.f74, go_sem, hA, e3, hil, hg0, q1, q2, q3])
                  exact hk
                | true =>
                  cases q4 : (kindOf b.instrs b.trades[i].cash == 1) with
                  | false =>
                    (try simp only [go_sem, hA, e3, hil, hg0, q1, q2, q3, q4]); repeat' (first | (with_reducible first | refine c_split ?_ ?_ | refine w_split ?_ ?_) <;> intro hb <;> try simp only [go_sem, hb, hA, e3, hil, hg0, q1, q2, q3, q4] | (first | refine call_c (c_AccountKind _ _ hs.ha f1 _ ?_) | refine call_c (c_InstrKind _ _ hs.hi f2 _ ?_) | fail) <;> try simp only [go_sem, hA, e3, hil, hg0, q1, q2, q3, q4] | with_reducible refine hQ _ _ ?_ <;> simp only [Tryz.f74, go_sem, hA, e3, hil, hg0, q1, q2, q3, q4])
                    exact hk
                  | true =>
                    simp only [trdP, q1, q2, q3, q4, Bool.and_true] at hr
                    cases hr
  | false => exact c_BooksOk_no b hs hl K hk
end Go.Proofs.YtkndmncgohmjmaaGreat
end
section
namespace Go.Proofs.YtkndmncgohmjmaaGreat
open Go.BL Go.RowKit
set_option linter.unusedVariables false
set_option linter.unusedSimpArgs false
set_option maxRecDepth 100000
attribute [local go_sem] lotC
theorem lotsOk_len {xs : List Lot} (h : lotsOk xs = true) : xs.length ≤ 1000 := (lots_fine h).2
theorem c_l5Cost (xs : List Lot) (h : Fine xs) (K : AV → AH → Prop) (hk : K (.one (.c (.int .i64 (sumC xs)))) []) : ACalls Tryz.prog 242 [(.one (.im (xs.map lotC)))] [] K := by
  have hn : xs.length ≤ 1000000000 := by have := h.2; omega
  refine acall_c Tryz.f242.results.toList mixed Tryz.func242 rfl rfl (by kernel_rfl) ?_
  intro Q hQ hQO
  simp only [go_sem]
  refine for_at (xs.length) [0] (fun i f h => f 3 = (.one (.c (.int .i64 (sumC (xs.take i))))) ∧ f 4 = (.one (.c (.int .i64 (i)))) ∧ h = []) (GC.now ?_) ?_
  · simp only [go_sem, nc_0, true_and]
    rfl
  · rintro i f h J hi hA ⟨e3, e4, rfl⟩ hJ
    simp only [go_sem] at hA
    simp only [go_sem, hA, e3, e4]
    refine c_split (fun hb => ?_) (fun hb => ?_)
    rotate_left
    · simp only [go_sem, hb, hA, e3, e4]
      obtain rfl := ge_len hb hi
      (try simp only [go_sem, hA, e3, e4, List.take_length]); repeat' (first | (with_reducible first | refine c_split ?_ ?_ | refine w_split ?_ ?_) <;> intro hb <;> try simp only [go_sem, hb, hA, e3, e4, List.take_length] | with_reducible refine hQ _ _ ?_ <;> simp only [Tryz.f242, go_sem, hA, e3, e4, List.take_length])
      exact hk
    have hi := lt_len hb
    have hw := wrap_nat i (by omega)
    have hil : (i : Int) < ((xs.length : Nat) : Int) := Int.ofNat_lt.2 hi
    have hg0 : (xs)[i]? = some ((xs)[i]) := List.getElem?_eq_getElem (by omega)
    simp only [go_sem, hb, hA, e3, e4, hg0]
    try simp only [go_sem, hA, e3, e4, hil, hg0]
    obtain ⟨s1, s2⟩ := sumQ_s xs i hi
    obtain ⟨w1, w2⟩ := sums_w h hi
    (try simp only [go_sem, hA, e3, e4, hil, hg0, w1, w2]); repeat' (first | (with_reducible first | refine c_split ?_ ?_ | refine w_split ?_ ?_) <;> intro hb <;> try simp only [go_sem, hb, hA, e3, e4, hil, hg0, w1, w2] | fail)
    refine gc_trim 0 (by decide) (by simp only [go_sem]) (by simp only [go_sem]) (hJ _ _ hi (by simp only [go_sem, hA, e3, e4]) ⟨?_, ?_, ?_⟩) <;> try simp only [go_sem, hA, e3, e4, hw, s2]
def mdQ (a b c : Int) : Int := match mulDivR a b c with | some (q, _) => q | none => 0
theorem mdV_q (a b c : Int) : ∃ r ok, mdV (mulDivR a b c) = .tup [(.one (.c (.int .i64 (mdQ a b c)))), (.one (.c (.int .i64 (r)))), (.one (.c (.bool (ok))))] := by
  unfold mdQ
  cases mulDivR a b c with
  | none => exact ⟨0, false, rfl⟩
  | some p => exact ⟨p.2, true, rfl⟩
theorem mdQ_le {a b c : Int} (h1 : 0 ≤ a) (h2 : 0 ≤ b) (hbc : b ≤ c) (hc : 1 ≤ c) : 0 ≤ mdQ a b c ∧ mdQ a b c ≤ a := by
  unfold mdQ mulDivR
  split
  · rename_i q r he
    split at he
    · cases he
      refine ⟨Int.ediv_nonneg (Int.mul_nonneg h1 h2) (by omega), ?_⟩
      refine Int.ediv_le_of_le_mul (by omega) (Int.mul_le_mul_of_nonneg_left hbc h1)
    · cases he
  · omega
def meanL (own : List Lot) (qty : Int) : List Lot := if sumQ own = qty then [] else match own[0]? with | some l => [⟨l.account, l.instr, l.no, sumQ own - qty, sumC own - mdQ (sumC own) qty (sumQ own)⟩] | none => []
theorem c_l5Mean (own : List Lot) (qty : Int) (hf : Fine own) (hq1 : 1 ≤ qty) (hq2 : qty ≤ sumQ own) (h : 0 < own.length) (K : AV → AH → Prop) (hk : K (.tup [(.one (.im ((meanL own qty).map lotC))), (.one (.c (.int .i64 (mdQ (sumC own) qty (sumQ own)))))]) []) : ACalls Tryz.prog 147 [(.one (.im (own.map lotC))), (.one (.c (.int .i64 (qty))))] [] K := by
  obtain ⟨r, ok, hmd⟩ := mdV_q (sumC own) qty (sumQ own)
  have hs := sums_le own hf.1
  have hn := hf.2
  have hm := mdQ_le (c := sumQ own) hs.2.1 (by omega : 0 ≤ qty) hq2 (by omega)
  have hw1 := wrap_id (sumQ own - qty) (by omega) (by omega)
  have hw2 := wrap_id (sumC own - mdQ (sumC own) qty (sumQ own)) (by omega) (by omega)
  have ga : own[Int.toNat 0]? = some own[0] := List.getElem?_eq_getElem h
  have hli : (0 : Int) < (own.length : Int) := by omega
  refine acall_c Tryz.f147.results.toList mixed Tryz.func147 rfl rfl (by kernel_rfl) ?_
  intro Q hQ hQO
  simp only [go_sem]
  by_cases he : sumQ own = qty
  · have heb : (sumQ own == qty) = true := by rw [he]; exact BEq.rfl
    rw [meanL, if_pos he] at hk
    (try simp only [go_sem, heb, hmd]); repeat' (first | (with_reducible first | refine c_split ?_ ?_ | refine w_split ?_ ?_) <;> intro hb <;> try simp only [go_sem, hb, heb, hmd] | (first | refine call_c (c_l5Qty own hf _ ?_) | refine call_c (c_l5Cost own hf _ ?_) | refine call_c (c_spec_MulDiv (sumC own) qty (sumQ own) _ ?_) | fail) <;> try simp only [go_sem, heb, hmd] | with_reducible refine hQ _ _ ?_ <;> simp only [Tryz.f147, go_sem, heb, hmd])
    exact hk
  · have heb : (sumQ own == qty) = false := beq_eq_false_iff_ne.2 he
    rw [meanL, if_neg he, List.getElem?_eq_getElem h] at hk
    (try simp only [go_sem, heb, hmd, hw1, hw2, ga, hli, Int.le_refl, true_and]); repeat' (first | (with_reducible first | refine c_split ?_ ?_ | refine w_split ?_ ?_) <;> intro hb <;> try simp only [go_sem, hb, heb, hmd, hw1, hw2, ga, hli, Int.le_refl, true_and] | (first | refine call_c (c_l5Qty own hf _ ?_) | refine call_c (c_l5Cost own hf _ ?_) | refine call_c (c_spec_MulDiv (sumC own) qty (sumQ own) _ ?_) | fail) <;> try simp only [go_sem, heb, hmd, hw1, hw2, ga, hli, Int.le_refl, true_and] | with_reducible refine hQ _ _ ?_ <;> simp only [Tryz.f147, go_sem, heb, hmd, hw1, hw2, ga, hli, Int.le_refl, true_and])
    exact hk
end Go.Proofs.YtkndmncgohmjmaaGreat
end
section
namespace Go.Proofs.YtkndmncgohmjmaaGreat
open Go.BL Go.RowKit
set_option linter.unusedVariables false
set_option linter.unusedSimpArgs false
set_option maxRecDepth 100000
theorem c_l1Min (a b : Int) (K : AV → AH → Prop) (hk : K (.one (.c (.int .i64 (min a b)))) []) : ACalls Tryz.prog 56 [(.one (.c (.int .i64 (a)))), (.one (.c (.int .i64 (b))))] [] K := by
  refine acall_c Tryz.f56.results.toList mixed Tryz.func56 rfl rfl (by kernel_rfl) ?_
  intro Q hQ hQO
  simp only [go_sem]
  (try simp only [go_sem]); repeat' (first | (with_reducible first | refine c_split ?_ ?_ | refine w_split ?_ ?_) <;> intro hb <;> try simp only [go_sem, hb] | with_reducible refine hQ _ _ ?_ <;> simp only [Tryz.f56, go_sem])
  · have h := of_decide_eq_true hb
    rw [show min a b = a by omega] at hk; exact hk
  · have h := of_decide_eq_false hb
    rw [show min a b = b by omega] at hk; exact hk
end Go.Proofs.YtkndmncgohmjmaaGreat
end
section
namespace Go.Proofs.YtkndmncgohmjmaaGreat
open Go.BL Go.RowKit
set_option linter.unusedVariables false
set_option linter.unusedSimpArgs false
set_option maxRecDepth 100000
theorem d73_0_LTake : DrawL Tryz.prog 0 117 (.on [(1, true, true), (2, true, true), (3, true, true), (5, true, true), (6, true, true), (7, true, true), (8, true, true), (0, false, true), (4, false, true), (9, false, true), (10, false, true)] .nil) := draw_L
attribute [local go_sem] lotC
theorem o_l5Split (xs : List Lot) (a n : Int) (hn : xs.length ≤ 1000000000) (K : AV → AH → Prop) (hk : ∀ c1 c2, K (.tup [.one (.sl 0 0 0 (ownL xs a n).length), .one (.sl 1 0 0 (restL xs a n).length)]) [.own 0 112 5 c1 ((ownL xs a n).map lotC), .own 0 112 5 c2 ((restL xs a n).map lotC)]) : ACalls Tryz.prog 145 [(.one (.im (xs.map lotC))), (.one (.c (.int .i64 (a)))), (.one (.c (.int .i64 (n))))] [] K := by
  refine acall_c Tryz.f145.results.toList mixed Tryz.func145 rfl rfl (by kernel_rfl) ?_
  intro Q hQ hQO
  simp only [go_sem]
  (try simp only [go_sem]); repeat' (first | (with_reducible first | refine c_split ?_ ?_ | refine w_split ?_ ?_) <;> intro hb <;> try simp only [go_sem, hb] | fail)
  refine while_at (α := Nat × Nat × Option Nat × Nat × Option Nat) (fun ⟨j, g1, c1, g2, c2⟩ => xs.length - j) [0, 1, 2] (fun ⟨j, g1, c1, g2, c2⟩ f h => f 8 = .one (.sl 0 g1 0 (ownL (xs.take j) a n).length) ∧ f 9 = .one (.sl 1 g2 0 (restL (xs.take j) a n).length) ∧ f 10 = (.one (.c (.int .i64 ((j : Int))))) ∧ h = [.own g1 112 5 c1 ((ownL (xs.take j) a n).map lotC), .own g2 112 5 c2 ((restL (xs.take j) a n).map lotC)] ∧ j ≤ xs.length) (0, 0, some 0, 0, some 0) (GC.now ?_) ?_
  · simp only [go_sem, nc_0, true_and]
    exact ⟨rfl, rfl, rfl, Nat.zero_le _⟩
  · rintro ⟨j, g1, c1, g2, c2⟩ f h J hA ⟨e8, e9, e10, rfl, hP⟩ hJ
    simp only [go_sem] at hA
    try dsimp only at hJ
    simp only [go_sem, hA, e8, e9, e10]
    by_cases hi : j < xs.length
    · have hd : decide ((j : Int) < (xs.length : Int)) = true := decide_eq_true (Int.ofNat_lt.2 hi)
      have hil : (j : Int) < (xs.length : Int) := Int.ofNat_lt.2 hi
      have hg : xs[j]? = some xs[j] := List.getElem?_eq_getElem hi
      have hw := wrap_nat j (by omega)
      have hdec : xs.length - (j + 1) < xs.length - j := by omega
      have ho := own_s xs j hi a n
      have hr := rest_s xs j hi a n
      have hol : (ownL (xs.take j) a n).length ≤ j := Nat.le_trans (List.length_filter_le _ _) (by rw [List.length_take]; omega)
      have hrl : (restL (xs.take j) a n).length ≤ j := Nat.le_trans (List.length_filter_le _ _) (by rw [List.length_take]; omega)
      cases k1 : (xs[j].account == a) with
      | true =>
        cases k2 : (xs[j].instr == n) with
        | true =>
          have k : lotIs a n xs[j] = true := by rw [lotIs, k1, k2]; rfl
          rw [if_pos k] at ho
          rw [if_pos k, List.append_nil] at hr
          (try simp only [go_sem, hA, e8, e9, e10, hd, hil, hg, k1, k2]); repeat' (first | (with_reducible first | refine c_split ?_ ?_ | refine w_split ?_ ?_) <;> intro hb <;> try simp only [go_sem, hb, hA, e8, e9, e10, hd, hil, hg, k1, k2] | fail)
          refine ap_end rfl (by simp) (by simp; omega) ?_
          (try simp only [go_sem, hA, e8, e9, e10]); repeat' (first | (with_reducible first | refine c_split ?_ ?_ | refine w_split ?_ ?_) <;> intro hb <;> try simp only [go_sem, hb, hA, e8, e9, e10] | fail)
          refine gc_trim 2 (by decide) (by simp only [go_sem]) (by simp only [go_sem, hw, ho, hr]) (hJ (j + 1, g1 + 1, none, g2, c2) _ _ (by exact hdec) (by simp only [go_sem, hA, e8, e9, e10]) ⟨?_, ?_, ?_, ?_, ?_⟩) <;> try simp only [go_sem, hA, e8, e9, e10, hw, ho, hr]
          exact hi
        | false =>
          have k : ¬ lotIs a n xs[j] = true := by rw [lotIs, k1, k2]; decide
          rw [if_neg k, List.append_nil] at ho
          rw [if_neg k] at hr
          (try simp only [go_sem, hA, e8, e9, e10, hd, hil, hg, k1, k2]); repeat' (first | (with_reducible first | refine c_split ?_ ?_ | refine w_split ?_ ?_) <;> intro hb <;> try simp only [go_sem, hb, hA, e8, e9, e10, hd, hil, hg, k1, k2] | fail)
          refine ap_end rfl (by simp) (by simp; omega) ?_
          (try simp only [go_sem, hA, e8, e9, e10]); repeat' (first | (with_reducible first | refine c_split ?_ ?_ | refine w_split ?_ ?_) <;> intro hb <;> try simp only [go_sem, hb, hA, e8, e9, e10] | fail)
          refine gc_trim 2 (by decide) (by simp only [go_sem]) (by simp only [go_sem, hw, ho, hr]) (hJ (j + 1, g1, c1, g2 + 1, none) _ _ (by exact hdec) (by simp only [go_sem, hA, e8, e9, e10]) ⟨?_, ?_, ?_, ?_, ?_⟩) <;> try simp only [go_sem, hA, e8, e9, e10, hw, ho, hr]
          exact hi
      | false =>
        have k : ¬ lotIs a n xs[j] = true := by rw [lotIs, k1]; simp
        rw [if_neg k, List.append_nil] at ho
        rw [if_neg k] at hr
        (try simp only [go_sem, hA, e8, e9, e10, hd, hil, hg, k1]); repeat' (first | (with_reducible first | refine c_split ?_ ?_ | refine w_split ?_ ?_) <;> intro hb <;> try simp only [go_sem, hb, hA, e8, e9, e10, hd, hil, hg, k1] | fail)
        refine ap_end rfl (by simp) (by simp; omega) ?_
        (try simp only [go_sem, hA, e8, e9, e10]); repeat' (first | (with_reducible first | refine c_split ?_ ?_ | refine w_split ?_ ?_) <;> intro hb <;> try simp only [go_sem, hb, hA, e8, e9, e10] | fail)
        refine gc_trim 2 (by decide) (by simp only [go_sem]) (by simp only [go_sem, hw, ho, hr]) (hJ (j + 1, g1, c1, g2 + 1, none) _ _ (by exact hdec) (by simp only [go_sem, hA, e8, e9, e10]) ⟨?_, ?_, ?_, ?_, ?_⟩) <;> try simp only [go_sem, hA, e8, e9, e10, hw, ho, hr]
        exact hi
    · have hd : decide ((j : Int) < (xs.length : Int)) = false := decide_eq_false (fun q => hi (Int.ofNat_lt.1 q))
      have hj : j = xs.length := by omega
      subst hj
      have h1 : List.take (ownL xs a n).length ((ownL xs a n).map lotC) = (ownL xs a n).map lotC := List.take_of_length_le (by simp)
      have h2 : List.take (restL xs a n).length ((restL xs a n).map lotC) = (restL xs a n).map lotC := List.take_of_length_le (by simp)
      (try simp only [go_sem, hA, e8, e9, e10, hd, List.take_length, h1, h2]); repeat' (first | (with_reducible first | refine c_split ?_ ?_ | refine w_split ?_ ?_) <;> intro hb <;> try simp only [go_sem, hb, hA, e8, e9, e10, hd, List.take_length, h1, h2] | fail)
      refine hQO [0, 1] _ _ (GC.now ?_) <;> simp only [Tryz.f145, go_sem, List.nodup_cons, List.nodup_nil, List.mem_cons, List.not_mem_nil, or_false, not_false_eq_true, List.idxOf?_cons, List.idxOf?_nil, Option.map_none, List.take_length, h1, h2]
      exact hk _ _
theorem tk_room {a b z : Nat} (h1 : a ≤ 1000) (h2 : b ≤ 1000) (h3 : z ≤ 64) : (a + b) * z ≤ 140737488355328 := Nat.le_trans (Nat.mul_le_mul (Nat.add_le_add h1 h2) h3) (by decide)
def atW (way : Int) (own : List Lot) : Nat := if way = 2 then own.length - 1 else 0
def cutL (l : Lot) (q : Int) : Lot := ⟨l.account, l.instr, l.no, l.qty - min l.qty q, l.cost - mdQ l.cost (min l.qty q) l.qty⟩
def stepT (own : List Lot) (k : Nat) (l : Lot) (q : Int) : List Lot := if l.qty - min l.qty q = 0 then own.take k ++ own.drop (k + 1) else own.set k (cutL l q)
def takeN (way : Int) : Nat → List Lot → Int → List Lot × Int
  | 0, own, _ => (own, 0)
  | n + 1, own, q => if 0 < q then (match own[atW way own]? with
    | none => (own, 0)
    | some l => ((takeN way n (stepT own (atW way own) l q) (q - min l.qty q)).1, mdQ l.cost (min l.qty q) l.qty + (takeN way n (stepT own (atW way own) l q) (q - min l.qty q)).2)) else (own, 0)
def takeR (xs : List Lot) (a n q way : Int) : List Lot × Int × Int :=
  if lotsOk xs = true ∧ (1 ≤ q ∧ q ≤ 1000000000000000) ∧ 1 ≤ way ∧ way ≤ 3 then
    (if sumQ (ownL xs a n) < q then (xs, 0, 2)
    else if way = 3 then (mergeL (restL xs a n) (meanL (ownL xs a n) q), mdQ (sumC (ownL xs a n)) q (sumQ (ownL xs a n)), 0)
    else (mergeL (restL xs a n) (takeN way (ownL xs a n).length (ownL xs a n) q).1, (takeN way (ownL xs a n).length (ownL xs a n) q).2, 0))
  else ([], 0, 1)
theorem takeN_0 (way : Int) (n : Nat) (own : List Lot) {q : Int} (h : ¬ 0 < q) : takeN way n own q = (own, 0) := by
  cases n with
  | zero => rfl
  | succ n => rw [takeN, if_neg h]
theorem sum_cons (l : Lot) (r : List Lot) : sumQ (l :: r) = l.qty + sumQ r ∧ sumC (l :: r) = l.cost + sumC r := by simp [sumQ, sumC]
theorem sum_app (r s : List Lot) : sumQ (r ++ s) = sumQ r + sumQ s ∧ sumC (r ++ s) = sumC r + sumC s := by simp [sumQ, sumC]
theorem sum_nil : sumQ [] = 0 ∧ sumC [] = 0 := ⟨rfl, rfl⟩
structure Whole (own : List Lot) (q cost : Int) : Prop where
  fine : Fine own
  pos : ∀ x ∈ own, 1 ≤ x.qty
  q0 : 0 ≤ q
  q1 : q ≤ sumQ own
  c0 : 0 ≤ cost
  c1 : cost + sumC own ≤ 1000000000000000000
theorem atW_lt {way : Int} {own : List Lot} (h : 0 < own.length) : atW way own < own.length := by unfold atW; split <;> omega
theorem Whole.ne {own : List Lot} {q cost : Int} (h : Whole own q cost) (hq : 0 < q) : 0 < own.length := by
  cases own with
  | nil => have := h.q1; have := sum_nil.1; omega
  | cons => simp
theorem sum_at (own : List Lot) (k : Nat) (hk : k < own.length) : sumQ own = sumQ (own.take k) + (own[k].qty + sumQ (own.drop (k + 1))) ∧ sumC own = sumC (own.take k) + (own[k].cost + sumC (own.drop (k + 1))) := by
  have e : own = own.take k ++ own[k] :: own.drop (k + 1) := by rw [← List.drop_eq_getElem_cons hk, List.take_append_drop]
  constructor
  · conv => lhs; rw [e]
    rw [(sum_app _ _).1, (sum_cons _ _).1]
  · conv => lhs; rw [e]
    rw [(sum_app _ _).2, (sum_cons _ _).2]
theorem set_at (own : List Lot) (k : Nat) (hk : k < own.length) (l : Lot) : own.set k l = own.take k ++ l :: own.drop (k + 1) := List.set_eq_take_append_cons_drop .. |>.trans (by rw [if_pos hk])
theorem Whole.step {own : List Lot} {q cost : Int} (h : Whole own q cost) (hq : 0 < q) (k : Nat) (hk : k < own.length) : Whole (stepT own k own[k] q) (q - min own[k].qty q) (cost + mdQ own[k].cost (min own[k].qty q) own[k].qty) := by
  obtain ⟨hf, hp, h0, h1, h2, h3⟩ := h
  have hm := List.getElem_mem hk
  have hl := hf.1 _ hm
  have hpl := hp _ hm
  have hmd := mdQ_le (a := own[k].cost) (b := min own[k].qty q) (c := own[k].qty) hl.2.1 (by omega) (by omega) (by omega)
  have hs := sum_at own k hk
  have ht : ∀ x ∈ own.take k, x ∈ own := fun x hx => List.mem_of_mem_take hx
  have hd : ∀ x ∈ own.drop (k + 1), x ∈ own := fun x hx => List.mem_of_mem_drop hx
  have hlen := hf.2
  unfold stepT
  split
  · rename_i he
    have e := sum_app (own.take k) (own.drop (k + 1))
    refine ⟨⟨fun x hx => hf.1 x ?_, ?_⟩, fun x hx => hp x ?_, by omega, by omega, by omega, by omega⟩
    · rcases List.mem_append.1 hx with q | q
      · exact ht _ q
      · exact hd _ q
    · rw [List.length_append, List.length_take, List.length_drop]; omega
    · rcases List.mem_append.1 hx with q | q
      · exact ht _ q
      · exact hd _ q
  · rename_i he
    rw [set_at own k hk]
    have e := sum_app (own.take k) (cutL own[k] q :: own.drop (k + 1))
    have e2 := sum_cons (cutL own[k] q) (own.drop (k + 1))
    have e3 : (cutL own[k] q).qty = own[k].qty - min own[k].qty q := rfl
    have e4 : (cutL own[k] q).cost = own[k].cost - mdQ own[k].cost (min own[k].qty q) own[k].qty := rfl
    refine ⟨⟨fun x hx => ?_, ?_⟩, fun x hx => ?_, by omega, by omega, by omega, by omega⟩
    · rcases List.mem_append.1 hx with q | q
      · exact hf.1 _ (ht _ q)
      · rcases List.mem_cons.1 q with rfl | q
        · rw [e3, e4]; omega
        · exact hf.1 _ (hd _ q)
    · rw [List.length_append, List.length_take, List.length_cons, List.length_drop]; omega
    · rcases List.mem_append.1 hx with q | q
      · exact hp _ (ht _ q)
      · rcases List.mem_cons.1 q with rfl | q
        · rw [e3]; omega
        · exact hp _ (hd _ q)
theorem lots_pos {xs : List Lot} (h : lotsOk xs = true) : ∀ x ∈ xs, lotP x = true := by
  rw [lotsOk, Bool.and_eq_true] at h
  exact fun x hx => okL_p h.1 hx
theorem c_LotTake (xs : List Lot) (a n q way : Int) (hn : xs.length ≤ 1000000000) (K : AV → AH → Prop) (hk : K (.tup [(.one (.im ((takeR xs a n q way).1.map lotC))), (.one (.c (.int .i64 ((takeR xs a n q way).2.1)))), (.one (.c (.int .i64 ((takeR xs a n q way).2.2))))]) []) : ACalls Tryz.prog 73 [(.one (.im (xs.map lotC))), (.one (.c (.int .i64 (a)))), (.one (.c (.int .i64 (n)))), (.one (.c (.int .i64 (q)))), (.one (.c (.int .i64 (way))))] [] K := by
  refine acall_c Tryz.f73.results.toList mixed Tryz.func73 rfl rfl (by kernel_rfl) ?_
  intro Q hQ hQO
  simp only [go_sem]
  cases o1 : lotsOk xs with
  | false =>
    rw [takeR, if_neg (by rw [o1]; simp)] at hk
    (try simp only [go_sem, o1]); repeat' (first | (with_reducible first | refine c_split ?_ ?_ | refine w_split ?_ ?_ | refine tw_split ?_ ?_) <;> intro hb <;> try simp only [go_sem, hb, o1] | (first | with_reducible refine d73_0_LTake (by with_unfolding_all rfl) (by kernel_rfl) ?_ | refine call_c (c_spec_LotsOk xs hn _ ?_) | fail) <;> try simp only [go_sem, o1] | with_reducible refine hQ _ _ ?_ <;> simp only [Tryz.f73, go_sem, o1])
    exact hk
  | true =>
    have hl := lotsOk_len o1
    have hf := lots_fine o1
    cases o2 : decide (1 ≤ q ∧ q ≤ 1000000000000000) with
    | false =>
      rw [takeR, if_neg (fun h => of_decide_eq_false o2 h.2.1)] at hk
      (try simp only [go_sem, o1, o2]); repeat' (first | (with_reducible first | refine c_split ?_ ?_ | refine w_split ?_ ?_ | refine tw_split ?_ ?_) <;> intro hb <;> try simp only [go_sem, hb, o1, o2] | (first | with_reducible refine d73_0_LTake (by with_unfolding_all rfl) (by kernel_rfl) ?_ | refine call_c (c_spec_LotsOk xs hn _ ?_) | refine call_c (c_l1Some q 1 _ ?_) | fail) <;> try simp only [go_sem, o1, o2] | with_reducible refine hQ _ _ ?_ <;> simp only [Tryz.f73, go_sem, o1, o2])
      exact hk
    | true =>
      cases o3 : decide (1 ≤ way ∧ way ≤ 3) with
      | false =>
        rw [takeR, if_neg (fun h => of_decide_eq_false o3 h.2.2)] at hk
        (try simp only [go_sem, o1, o2, o3]); repeat' (first | (with_reducible first | refine c_split ?_ ?_ | refine w_split ?_ ?_ | refine tw_split ?_ ?_) <;> intro hb <;> try simp only [go_sem, hb, o1, o2, o3] | (first | with_reducible refine d73_0_LTake (by with_unfolding_all rfl) (by kernel_rfl) ?_ | refine call_c (c_spec_LotsOk xs hn _ ?_) | refine call_c (c_l1Some q 1 _ ?_) | refine call_c (c_l1In way 1 3 _ ?_) | fail) <;> try simp only [go_sem, o1, o2, o3] | with_reducible refine hQ _ _ ?_ <;> simp only [Tryz.f73, go_sem, o1, o2, o3])
        exact hk
      | true =>
        have hq := of_decide_eq_true o2
        rw [takeR, if_pos ⟨o1, hq, of_decide_eq_true o3⟩] at hk
        have hof := hf.own a n
        have hpos : ∀ x ∈ ownL xs a n, 1 ≤ x.qty := fun x hx => (by have h := lots_pos o1 x (List.mem_filter.1 hx).1; simp only [lotP, Bool.and_eq_true, decide_eq_true_eq] at h; omega)
        have hsl := sums_le (ownL xs a n) hof.1
        have hol := hof.2
        have hrl : (restL xs a n).length ≤ 10000 := Nat.le_trans (List.length_filter_le _ _) (by omega)
        (try simp only [go_sem, o1, o2, o3]); repeat' (first | (with_reducible first | refine c_split ?_ ?_ | refine w_split ?_ ?_ | refine tw_split ?_ ?_) <;> intro hb <;> try simp only [go_sem, hb, o1, o2, o3] | (first | with_reducible refine d73_0_LTake (by with_unfolding_all rfl) (by kernel_rfl) ?_ | refine call_c (c_spec_LotsOk xs hn _ ?_) | refine call_c (c_l1Some q 1 _ ?_) | refine call_c (c_l1In way 1 3 _ ?_) | refine call_c (o_l5Split xs a n hn _ (fun k1 k2 => ?_)) | fail) <;> try simp only [go_sem, o1, o2, o3] | fail)
        cases o4 : decide (sumQ (ownL xs a n) < q) with
        | true =>
          rw [if_pos (of_decide_eq_true o4)] at hk
          (try simp only [go_sem, o4]); repeat' (first | (with_reducible first | refine c_split ?_ ?_ | refine w_split ?_ ?_ | refine tw_split ?_ ?_) <;> intro hb <;> try simp only [go_sem, hb, o4] | (first | with_reducible refine d73_0_LTake (by with_unfolding_all rfl) (by kernel_rfl) ?_ | refine call_c (c_l5Qty (ownL xs a n) hof _ ?_) | fail) <;> try simp only [go_sem, o4] | fail)
          refine ap_end rfl rfl (by simp; omega) ?_
          (try simp only [go_sem]); repeat' (first | (with_reducible first | refine c_split ?_ ?_ | refine w_split ?_ ?_ | refine tw_split ?_ ?_) <;> intro hb <;> try simp only [go_sem, hb] | with_reducible refine d73_0_LTake (by with_unfolding_all rfl) (by kernel_rfl) ?_ <;> try simp only [go_sem] | with_reducible refine hQ _ _ ?_ <;> simp only [Tryz.f73, go_sem])
          exact hk
        | false =>
          rw [if_neg (of_decide_eq_false o4)] at hk
          have o4' := of_decide_eq_false o4
          cases o5 : (way == 3) with
          | true =>
            rw [if_pos (eq_of_beq o5)] at hk
            have hne : 0 < (ownL xs a n).length := by
              rcases Nat.eq_zero_or_pos (ownL xs a n).length with h | h
              · rw [List.length_eq_zero_iff.1 h, sum_nil.1] at o4'; omega
              · exact h
            have hml : (meanL (ownL xs a n) q).length ≤ 10000 := by unfold meanL; split; · simp
                                                                    split <;> simp
            (try simp only [go_sem, o4, o5]); repeat' (first | (with_reducible first | refine c_split ?_ ?_ | refine w_split ?_ ?_ | refine tw_split ?_ ?_) <;> intro hb <;> try simp only [go_sem, hb, o4, o5] | (first | with_reducible refine d73_0_LTake (by with_unfolding_all rfl) (by kernel_rfl) ?_ | refine call_c (c_l5Qty (ownL xs a n) hof _ ?_) | refine call_c (c_l5Mean (ownL xs a n) q hof hq.1 (by omega) hne _ ?_) | refine call_c (c_l5Merge (restL xs a n) (meanL (ownL xs a n) q) hrl hml _ ?_) | fail) <;> try simp only [go_sem, o4, o5] | with_reducible refine hQ _ _ ?_ <;> simp only [Tryz.f73, go_sem, o4, o5])
            exact hk
          | false =>
            rw [if_neg (by simpa using o5)] at hk
            (try simp only [go_sem, o4, o5]); repeat' (first | (with_reducible first | refine c_split ?_ ?_ | refine w_split ?_ ?_ | refine tw_split ?_ ?_) <;> intro hb <;> try simp only [go_sem, hb, o4, o5] | (first | with_reducible refine d73_0_LTake (by with_unfolding_all rfl) (by kernel_rfl) ?_ | refine call_c (c_l5Qty (ownL xs a n) hof _ ?_) | fail) <;> try simp only [go_sem, o4, o5] | fail)
            refine while_at (α := Nat × List Lot × Int × Int × Nat × Option Nat) (fun ⟨m, own, r, c, g, cap⟩ => m) [4, 14] (fun ⟨m, own, r, c, g, cap⟩ f h => f 3 = (.one (.c (.int .i64 (r)))) ∧ f 13 = .one (.sl 0 g 0 own.length) ∧ f 17 = (.one (.c (.int .i64 (c)))) ∧ h = [.own g 112 5 cap (own.map lotC), .own 0 112 5 k2 ((restL xs a n).map lotC)] ∧ Whole own r c ∧ (own.length ≤ m ∨ r = 0) ∧ takeN way (ownL xs a n).length (ownL xs a n) q = ((takeN way m own r).1, c + (takeN way m own r).2)) ((ownL xs a n).length, ownL xs a n, q, 0, 0, k1) (GC.now ?_) ?_
            · simp only [go_sem, nc_0, true_and]
              exact ⟨⟨hof, hpos, by omega, by omega, by omega, by omega⟩, .inl trivial, by simp⟩
            · rintro ⟨m, own, r, c, g, cap⟩ f h J hA ⟨e3, e13, e17, rfl, hP⟩ hJ
              simp only [go_sem] at hA
              try dsimp only at hJ
              simp only [go_sem, hA, e3, e13, e17]
              obtain ⟨hw, hm, ht⟩ := hP
              by_cases hr : 0 < r
              · have dr : decide (0 < r) = true := decide_eq_true hr
                have hol0 := hw.ne hr
                cases o6 : (way == 2) with
                | true =>
                  obtain ⟨k, hk1⟩ : ∃ k, own.length = k + 1 := ⟨own.length - 1, by omega⟩
                  have hkl : k < own.length := by omega
                  have hwk : wrap64 ((own.length : Int) - 1) = (k : Int) := by rw [wrap_id _ (by have := hw.fine.2; omega) (by have := hw.fine.2; omega)]; omega
                  have lk : (k : Int) < (own.length : Int) := Int.ofNat_lt.2 hkl
                  have ga : own[k]? = some own[k] := List.getElem?_eq_getElem hkl
                  obtain ⟨rr, ok, hmd⟩ := mdV_q own[k].cost (min own[k].qty r) own[k].qty
                  have hst := hw.step hr k hkl
                  have hmx := hw.fine.1 _ (List.getElem_mem hkl)
                  have hmp := hw.pos _ (List.getElem_mem hkl)
                  have hmq := mdQ_le (a := own[k].cost) (b := min own[k].qty r) (c := own[k].qty) hmx.2.1 (by omega) (by omega) (by omega)
                  have hwq := wrap_id (own[k].qty - min own[k].qty r) (by omega) (by omega)
                  have hwl := wrap_id (own[k].cost - mdQ own[k].cost (min own[k].qty r) own[k].qty) (by omega) (by omega)
                  have hwr := wrap_id (r - min own[k].qty r) (by omega) (by have := hw.q1; have := sums_le own hw.fine.1; have := hw.fine.2; omega)
                  have hwc := wrap_id (c + mdQ own[k].cost (min own[k].qty r) own[k].qty) (by have := hw.c0; omega) (by have := hw.c1; have := sums_le own hw.fine.1; have := hw.fine.2; omega)
                  have hset : ∀ v, (own.set k v)[k]? = some v := fun v => List.getElem?_set_self hkl
                  have hat : atW way own = k := by rw [atW, if_pos (eq_of_beq o6)]; omega
                  have hnx : own.length ≤ m := hm.resolve_right (by omega)
                  obtain ⟨m, rfl⟩ : ∃ j, m = j + 1 := ⟨m - 1, by omega⟩
                  have htn : takeN way (ownL xs a n).length (ownL xs a n) q = ((takeN way m (stepT own k own[k] r) (r - min own[k].qty r)).1, c + mdQ own[k].cost (min own[k].qty r) own[k].qty + (takeN way m (stepT own k own[k] r) (r - min own[k].qty r)).2) := by
                    rw [ht, takeN, if_pos hr, hat, ga]
                    simp only [Int.add_assoc]
                  have hcz : own[k].qty - min own[k].qty r ≠ 0 → r - min own[k].qty r = 0 := fun _ => by omega
                  by_cases hz : own[k].qty - min own[k].qty r = 0
                  · have ez : (own[k].qty - min own[k].qty r == 0) = true := beq_iff_eq.2 hz
                    have htk : ∀ v, (own.set k v).take k = own.take k := fun v => List.take_set_of_le (Nat.le_refl k)
                    have hdk : ∀ v, (own.set k v).drop (k + 1) = own.drop (k + 1) := fun v => List.drop_set_of_lt (by omega)
                    have hle : k ≤ own.length := by omega
                    have hle1 : k + 1 ≤ own.length := hkl
                    have hwk1 := wrap_nat k (by have := hw.fine.2; omega)
                    have hge : own.length ≤ k + 1 := by omega
                    have hkp : 0 < k + 1 := Nat.succ_pos k
                    (try simp only [go_sem, hA, e3, e13, e17, dr, o6, hwk, lk, ga, hmd, hwq, hwl, hwr, hwc, hset, List.set_set, ez, hle, hle1, List.length_map, List.length_set, ← List.map_take, ← List.map_drop, htk, hdk, hwk1, hge, hkp, Nat.le_refl, Nat.zero_add]); repeat' (first | (with_reducible first | refine c_split ?_ ?_ | refine w_split ?_ ?_ | refine tw_split ?_ ?_) <;> intro hb <;> try simp only [go_sem, hb, hA, e3, e13, e17, dr, o6, hwk, lk, ga, hmd, hwq, hwl, hwr, hwc, hset, List.set_set, ez, hle, hle1, List.length_map, List.length_set, ← List.map_take, ← List.map_drop, htk, hdk, hwk1, hge, hkp, Nat.le_refl, Nat.zero_add] | (first | with_reducible refine d73_0_LTake (by with_unfolding_all rfl) (by kernel_rfl) ?_ | refine call_c (c_l1Min _ _ _ ?_) | refine call_c (c_spec_MulDiv _ _ _ _ ?_) | fail) <;> try simp only [go_sem, hA, e3, e13, e17, dr, o6, hwk, lk, ga, hmd, hwq, hwl, hwr, hwc, hset, List.set_set, ez, hle, hle1, List.length_map, List.length_set, ← List.map_take, ← List.map_drop, htk, hdk, hwk1, hge, hkp, Nat.le_refl, Nat.zero_add] | fail)
                    have hlk : (own.take k).length = k := List.length_take_of_le hle
                    have hse : stepT own k own[k] r = own.take k := by rw [stepT, if_pos hz, List.drop_of_length_le hge, List.append_nil]
                    have hkm : k ≤ m := by rw [hk1] at hnx; exact Nat.le_of_succ_le_succ hnx
                    rw [hse] at hst htn
                    have hml : (List.map lotC (own.take k)).length ≤ 1000 := by rw [List.length_map, hlk]; exact Nat.le_trans hle hw.fine.2
                    refine ap_end rfl rfl (tk_room (Nat.zero_le _) hml (Nat.le_of_ble_eq_true rfl)) ?_
                    (try simp only [go_sem, hA, e3, e13, e17, List.length_map, List.nil_append, hlk]); repeat' (first | (with_reducible first | refine c_split ?_ ?_ | refine w_split ?_ ?_ | refine tw_split ?_ ?_) <;> intro hb <;> try simp only [go_sem, hb, hA, e3, e13, e17, List.length_map, List.nil_append, hlk] | with_reducible refine d73_0_LTake (by with_unfolding_all rfl) (by kernel_rfl) ?_ <;> try simp only [go_sem, hA, e3, e13, e17, List.length_map, List.nil_append, hlk] | fail)
                    refine ap_end rfl (by rw [List.length_map, hlk]) (tk_room hml (Nat.zero_le _) (Nat.le_of_ble_eq_true rfl)) ?_
                    (try simp only [go_sem, hA, e3, e13, e17, List.length_map, hlk]); repeat' (first | (with_reducible first | refine c_split ?_ ?_ | refine w_split ?_ ?_ | refine tw_split ?_ ?_) <;> intro hb <;> try simp only [go_sem, hb, hA, e3, e13, e17, List.length_map, hlk] | with_reducible refine d73_0_LTake (by with_unfolding_all rfl) (by kernel_rfl) ?_ <;> try simp only [go_sem, hA, e3, e13, e17, List.length_map, hlk] | fail)
                    refine GC.step (Ghost.gc [3, 1] (by simp only [go_sem]) rfl) (GC.now (hJ (m, own.take k, r - min own[k].qty r, c + mdQ own[k].cost (min own[k].qty r) own[k].qty, 2, none) _ _ (by exact Nat.lt_succ_self m) (by simp only [go_sem, hA, e3, e13, e17, List.idxOf?_cons, List.idxOf?_nil, Option.map_none]) ⟨?_, ?_, ?_, ?_, ?_⟩)) <;> try simp only [go_sem, hA, e3, e13, e17, hlk, List.idxOf?_cons, List.idxOf?_nil]
                    exact ⟨hst, .inl hkm, htn⟩
                  · have ez : (own[k].qty - min own[k].qty r == 0) = false := beq_eq_false_iff_ne.2 hz
                    have hse : stepT own k own[k] r = own.set k (cutL own[k] r) := by rw [stepT, if_neg hz]
                    rw [hse] at hst htn
                    (try simp only [go_sem, hA, e3, e13, e17, dr, o6, hwk, lk, ga, hmd, hwq, hwl, hwr, hwc, hset, List.set_set, ez]); repeat' (first | (with_reducible first | refine c_split ?_ ?_ | refine w_split ?_ ?_ | refine tw_split ?_ ?_) <;> intro hb <;> try simp only [go_sem, hb, hA, e3, e13, e17, dr, o6, hwk, lk, ga, hmd, hwq, hwl, hwr, hwc, hset, List.set_set, ez] | (first | with_reducible refine d73_0_LTake (by with_unfolding_all rfl) (by kernel_rfl) ?_ | refine call_c (c_l1Min _ _ _ ?_) | refine call_c (c_spec_MulDiv _ _ _ _ ?_) | fail) <;> try simp only [go_sem, hA, e3, e13, e17, dr, o6, hwk, lk, ga, hmd, hwq, hwl, hwr, hwc, hset, List.set_set, ez] | fail)
                    refine GC.step (Ghost.gc [0, 1] (by simp only [go_sem]) rfl) (GC.now (hJ (m, own.set k (cutL own[k] r), r - min own[k].qty r, c + mdQ own[k].cost (min own[k].qty r) own[k].qty, g, cap) _ _ (by exact Nat.lt_succ_self m) (by simp only [go_sem, hA, e3, e13, e17, List.idxOf?_cons, List.idxOf?_nil, Option.map_none]) ⟨?_, ?_, ?_, ?_, ?_⟩)) <;> try simp only [go_sem, hA, e3, e13, e17, List.length_set, cutL, List.idxOf?_cons, List.idxOf?_nil]
                    exact ⟨hst, .inr (hcz hz), htn⟩
                | false =>
                  have hkl : 0 < own.length := hol0
                  have lk : (0 : Int) < (own.length : Int) := by omega
                  have ga : own[0]? = some own[0] := List.getElem?_eq_getElem hkl
                  obtain ⟨rr, ok, hmd⟩ := mdV_q own[0].cost (min own[0].qty r) own[0].qty
                  have hst := hw.step hr 0 hkl
                  have hmx := hw.fine.1 _ (List.getElem_mem hkl)
                  have hmp := hw.pos _ (List.getElem_mem hkl)
                  have hmq := mdQ_le (a := own[0].cost) (b := min own[0].qty r) (c := own[0].qty) hmx.2.1 (by omega) (by omega) (by omega)
                  have hwq := wrap_id (own[0].qty - min own[0].qty r) (by omega) (by omega)
                  have hwl := wrap_id (own[0].cost - mdQ own[0].cost (min own[0].qty r) own[0].qty) (by omega) (by omega)
                  have hwr := wrap_id (r - min own[0].qty r) (by omega) (by have := hw.q1; have := sums_le own hw.fine.1; have := hw.fine.2; omega)
                  have hwc := wrap_id (c + mdQ own[0].cost (min own[0].qty r) own[0].qty) (by have := hw.c0; omega) (by have := hw.c1; have := sums_le own hw.fine.1; have := hw.fine.2; omega)
                  have hset : ∀ v, (own.set 0 v)[0]? = some v := fun v => List.getElem?_set_self hkl
                  have hat : atW way own = 0 := by rw [atW, if_neg (by simpa using o6)]
                  have hnx : own.length ≤ m := hm.resolve_right (by omega)
                  obtain ⟨m, rfl⟩ : ∃ j, m = j + 1 := ⟨m - 1, by omega⟩
                  have htn : takeN way (ownL xs a n).length (ownL xs a n) q = ((takeN way m (stepT own 0 own[0] r) (r - min own[0].qty r)).1, c + mdQ own[0].cost (min own[0].qty r) own[0].qty + (takeN way m (stepT own 0 own[0] r) (r - min own[0].qty r)).2) := by
                    rw [ht, takeN, if_pos hr, hat, ga]
                    simp only [Int.add_assoc]
                  have hcz : own[0].qty - min own[0].qty r ≠ 0 → r - min own[0].qty r = 0 := fun _ => by omega
                  by_cases hz : own[0].qty - min own[0].qty r = 0
                  · have ez : (own[0].qty - min own[0].qty r == 0) = true := beq_iff_eq.2 hz
                    have hdk : ∀ v, (own.set 0 v).drop 1 = own.drop 1 := fun v => List.drop_set_of_lt (by omega)
                    have htk : ∀ v, (own.set 0 v).take 0 = [] := fun v => rfl
                    have hw01 : wrap64 (0 + 1) = 1 := wrap_id _ (by decide) (by decide)
                    have hse : stepT own 0 own[0] r = own.drop 1 := by rw [stepT, if_pos hz]; rfl
                    rw [hse] at hst htn
                    have hle1 : 1 ≤ own.length := hol0
                    by_cases h1 : 1 < own.length
                    · skip
                      (try simp only [go_sem, hA, e3, e13, e17, dr, o6, Int.toNat_zero, Int.toNat_one, Int.le_refl, true_and, lk, ga, hmd, hwq, hwl, hwr, hwc, hset, List.set_set, ez, hle1, h1, List.length_map, List.length_set, ← List.map_take, ← List.map_drop, htk, hdk, hw01, Nat.le_refl, Nat.zero_add, Nat.zero_le, Int.reduceLE, if_true]); repeat' (first | (with_reducible first | refine c_split ?_ ?_ | refine w_split ?_ ?_ | refine tw_split ?_ ?_) <;> intro hb <;> try simp only [go_sem, hb, hA, e3, e13, e17, dr, o6, Int.toNat_zero, Int.toNat_one, Int.le_refl, true_and, lk, ga, hmd, hwq, hwl, hwr, hwc, hset, List.set_set, ez, hle1, h1, List.length_map, List.length_set, ← List.map_take, ← List.map_drop, htk, hdk, hw01, Nat.le_refl, Nat.zero_add, Nat.zero_le, Int.reduceLE, if_true] | (first | with_reducible refine d73_0_LTake (by with_unfolding_all rfl) (by kernel_rfl) ?_ | refine call_c (c_l1Min _ _ _ ?_) | refine call_c (c_spec_MulDiv _ _ _ _ ?_) | fail) <;> try simp only [go_sem, hA, e3, e13, e17, dr, o6, Int.toNat_zero, Int.toNat_one, Int.le_refl, true_and, lk, ga, hmd, hwq, hwl, hwr, hwc, hset, List.set_set, ez, hle1, h1, List.length_map, List.length_set, ← List.map_take, ← List.map_drop, htk, hdk, hw01, Nat.le_refl, Nat.zero_add, Nat.zero_le, Int.reduceLE, if_true] | fail)
                      refine ap_end rfl rfl (by exact tk_room (Nat.zero_le _) (Nat.zero_le _) (Nat.le_of_ble_eq_true rfl)) ?_
                      have hdl : (own.drop 1).length = own.length - 1 := List.length_drop
                      have hml : (List.map lotC (own.drop 1)).length ≤ 1000 := by rw [List.length_map, hdl]; exact Nat.le_trans (Nat.sub_le _ _) hw.fine.2
                      (try simp only [go_sem, hA, e3, e13, e17, List.length_map, List.nil_append, hle1, h1, Nat.zero_add, Nat.le_refl, ← List.map_drop, hdk]); repeat' (first | (with_reducible first | refine c_split ?_ ?_ | refine w_split ?_ ?_ | refine tw_split ?_ ?_) <;> intro hb <;> try simp only [go_sem, hb, hA, e3, e13, e17, List.length_map, List.nil_append, hle1, h1, Nat.zero_add, Nat.le_refl, ← List.map_drop, hdk] | with_reducible refine d73_0_LTake (by with_unfolding_all rfl) (by kernel_rfl) ?_ <;> try simp only [go_sem, hA, e3, e13, e17, List.length_map, List.nil_append, hle1, h1, Nat.zero_add, Nat.le_refl, ← List.map_drop, hdk] | fail)
                      have htl : List.take (own.length - 1) (List.map lotC (own.drop 1)) = List.map lotC (own.drop 1) := List.take_of_length_le (by rw [List.length_map, hdl]; exact Nat.le_refl _)
                      have h1l : 1 + (own.length - 1) ≤ own.length := by omega
                      (try simp only [go_sem, hA, e3, e13, e17, h1l, htl, if_true]); repeat' (first | (with_reducible first | refine c_split ?_ ?_ | refine w_split ?_ ?_ | refine tw_split ?_ ?_) <;> intro hb <;> try simp only [go_sem, hb, hA, e3, e13, e17, h1l, htl, if_true] | with_reducible refine d73_0_LTake (by with_unfolding_all rfl) (by kernel_rfl) ?_ <;> try simp only [go_sem, hA, e3, e13, e17, h1l, htl, if_true] | fail)
                      refine ap_end rfl rfl (by exact tk_room (Nat.zero_le _) hml (Nat.le_of_ble_eq_true rfl)) ?_
                      (try simp only [go_sem, hA, e3, e13, e17, List.length_map, hdl]); repeat' (first | (with_reducible first | refine c_split ?_ ?_ | refine w_split ?_ ?_ | refine tw_split ?_ ?_) <;> intro hb <;> try simp only [go_sem, hb, hA, e3, e13, e17, List.length_map, hdl] | with_reducible refine d73_0_LTake (by with_unfolding_all rfl) (by kernel_rfl) ?_ <;> try simp only [go_sem, hA, e3, e13, e17, List.length_map, hdl] | fail)
                      refine GC.step (Ghost.gc [3, 1] (by simp only [go_sem]) rfl) (GC.now (hJ (m, own.drop 1, r - min own[0].qty r, c + mdQ own[0].cost (min own[0].qty r) own[0].qty, 2, none) _ _ (by exact Nat.lt_succ_self m) (by simp only [go_sem, hA, e3, e13, e17, List.idxOf?_cons, List.idxOf?_nil, Option.map_none]) ⟨?_, ?_, ?_, ?_, ?_⟩)) <;> try simp only [go_sem, hA, e3, e13, e17, hdl, Nat.zero_add, List.idxOf?_cons, List.idxOf?_nil]
                      exact ⟨hst, .inl (by omega), htn⟩
                    · have hge : own.length ≤ 1 := Nat.le_of_not_lt h1
                      have hkp : 0 < 1 := Nat.zero_lt_one
                      have hnil : own.drop 1 = [] := List.drop_of_length_le hge
                      rw [hnil] at hst htn
                      (try simp only [go_sem, hA, e3, e13, e17, dr, o6, Int.toNat_zero, Int.toNat_one, Int.le_refl, true_and, lk, ga, hmd, hwq, hwl, hwr, hwc, hset, List.set_set, ez, hle1, hge, hkp, List.length_map, List.length_set, ← List.map_take, ← List.map_drop, htk, hdk, hw01, Nat.le_refl, Nat.zero_add, Nat.zero_le, Int.reduceLE, if_true]); repeat' (first | (with_reducible first | refine c_split ?_ ?_ | refine w_split ?_ ?_ | refine tw_split ?_ ?_) <;> intro hb <;> try simp only [go_sem, hb, hA, e3, e13, e17, dr, o6, Int.toNat_zero, Int.toNat_one, Int.le_refl, true_and, lk, ga, hmd, hwq, hwl, hwr, hwc, hset, List.set_set, ez, hle1, hge, hkp, List.length_map, List.length_set, ← List.map_take, ← List.map_drop, htk, hdk, hw01, Nat.le_refl, Nat.zero_add, Nat.zero_le, Int.reduceLE, if_true] | (first | with_reducible refine d73_0_LTake (by with_unfolding_all rfl) (by kernel_rfl) ?_ | refine call_c (c_l1Min _ _ _ ?_) | refine call_c (c_spec_MulDiv _ _ _ _ ?_) | fail) <;> try simp only [go_sem, hA, e3, e13, e17, dr, o6, Int.toNat_zero, Int.toNat_one, Int.le_refl, true_and, lk, ga, hmd, hwq, hwl, hwr, hwc, hset, List.set_set, ez, hle1, hge, hkp, List.length_map, List.length_set, ← List.map_take, ← List.map_drop, htk, hdk, hw01, Nat.le_refl, Nat.zero_add, Nat.zero_le, Int.reduceLE, if_true] | fail)
                      refine ap_end rfl rfl (by exact tk_room (Nat.zero_le _) (Nat.zero_le _) (Nat.le_of_ble_eq_true rfl)) ?_
                      (try simp only [go_sem, hA, e3, e13, e17, List.length_map, List.nil_append, Nat.zero_add]); repeat' (first | (with_reducible first | refine c_split ?_ ?_ | refine w_split ?_ ?_ | refine tw_split ?_ ?_) <;> intro hb <;> try simp only [go_sem, hb, hA, e3, e13, e17, List.length_map, List.nil_append, Nat.zero_add] | with_reducible refine d73_0_LTake (by with_unfolding_all rfl) (by kernel_rfl) ?_ <;> try simp only [go_sem, hA, e3, e13, e17, List.length_map, List.nil_append, Nat.zero_add] | fail)
                      refine ap_end rfl rfl (by exact tk_room (Nat.zero_le _) (Nat.zero_le _) (Nat.le_of_ble_eq_true rfl)) ?_
                      (try simp only [go_sem, hA, e3, e13, e17, List.length_map]); repeat' (first | (with_reducible first | refine c_split ?_ ?_ | refine w_split ?_ ?_ | refine tw_split ?_ ?_) <;> intro hb <;> try simp only [go_sem, hb, hA, e3, e13, e17, List.length_map] | with_reducible refine d73_0_LTake (by with_unfolding_all rfl) (by kernel_rfl) ?_ <;> try simp only [go_sem, hA, e3, e13, e17, List.length_map] | fail)
                      refine GC.step (Ghost.gc [3, 1] (by simp only [go_sem]) rfl) (GC.now (hJ (m, [], r - min own[0].qty r, c + mdQ own[0].cost (min own[0].qty r) own[0].qty, 2, none) _ _ (by exact Nat.lt_succ_self m) (by simp only [go_sem, hA, e3, e13, e17, List.idxOf?_cons, List.idxOf?_nil, Option.map_none]) ⟨?_, ?_, ?_, ?_, ?_⟩)) <;> try simp only [go_sem, hA, e3, e13, e17, List.length_nil, List.map_nil, List.idxOf?_cons, List.idxOf?_nil]
                      exact ⟨hst, .inl (Nat.zero_le _), htn⟩
                  · have ez : (own[0].qty - min own[0].qty r == 0) = false := beq_eq_false_iff_ne.2 hz
                    have hse : stepT own 0 own[0] r = own.set 0 (cutL own[0] r) := by rw [stepT, if_neg hz]
                    rw [hse] at hst htn
                    (try simp only [go_sem, hA, e3, e13, e17, dr, o6, Int.toNat_zero, Int.le_refl, true_and, lk, ga, hmd, hwq, hwl, hwr, hwc, hset, List.set_set, ez]); repeat' (first | (with_reducible first | refine c_split ?_ ?_ | refine w_split ?_ ?_ | refine tw_split ?_ ?_) <;> intro hb <;> try simp only [go_sem, hb, hA, e3, e13, e17, dr, o6, Int.toNat_zero, Int.le_refl, true_and, lk, ga, hmd, hwq, hwl, hwr, hwc, hset, List.set_set, ez] | (first | with_reducible refine d73_0_LTake (by with_unfolding_all rfl) (by kernel_rfl) ?_ | refine call_c (c_l1Min _ _ _ ?_) | refine call_c (c_spec_MulDiv _ _ _ _ ?_) | fail) <;> try simp only [go_sem, hA, e3, e13, e17, dr, o6, Int.toNat_zero, Int.le_refl, true_and, lk, ga, hmd, hwq, hwl, hwr, hwc, hset, List.set_set, ez] | fail)
                    refine GC.step (Ghost.gc [0, 1] (by simp only [go_sem]) rfl) (GC.now (hJ (m, own.set 0 (cutL own[0] r), r - min own[0].qty r, c + mdQ own[0].cost (min own[0].qty r) own[0].qty, g, cap) _ _ (by exact Nat.lt_succ_self m) (by simp only [go_sem, hA, e3, e13, e17, List.idxOf?_cons, List.idxOf?_nil, Option.map_none]) ⟨?_, ?_, ?_, ?_, ?_⟩)) <;> try simp only [go_sem, hA, e3, e13, e17, List.length_set, cutL, List.idxOf?_cons, List.idxOf?_nil]
                    exact ⟨hst, .inr (hcz hz), htn⟩
              · have dr : decide (0 < r) = false := decide_eq_false hr
                rw [takeN_0 way m own hr] at ht
                simp only [ht, Int.add_zero] at hk
                (try simp only [go_sem, hA, e3, e13, e17, dr]); repeat' (first | (with_reducible first | refine c_split ?_ ?_ | refine w_split ?_ ?_ | refine tw_split ?_ ?_) <;> intro hb <;> try simp only [go_sem, hb, hA, e3, e13, e17, dr] | (first | with_reducible refine d73_0_LTake (by with_unfolding_all rfl) (by kernel_rfl) ?_ | refine call_c (c_l5Merge (restL xs a n) own hrl (by have := hw.fine.2; omega) _ ?_) | fail) <;> try simp only [go_sem, hA, e3, e13, e17, dr] | with_reducible refine hQ _ _ ?_ <;> simp only [Tryz.f73, go_sem, hA, e3, e13, e17, dr])
                exact hk
end Go.Proofs.YtkndmncgohmjmaaGreat
end
section
namespace Go.Proofs.YtkndmncgohmjmaaGreat
open Go.BL Go.RowKit
set_option linter.unusedVariables false
set_option linter.unusedSimpArgs false
set_option maxRecDepth 100000
def takeF : List Lot → Int → List Lot × Int
  | [], _ => ([], 0)
  | l :: r, q => if l.qty - min l.qty q = 0 then ((takeF r (q - min l.qty q)).1, mdQ l.cost (min l.qty q) l.qty + (takeF r (q - min l.qty q)).2) else (cutL l q :: (takeF r (q - min l.qty q)).1, mdQ l.cost (min l.qty q) l.qty + (takeF r (q - min l.qty q)).2)
theorem mdQ_z (c q : Int) : mdQ c 0 q = 0 := by
  unfold mdQ mulDivR
  split
  · rename_i q' r' h
    split at h
    · cases h; simp
    · cases h
  · rfl
theorem min_z {n : Int} (h : 1 ≤ n) : min n 0 = 0 := by omega
theorem cutL_0 {l : Lot} (h : 1 ≤ l.qty) : cutL l 0 = l := by
  unfold cutL
  rw [min_z h, mdQ_z, Int.sub_zero, Int.sub_zero]
theorem takeF_0 : ∀ (own : List Lot), (∀ x ∈ own, 1 ≤ x.qty) → takeF own 0 = (own, 0)
  | [], _ => rfl
  | l :: r, h => by
    have hl := h l (by simp)
    have ih := takeF_0 r (fun x hx => h x (by simp [hx]))
    rw [takeF, min_z hl, if_neg (by omega), Int.sub_zero, ih, cutL_0 hl, mdQ_z]
    simp
theorem takeN_F {way : Int} (hw : ¬ way = 2) : ∀ (own : List Lot) (n : Nat) (q : Int), 0 ≤ q → own.length ≤ n → (∀ x ∈ own, 1 ≤ x.qty) → takeN way n own q = takeF own q
  | [], n, q, _, _, _ => by
    cases n with
    | zero => rfl
    | succ n => rw [takeN]; simp [takeF]
  | l :: r, 0, q, _, hn, _ => by simp at hn
  | l :: r, n + 1, q, hq, hn, h => by
    have hl := h l (by simp)
    have hr : ∀ x ∈ r, 1 ≤ x.qty := fun x hx => h x (by simp [hx])
    have ha : atW way (l :: r) = 0 := by unfold atW; rw [if_neg hw]
    by_cases h0 : 0 < q
    · rw [takeN, if_pos h0, ha]
      simp only [List.getElem?_cons_zero]
      rw [takeF]
      by_cases hz : l.qty - min l.qty q = 0
      · have hs : stepT (l :: r) 0 l q = r := by unfold stepT; rw [if_pos hz]; simp
        rw [hs, if_pos hz, takeN_F hw r n _ (by omega) (by simpa using hn) hr]
      · have hs : stepT (l :: r) 0 l q = cutL l q :: r := by unfold stepT; rw [if_neg hz]; rfl
        have hq0 : q - min l.qty q = 0 := by omega
        rw [hs, if_neg hz, hq0, takeN_0 _ _ _ (by omega), takeF_0 r hr]
    · have hq0 : q = 0 := by omega
      subst hq0
      rw [takeN_0 _ _ _ (by omega), takeF_0 _ h]
theorem takeN_L : ∀ (r : List Lot) (n : Nat) (q : Int), 0 ≤ q → r.length ≤ n → (∀ x ∈ r, 1 ≤ x.qty) → takeN 2 n r.reverse q = ((takeF r q).1.reverse, (takeF r q).2)
  | [], n, q, _, _, _ => by
    cases n with
    | zero => rfl
    | succ n => rw [takeN]; simp [takeF]
  | l :: r, 0, q, _, hn, _ => by simp at hn
  | l :: r, n + 1, q, hq, hn, h => by
    have hl := h l (by simp)
    have hr : ∀ x ∈ r, 1 ≤ x.qty := fun x hx => h x (by simp [hx])
    have hrl : r.reverse.length = r.length := List.length_reverse
    have ha : atW 2 (l :: r).reverse = r.length := by unfold atW; rw [if_pos rfl]; simp
    have he : (l :: r).reverse = r.reverse ++ [l] := List.reverse_cons
    by_cases h0 : 0 < q
    · rw [takeN, if_pos h0, ha, he]
      have hg : (r.reverse ++ [l])[r.length]? = some l := by rw [List.getElem?_append_right (by omega), hrl, Nat.sub_self]; rfl
      rw [hg, takeF]
      simp only
      by_cases hz : l.qty - min l.qty q = 0
      · have hs : stepT (r.reverse ++ [l]) r.length l q = r.reverse := by
          unfold stepT
          rw [if_pos hz, List.take_append_of_le_length (by omega), List.take_of_length_le (by omega), List.drop_of_length_le (by simp), List.append_nil]
        rw [hs, if_pos hz, takeN_L r n _ (by omega) (by simpa using hn) hr]
      · have hs : stepT (r.reverse ++ [l]) r.length l q = r.reverse ++ [cutL l q] := by
          unfold stepT
          rw [if_neg hz, List.set_append_right _ _ (by omega), hrl, Nat.sub_self]; rfl
        have hq0 : q - min l.qty q = 0 := by omega
        rw [hs, if_neg hz, hq0, takeN_0 _ _ _ (by omega), takeF_0 r hr, List.reverse_cons]
    · have hq0 : q = 0 := by omega
      subst hq0
      rw [takeN_0 _ _ _ (by omega), takeF_0 _ h]
def keyL (x : Lot) : Int × Int × Int := (x.account, x.instr, x.no)
def keyLt (a b : Int × Int × Int) : Bool := pairLt a.1 a.2.1 b.1 b.2.1 || (decide (a.1 = b.1) && decide (a.2.1 = b.2.1) && decide (a.2.2 < b.2.2))
theorem takeF_keys : ∀ (own : List Lot) (q : Int), ((takeF own q).1.map keyL).Sublist (own.map keyL)
  | [], _ => List.Sublist.refl _
  | l :: r, q => by
    rw [takeF]
    split
    · exact (takeF_keys r _).cons _
    · exact (takeF_keys r _).cons_cons (keyL l)
theorem srt_sub {xs ys : List Lot} (h : (ys.map keyL).Sublist (xs.map keyL)) (hs : xs.Pairwise (fun x y => lotLt x y = true)) : ys.Pairwise (fun x y => lotLt x y = true) := by
  have h1 : (xs.map keyL).Pairwise (fun a b => keyLt a b = true) := List.pairwise_map.2 hs
  exact List.pairwise_map.1 (h1.sublist h)
theorem key_sub {xs ys : List Lot} (h : (ys.map keyL).Sublist (xs.map keyL)) {y : Lot} (hy : y ∈ ys) : ∃ x ∈ xs, keyL x = keyL y := by
  have := h.subset (List.mem_map_of_mem (f := keyL) hy)
  obtain ⟨x, hx, e⟩ := List.mem_map.1 this
  exact ⟨x, hx, e⟩
theorem with_merge {xs zs ys : List Lot} {a n : Int} {d R : Array Lot} (ho : xs.Pairwise (fun x y => lotLt x y = true)) (hk : (ys.map keyL).Sublist ((ownL xs a n).map keyL)) (hz : zs.Perm ys) (hd : d.toList = restL xs a n ++ zs) (hp : Go.Sort.PermIn 0 d.size d R) (hs : Go.Sort.SortedIn lotLt 0 R.size R) : R.toList = mergeL (restL xs a n) ys := by
  refine sort_merge hd hz (ho.sublist List.filter_sublist) (srt_sub hk (ho.sublist List.filter_sublist)) (fun x hx y hy => ?_) hp hs
  obtain ⟨y', hy', e⟩ := key_sub hk hy
  have h1 : lotIs a n x = false := by simpa [restL] using (List.mem_filter.1 hx).2
  have h2 : lotIs a n y' = true := (List.mem_filter.1 hy').2
  have e1 : y'.account = y.account := congrArg (·.1) e
  have e2 : y'.instr = y.instr := congrArg (·.2.1) e
  have h3 : y.account = a ∧ y.instr = n := by
    unfold lotIs at h2
    rw [Bool.and_eq_true] at h2
    exact ⟨e1 ▸ eq_of_beq h2.1, e2 ▸ eq_of_beq h2.2⟩
  have h4 : ¬ (x.account = a ∧ x.instr = n) := fun q => by
    unfold lotIs at h1
    rw [q.1, q.2] at h1
    simp at h1
  rw [lotLt_iff, lotLt_iff]
  omega
theorem mean_keys (own : List Lot) (q : Int) : ((meanL own q).map keyL).Sublist (own.map keyL) := by
  unfold meanL
  split
  · exact List.nil_sublist _
  · cases own with
    | nil => exact List.nil_sublist _
    | cons l r => exact (List.nil_sublist _).cons_cons (keyL l)
end Go.Proofs.YtkndmncgohmjmaaGreat
end
