/- Books5: lists of lots that are right. Conditions: none. -/
import Derived.Test.YtedkpjaojdkpcaaGreatLG
import Derived.Test.YtedkpjaojdkpcaaGreatLT
import Derived.Test.YtedkpjaojdkpcaaGreatLBooks4
namespace Go.Proofs.YtedkpjaojdkpcaaGreat
open Go.BL Go.RowKit
set_option linter.unusedVariables false
set_option linter.unusedSimpArgs false
set_option maxRecDepth 100000
attribute [local go_sem] accountC balC lotC tradeC
theorem findG_hit {α : Type} {p : α → Bool} {xs : List α} {x : α} (hx : x ∈ xs) (hp : p x = true) : 0 ≤ findG p xs := by
  unfold findG
  cases h : xs.findIdx? p with
  | none =>
    have := (List.findIdx?_eq_none_iff.1 h) x hx
    rw [hp] at this; cases this
  | some i => simp
def lotsOk (xs : List Lot) : Bool := okL lotP lotLt 120 xs && !decide (0 ≤ findG (badLot xs) xs)
theorem lotP_fine {x : Lot} (h : lotP x = true) : (0 ≤ x.qty ∧ x.qty ≤ 1000000000000000) ∧ 0 ≤ x.cost ∧ x.cost ≤ 1000000000000000 := by
  simp only [lotP, Bool.and_eq_true] at h
  have h1 := of_decide_eq_true h.1.2
  have h2 := of_decide_eq_true h.2
  exact ⟨⟨by omega, h1.2⟩, h2⟩
theorem rows_fine {xs : List Lot} {i : Nat} (h : allTo (rowG lotP lotLt xs) i = true) (hi : i ≤ xs.length) : ∀ x ∈ xs.take i, lotP x = true := by
  intro x hx
  obtain ⟨j, hj, rfl⟩ := List.mem_iff_getElem.1 hx
  rw [List.length_take] at hj
  have := allTo_at h j (by omega)
  rw [List.getElem_take]
  rcases j with _ | j
  · rwa [rowG_0 (by omega)] at this
  · rw [rowG_s (by omega), Bool.and_eq_true] at this; exact this.1
theorem okL_fine {xs : List Lot} (h : okL lotP lotLt 120 xs = true) : Fine xs := ⟨fun x hx => lotP_fine (okL_p h hx), by have := okL_len h; omega⟩
theorem lotLt_c {y x : Lot} (h : lotLt y x = true) : decide (0 ≤ lotCmp y x) = false := by
  rw [lotCmp_lt] at h
  have := of_decide_eq_true h
  exact decide_eq_false (by omega)
theorem c_impl_LotsOk (xs : List Lot) (hn : xs.length ≤ 1000000000) (K : AV → AH → Prop) (hk : K (.one (.c (.bool (lotsOk xs)))) []) : ACalls Tryz.prog 78 [(.one (.im (xs.map lotC)))] [] K := by
  refine acall_c Tryz.f78.results.toList mixed Tryz.func78 rfl rfl (by kernel_rfl) ?_
  intro Q hQ hQO
  simp only [go_sem]
  refine for_at (xs.length) [1, 5, 6] (fun i f h => f 7 = (.one (.c (.int .i64 (i)))) ∧ h = [.own 0 37 1 (some 1) [[.im (xs.map lotC)]]] ∧ allTo (rowG lotP lotLt xs) i = true) (GC.now ?_) ?_
  · simp only [go_sem, nc_0, true_and]
    rfl
  · rintro i f h J hi hA ⟨e7, rfl, hP⟩ hJ
    simp only [go_sem] at hA
    simp only [go_sem, hA, e7]
    refine c_split (fun hb => ?_) (fun hb => ?_)
    rotate_left
    · simp only [go_sem, hb, hA, e7]
      obtain rfl := ge_len hb hi
      (try simp only [go_sem, hA, e7]); repeat' (first | (with_reducible refine c_split (fun hb => ?_) (fun hb => ?_) <;> try simp only [go_sem, hb, hA, e7]) | (with_reducible refine w_split (fun hb => ?_) (fun hb => ?_) <;> try simp only [go_sem, hb, hA, e7]) | (with_reducible refine tw_split (fun hb => ?_) (fun hb => ?_) <;> try simp only [go_sem, hb, hA, e7]) | (with_reducible refine draw_at 0 12 (by with_unfolding_all rfl) [(0, false, true), (1, false, true), (2, false, true), (3, false, true), (4, false, true), (5, false, true), (6, false, true), (7, true, true), (8, true, false), (9, true, false), (10, true, true), (11, true, false), (12, false, false), (13, false, false), (14, false, false), (15, false, false), (16, false, false)] (by kernel_rfl) ?_ <;> try simp only [go_sem, hA, e7]) | (fail))
      · rw [lotsOk, okL_long (of_decide_eq_true hb), Bool.false_and] at hk
        (try simp only [go_sem]); repeat' (first | (with_reducible refine c_split (fun hb => ?_) (fun hb => ?_) <;> try simp only [go_sem, hb]) | (with_reducible refine w_split (fun hb => ?_) (fun hb => ?_) <;> try simp only [go_sem, hb]) | (with_reducible refine tw_split (fun hb => ?_) (fun hb => ?_) <;> try simp only [go_sem, hb]) | (with_reducible refine draw_at 0 12 (by with_unfolding_all rfl) [(0, false, true), (1, false, true), (2, false, true), (3, false, true), (4, false, true), (5, false, true), (6, false, true), (7, true, true), (8, true, false), (9, true, false), (10, true, true), (11, true, false), (12, false, false), (13, false, false), (14, false, false), (15, false, false), (16, false, false)] (by kernel_rfl) ?_ <;> try simp only [go_sem]) | (with_reducible refine hQ _ _ ?_ <;> simp only [Tryz.f78, go_sem]))
        exact hk
      · have hlen := of_decide_eq_false hb
        have hokL : okL lotP lotLt 120 xs = true := by rw [okL, hP, decide_eq_true (by omega)]; rfl
        rw [lotsOk, hokL, Bool.true_and] at hk
        refine call_h (c_ContainsLot xs _ 0 (badLot xs) _ _ hn (fun i hi K' hk' => .inr (.inl ⟨rfl, c_LotsOk1 xs[i] xs (okL_fine hokL) _ 0 rfl _ hk'⟩)) ?_)
        simp only [go_sem]
        (try simp only [go_sem]); repeat' (first | (with_reducible refine c_split (fun hb => ?_) (fun hb => ?_) <;> try simp only [go_sem, hb]) | (with_reducible refine w_split (fun hb => ?_) (fun hb => ?_) <;> try simp only [go_sem, hb]) | (with_reducible refine tw_split (fun hb => ?_) (fun hb => ?_) <;> try simp only [go_sem, hb]) | (with_reducible refine draw_at 0 12 (by with_unfolding_all rfl) [(0, false, true), (1, false, true), (2, false, true), (3, false, true), (4, false, true), (5, false, true), (6, false, true), (7, true, true), (8, true, false), (9, true, false), (10, true, true), (11, true, false), (12, false, false), (13, false, false), (14, false, false), (15, false, false), (16, false, false)] (by kernel_rfl) ?_ <;> try simp only [go_sem]) | (with_reducible refine hQ _ _ ?_ <;> simp only [Tryz.f78, go_sem]))
        exact hk
    have hi := lt_len hb
    have hw := wrap_nat i (by omega)
    have hil : (i : Int) < ((xs.length : Nat) : Int) := Int.ofNat_lt.2 hi
    have hg0 : (xs)[i]? = some ((xs)[i]) := List.getElem?_eq_getElem (by omega)
    simp only [go_sem, hb, hA, e7, hg0]
    try simp only [go_sem, hA, e7, hil, hg0]
    cases hr : rowG lotP lotLt xs i with
    | true =>
      have hall := allTo_s hP hr
      rcases i with _ | j
      · have g0 : decide ((0 : Int) < ((0 : Nat) : Int)) = false := by decide
        rw [rowG_0 hi] at hr
        (try simp only [go_sem, hA, e7, hil, hg0, g0, hr]); repeat' (first | (with_reducible refine c_split (fun hb => ?_) (fun hb => ?_) <;> try simp only [go_sem, hb, hA, e7, hil, hg0, g0, hr]) | (with_reducible refine w_split (fun hb => ?_) (fun hb => ?_) <;> try simp only [go_sem, hb, hA, e7, hil, hg0, g0, hr]) | (with_reducible refine tw_split (fun hb => ?_) (fun hb => ?_) <;> try simp only [go_sem, hb, hA, e7, hil, hg0, g0, hr]) | (with_reducible refine draw_at 0 12 (by with_unfolding_all rfl) [(0, false, true), (1, false, true), (2, false, true), (3, false, true), (4, false, true), (5, false, true), (6, false, true), (7, true, true), (8, true, false), (9, true, false), (10, true, true), (11, true, false), (12, false, false), (13, false, false), (14, false, false), (15, false, false), (16, false, false)] (by kernel_rfl) ?_ <;> try simp only [go_sem, hA, e7, hil, hg0, g0, hr]) | (refine call_c (c_lotForm _ _ ?_) <;> try simp only [go_sem, hA, e7, hil, hg0, g0, hr]) | (refine call_c (c_lotBefore _ _ _ ?_) <;> try simp only [go_sem, hA, e7, hil, hg0, g0, hr]) | (fail))
        refine gc_trim 1 (by decide) (by simp only [go_sem]) (by simp only [go_sem]) (hJ _ _ hi (by simp only [go_sem, hA, e7]) ⟨?_, ?_, ?_⟩) <;> try simp only [go_sem, hA, e7, hw]
        exact hall
      · have hj : j < xs.length := by omega
        have hgj : xs[j]? = some xs[j] := List.getElem?_eq_getElem hj
        have g1 : decide ((0 : Int) < ((j + 1 : Nat) : Int)) = true := decide_eq_true (by omega)
        have g2 : wrap64 (((j + 1 : Nat) : Int) - 1) = (j : Int) := by unfold wrap64; omega
        rw [rowG_s hi, Bool.and_eq_true] at hr
        obtain ⟨hr, hlt⟩ := hr
        have hlt2 := lotLt_c hlt
        (try simp only [go_sem, hA, e7, hil, hg0, g1, g2, hgj, hlt2, hr]); repeat' (first | (with_reducible refine c_split (fun hb => ?_) (fun hb => ?_) <;> try simp only [go_sem, hb, hA, e7, hil, hg0, g1, g2, hgj, hlt2, hr]) | (with_reducible refine w_split (fun hb => ?_) (fun hb => ?_) <;> try simp only [go_sem, hb, hA, e7, hil, hg0, g1, g2, hgj, hlt2, hr]) | (with_reducible refine tw_split (fun hb => ?_) (fun hb => ?_) <;> try simp only [go_sem, hb, hA, e7, hil, hg0, g1, g2, hgj, hlt2, hr]) | (with_reducible refine draw_at 0 12 (by with_unfolding_all rfl) [(0, false, true), (1, false, true), (2, false, true), (3, false, true), (4, false, true), (5, false, true), (6, false, true), (7, true, true), (8, true, false), (9, true, false), (10, true, true), (11, true, false), (12, false, false), (13, false, false), (14, false, false), (15, false, false), (16, false, false)] (by kernel_rfl) ?_ <;> try simp only [go_sem, hA, e7, hil, hg0, g1, g2, hgj, hlt2, hr]) | (refine call_c (c_lotForm _ _ ?_) <;> try simp only [go_sem, hA, e7, hil, hg0, g1, g2, hgj, hlt2, hr]) | (refine call_c (c_lotBefore _ _ _ ?_) <;> try simp only [go_sem, hA, e7, hil, hg0, g1, g2, hgj, hlt2, hr]) | (fail))
        refine gc_trim 1 (by decide) (by simp only [go_sem]) (by simp only [go_sem]) (hJ _ _ hi (by simp only [go_sem, hA, e7]) ⟨?_, ?_, ?_⟩) <;> try simp only [go_sem, hA, e7, hw]
        exact hall
    | false =>
      rw [lotsOk, okL_no hr hi, Bool.false_and] at hk
      rcases i with _ | j
      · have g0 : decide ((0 : Int) < ((0 : Nat) : Int)) = false := by decide
        rw [rowG_0 hi] at hr
        (try simp only [go_sem, hA, e7, hil, hg0, g0, hr]); repeat' (first | (with_reducible refine c_split (fun hb => ?_) (fun hb => ?_) <;> try simp only [go_sem, hb, hA, e7, hil, hg0, g0, hr]) | (with_reducible refine w_split (fun hb => ?_) (fun hb => ?_) <;> try simp only [go_sem, hb, hA, e7, hil, hg0, g0, hr]) | (with_reducible refine tw_split (fun hb => ?_) (fun hb => ?_) <;> try simp only [go_sem, hb, hA, e7, hil, hg0, g0, hr]) | (with_reducible refine draw_at 0 12 (by with_unfolding_all rfl) [(0, false, true), (1, false, true), (2, false, true), (3, false, true), (4, false, true), (5, false, true), (6, false, true), (7, true, true), (8, true, false), (9, true, false), (10, true, true), (11, true, false), (12, false, false), (13, false, false), (14, false, false), (15, false, false), (16, false, false)] (by kernel_rfl) ?_ <;> try simp only [go_sem, hA, e7, hil, hg0, g0, hr]) | (refine call_c (c_lotForm _ _ ?_) <;> try simp only [go_sem, hA, e7, hil, hg0, g0, hr]) | (refine call_c (c_lotBefore _ _ _ ?_) <;> try simp only [go_sem, hA, e7, hil, hg0, g0, hr]) | (with_reducible refine hQ _ _ ?_ <;> simp only [Tryz.f78, go_sem, hA, e7, hil, hg0, g0, hr]))
        exact hk
      · have hj : j < xs.length := by omega
        have hgj : xs[j]? = some xs[j] := List.getElem?_eq_getElem hj
        have g1 : decide ((0 : Int) < ((j + 1 : Nat) : Int)) = true := decide_eq_true (by omega)
        have g2 : wrap64 (((j + 1 : Nat) : Int) - 1) = (j : Int) := by unfold wrap64; omega
        rw [rowG_s hi] at hr
        cases hp : lotP xs[j + 1] with
        | false =>
          (try simp only [go_sem, hA, e7, hil, hg0, g1, g2, hgj, hp]); repeat' (first | (with_reducible refine c_split (fun hb => ?_) (fun hb => ?_) <;> try simp only [go_sem, hb, hA, e7, hil, hg0, g1, g2, hgj, hp]) | (with_reducible refine w_split (fun hb => ?_) (fun hb => ?_) <;> try simp only [go_sem, hb, hA, e7, hil, hg0, g1, g2, hgj, hp]) | (with_reducible refine tw_split (fun hb => ?_) (fun hb => ?_) <;> try simp only [go_sem, hb, hA, e7, hil, hg0, g1, g2, hgj, hp]) | (with_reducible refine draw_at 0 12 (by with_unfolding_all rfl) [(0, false, true), (1, false, true), (2, false, true), (3, false, true), (4, false, true), (5, false, true), (6, false, true), (7, true, true), (8, true, false), (9, true, false), (10, true, true), (11, true, false), (12, false, false), (13, false, false), (14, false, false), (15, false, false), (16, false, false)] (by kernel_rfl) ?_ <;> try simp only [go_sem, hA, e7, hil, hg0, g1, g2, hgj, hp]) | (refine call_c (c_lotForm _ _ ?_) <;> try simp only [go_sem, hA, e7, hil, hg0, g1, g2, hgj, hp]) | (refine call_c (c_lotBefore _ _ _ ?_) <;> try simp only [go_sem, hA, e7, hil, hg0, g1, g2, hgj, hp]) | (with_reducible refine hQ _ _ ?_ <;> simp only [Tryz.f78, go_sem, hA, e7, hil, hg0, g1, g2, hgj, hp]))
          exact hk
        | true =>
          rw [hp, Bool.true_and, lotCmp_lt] at hr
          have hge : decide (0 ≤ lotCmp xs[j] xs[j + 1]) = true := decide_eq_true (by have := of_decide_eq_false hr; omega)
          (try simp only [go_sem, hA, e7, hil, hg0, g1, g2, hgj, hp, hge]); repeat' (first | (with_reducible refine c_split (fun hb => ?_) (fun hb => ?_) <;> try simp only [go_sem, hb, hA, e7, hil, hg0, g1, g2, hgj, hp, hge]) | (with_reducible refine w_split (fun hb => ?_) (fun hb => ?_) <;> try simp only [go_sem, hb, hA, e7, hil, hg0, g1, g2, hgj, hp, hge]) | (with_reducible refine tw_split (fun hb => ?_) (fun hb => ?_) <;> try simp only [go_sem, hb, hA, e7, hil, hg0, g1, g2, hgj, hp, hge]) | (with_reducible refine draw_at 0 12 (by with_unfolding_all rfl) [(0, false, true), (1, false, true), (2, false, true), (3, false, true), (4, false, true), (5, false, true), (6, false, true), (7, true, true), (8, true, false), (9, true, false), (10, true, true), (11, true, false), (12, false, false), (13, false, false), (14, false, false), (15, false, false), (16, false, false)] (by kernel_rfl) ?_ <;> try simp only [go_sem, hA, e7, hil, hg0, g1, g2, hgj, hp, hge]) | (refine call_c (c_lotForm _ _ ?_) <;> try simp only [go_sem, hA, e7, hil, hg0, g1, g2, hgj, hp, hge]) | (refine call_c (c_lotBefore _ _ _ ?_) <;> try simp only [go_sem, hA, e7, hil, hg0, g1, g2, hgj, hp, hge]) | (with_reducible refine hQ _ _ ?_ <;> simp only [Tryz.f78, go_sem, hA, e7, hil, hg0, g1, g2, hgj, hp, hge]))
          exact hk
def runL (xs : List Lot) : Nat → List Lot
  | 0 => []
  | j + 1 => match xs[j]? with | some y => ownL (xs.take (j + 1)) y.account y.instr | none => []
theorem run_at (xs : List Lot) (i : Nat) (hi : i < xs.length) : runL xs (i + 1) = ownL (xs.take (i + 1)) xs[i].account xs[i].instr := by simp [runL, hi]
theorem own_s (xs : List Lot) (i : Nat) (hi : i < xs.length) (a n : Int) : ownL (xs.take (i + 1)) a n = ownL (xs.take i) a n ++ (if lotIs a n xs[i] = true then [xs[i]] else []) := by
  rw [ownL, ownL, List.take_succ_eq_append_getElem hi, List.filter_append]
  cases h : lotIs a n xs[i] <;> simp [h]
theorem lotIs_self (x : Lot) : lotIs x.account x.instr x = true := by simp [lotIs]
theorem lotIs_iff {a n : Int} {x : Lot} : lotIs a n x = true ↔ x.account = a ∧ x.instr = n := by simp [lotIs]
theorem run_0 (xs : List Lot) (hi : 0 < xs.length) : runL xs 1 = [xs[0]] := by
  rw [run_at xs 0 hi, own_s xs 0 hi, if_pos (lotIs_self _)]; rfl
theorem run_same {xs : List Lot} {j : Nat} (hi : j + 1 < xs.length) (h1 : xs[j + 1].account = xs[j].account) (h2 : xs[j + 1].instr = xs[j].instr) : runL xs (j + 2) = runL xs (j + 1) ++ [xs[j + 1]] := by
  rw [run_at xs (j + 1) hi, run_at xs j (by omega), own_s xs (j + 1) hi, if_pos (lotIs_self _), h1, h2]
theorem lotLt_tr (x y z : Lot) (h1 : lotLt x y = true) (h2 : lotLt y z = true) : lotLt x z = true := by
  rw [lotLt_iff] at *; omega
theorem rows_lt {xs : List Lot} {n : Nat} (h : allTo (rowG lotP lotLt xs) n = true) : ∀ (d i : Nat) (_ : i + d + 1 < n) (hj : i + d + 1 < xs.length), lotLt (xs[i]'(by omega)) xs[i + d + 1] = true := by
  have adj : ∀ j, j + 1 < n → ∀ (hj : j + 1 < xs.length), lotLt xs[j] xs[j + 1] = true := fun j hn hj => by
    have := allTo_at h (j + 1) hn
    rw [rowG_s hj, Bool.and_eq_true] at this; exact this.2
  intro d
  induction d with
  | zero => exact fun i hn hj => adj i hn hj
  | succ d ih => exact fun i hn hj => lotLt_tr _ _ _ (ih i (by omega) (by omega)) (adj (i + d + 1) hn hj)
theorem run_diff {xs : List Lot} {j : Nat} (hi : j + 1 < xs.length) (h : allTo (rowG lotP lotLt xs) (j + 2) = true) (hne : ¬ (xs[j + 1].account = xs[j].account ∧ xs[j + 1].instr = xs[j].instr)) : runL xs (j + 2) = [xs[j + 1]] := by
  rw [run_at xs (j + 1) hi, own_s xs (j + 1) hi, if_pos (lotIs_self _)]
  have : ownL (xs.take (j + 1)) xs[j + 1].account xs[j + 1].instr = [] := by
    rw [ownL, List.filter_eq_nil_iff]
    intro x hx
    obtain ⟨k, hk, rfl⟩ := List.mem_iff_getElem.1 hx
    rw [List.length_take] at hk
    rw [List.getElem_take, lotIs_iff]
    have hlast : lotLt xs[j] xs[j + 1] = true := rows_lt h 0 j (by omega) hi
    rw [lotLt_iff] at hlast
    by_cases e : k = j
    · subst e; intro q; exact hne ⟨q.1.symm, q.2.symm⟩
    · obtain ⟨d, hd⟩ : ∃ d, j = k + d + 1 := ⟨j - k - 1, by omega⟩
      have h2 := rows_lt h d k (by omega) (by omega)
      rw [lotLt_iff] at h2
      simp only [← hd] at h2
      omega
  rw [this]; rfl
theorem sumQ_app (xs : List Lot) (x : Lot) : sumQ (xs ++ [x]) = sumQ xs + x.qty ∧ sumC (xs ++ [x]) = sumC xs + x.cost := by
  constructor
  · rw [sumQ, sumQ, List.map_append, List.sum_append]; simp
  · rw [sumC, sumC, List.map_append, List.sum_append]; simp
theorem run_mem {xs : List Lot} {i : Nat} {x : Lot} (hx : x ∈ runL xs i) : x ∈ xs.take i := by
  cases i with
  | zero => simp [runL] at hx
  | succ j =>
    simp only [runL] at hx
    split at hx
    · exact (List.mem_filter.1 hx).1
    · simp at hx
theorem run_len (xs : List Lot) (i : Nat) : (runL xs i).length ≤ i := by
  cases i with
  | zero => exact Nat.le_refl _
  | succ j =>
    simp only [runL]
    split
    · exact Nat.le_trans (List.length_filter_le _ _) (by rw [List.length_take]; omega)
    · exact Nat.zero_le _
theorem run_w {xs : List Lot} {i : Nat} (h : allTo (rowG lotP lotLt xs) i = true) (hi : i < xs.length) (hl : xs.length ≤ 120) (hx : lotP xs[i] = true) : wrap64 (sumQ (runL xs i) + xs[i].qty) = sumQ (runL xs i) + xs[i].qty ∧ wrap64 (sumC (runL xs i) + xs[i].cost) = sumC (runL xs i) + xs[i].cost ∧ wrap64 (0 + xs[i].qty) = xs[i].qty ∧ wrap64 (0 + xs[i].cost) = xs[i].cost := by
  have h1 := sums_le (runL xs i) (fun x hx => lotP_fine (rows_fine h (by omega) x (run_mem hx)))
  have h2 := lotP_fine hx
  have h3 := run_len xs i
  refine ⟨wrap_id _ (by omega) (by omega), wrap_id _ (by omega) (by omega), ?_, ?_⟩
  · rw [Int.zero_add]; exact wrap_id _ (by omega) (by omega)
  · rw [Int.zero_add]; exact wrap_id _ (by omega) (by omega)
def grpOk (xs : List Lot) (i : Nat) : Prop := ∀ j (hj : j < xs.length), j < i → amtOk (sumQ (ownL (xs.take i) xs[j].account xs[j].instr)) = true ∧ amtOk (sumC (ownL (xs.take i) xs[j].account xs[j].instr)) = true
theorem grp_s {xs : List Lot} {i : Nat} (hi : i < xs.length) (h : grpOk xs i) (h1 : amtOk (sumQ (runL xs (i + 1))) = true) (h2 : amtOk (sumC (runL xs (i + 1))) = true) : grpOk xs (i + 1) := by
  intro j hj hji
  by_cases e : lotIs xs[j].account xs[j].instr xs[i] = true
  · have := lotIs_iff.1 e
    rw [run_at xs i hi, this.1, this.2] at h1 h2
    exact ⟨h1, h2⟩
  · have hne : j ≠ i := fun q => by subst q; exact e (lotIs_self _)
    rw [own_s xs i hi, if_neg e, List.append_nil]
    exact h j hj (by omega)
theorem sums_sub {xs ys : List Lot} (hs : List.Sublist xs ys) (hf : ∀ x ∈ ys, (0 ≤ x.qty ∧ x.qty ≤ 1000000000000000) ∧ 0 ≤ x.cost ∧ x.cost ≤ 1000000000000000) : sumQ xs ≤ sumQ ys ∧ sumC xs ≤ sumC ys := by
  induction hs with
  | slnil => exact ⟨Int.le_refl _, Int.le_refl _⟩
  | cons a _ ih =>
    have h1 := ih (fun x hx => hf x (List.mem_cons_of_mem _ hx))
    have h2 := hf a (List.mem_cons_self ..)
    simp only [sumQ, sumC, List.map_cons, List.sum_cons] at *
    omega
  | cons_cons a _ ih =>
    have h1 := ih (fun x hx => hf x (List.mem_cons_of_mem _ hx))
    simp only [sumQ, sumC, List.map_cons, List.sum_cons] at *
    omega
theorem lots_bad {xs : List Lot} {i : Nat} (hi : i < xs.length) (h : ¬ (amtOk (sumQ (runL xs (i + 1))) = true ∧ amtOk (sumC (runL xs (i + 1))) = true)) : lotsOk xs = false := by
  cases hok : okL lotP lotLt 120 xs with
  | false => rw [lotsOk, hok, Bool.false_and]
  | true =>
    have hf := okL_fine hok
    have hb : badLot xs xs[i] = true := by
      rw [run_at xs i hi] at h
      have hsub : List.Sublist (ownL (xs.take (i + 1)) xs[i].account xs[i].instr) (ownL xs xs[i].account xs[i].instr) := (List.take_sublist _ _).filter _
      have h1 := sums_sub hsub (fun x hx => hf.1 x (List.mem_filter.1 hx).1)
      have h2 := sums_le (ownL (xs.take (i + 1)) xs[i].account xs[i].instr) (fun x hx => hf.1 x (List.mem_of_mem_take (List.mem_filter.1 hx).1))
      cases hbb : badLot xs xs[i] with
      | true => rfl
      | false =>
        exfalso
        apply h
        simp only [badLot, Bool.or_eq_false_iff, Bool.not_eq_false'] at hbb
        have a1 : _ ∧ _ := of_decide_eq_true hbb.1
        have a2 : _ ∧ _ := of_decide_eq_true hbb.2
        exact ⟨decide_eq_true (by omega), decide_eq_true (by omega)⟩
    rw [lotsOk, decide_eq_true (findG_hit (List.getElem_mem hi) hb)]; simp
theorem lots_good {xs : List Lot} (h1 : okL lotP lotLt 120 xs = true) (h : grpOk xs xs.length) : lotsOk xs = true := by
  have : findG (badLot xs) xs = -1 := findG_none fun j hj => by
    have := h j hj hj
    rw [List.take_length] at this
    rw [badLot, this.1, this.2]; rfl
  rw [lotsOk, h1, this]; rfl
theorem c_spec_LotsOk (xs : List Lot) (hn : xs.length ≤ 1000000000) (K : AV → AH → Prop) (hk : K (.one (.c (.bool (lotsOk xs)))) []) : ACalls Tryz.prog 66 [(.one (.im (xs.map lotC)))] [] K := by
  refine acall_c Tryz.f66.results.toList mixed Tryz.func66 rfl rfl (by kernel_rfl) ?_
  intro Q hQ hQO
  simp only [go_sem]
  (try simp only [go_sem]); repeat' (first | (with_reducible refine c_split (fun hb => ?_) (fun hb => ?_) <;> try simp only [go_sem, hb]) | (with_reducible refine w_split (fun hb => ?_) (fun hb => ?_) <;> try simp only [go_sem, hb]) | (with_reducible refine tw_split (fun hb => ?_) (fun hb => ?_) <;> try simp only [go_sem, hb]) | (with_reducible refine draw_at 0 20 (by with_unfolding_all rfl) [(0, false, true), (1, false, true), (2, false, true), (3, false, true), (4, false, true), (5, false, true), (6, false, true), (7, true, true), (8, true, true), (9, true, true), (10, true, true), (11, true, true), (12, false, false), (13, false, true), (14, false, true), (15, false, true), (16, false, true)] (by kernel_rfl) ?_ <;> try simp only [go_sem]) | (with_reducible refine draw_at 0 37 (by with_unfolding_all rfl) [(0, false, true), (1, false, true), (2, false, true), (3, true, true), (4, true, true), (5, true, false), (6, false, false), (7, false, false), (8, false, false), (9, false, false), (10, false, false), (11, false, true), (12, false, true), (13, false, true), (14, true, true), (15, true, true), (16, true, false), (17, false, false), (18, false, false), (19, false, false), (20, false, false), (21, false, false), (22, false, false), (23, false, false)] (by kernel_rfl) ?_ <;> try simp only [go_sem]) | (fail))
  · rw [lotsOk, okL_long (of_decide_eq_true hb), Bool.false_and] at hk
    (try simp only [go_sem]); repeat' (first | (with_reducible refine c_split (fun hb => ?_) (fun hb => ?_) <;> try simp only [go_sem, hb]) | (with_reducible refine w_split (fun hb => ?_) (fun hb => ?_) <;> try simp only [go_sem, hb]) | (with_reducible refine tw_split (fun hb => ?_) (fun hb => ?_) <;> try simp only [go_sem, hb]) | (with_reducible refine draw_at 0 20 (by with_unfolding_all rfl) [(0, false, true), (1, false, true), (2, false, true), (3, false, true), (4, false, true), (5, false, true), (6, false, true), (7, true, true), (8, true, true), (9, true, true), (10, true, true), (11, true, true), (12, false, false), (13, false, true), (14, false, true), (15, false, true), (16, false, true)] (by kernel_rfl) ?_ <;> try simp only [go_sem]) | (with_reducible refine draw_at 0 37 (by with_unfolding_all rfl) [(0, false, true), (1, false, true), (2, false, true), (3, true, true), (4, true, true), (5, true, false), (6, false, false), (7, false, false), (8, false, false), (9, false, false), (10, false, false), (11, false, true), (12, false, true), (13, false, true), (14, true, true), (15, true, true), (16, true, false), (17, false, false), (18, false, false), (19, false, false), (20, false, false), (21, false, false), (22, false, false), (23, false, false)] (by kernel_rfl) ?_ <;> try simp only [go_sem]) | (with_reducible refine hQ _ _ ?_ <;> simp only [Tryz.f66, go_sem]))
    exact hk
  · have hlen : xs.length ≤ 120 := by have := of_decide_eq_false hb; omega
    refine for_at (xs.length) [0] (fun i f h => f 3 = (.one (.c (.int .i64 (sumQ (runL xs i))))) ∧ f 4 = (.one (.c (.int .i64 (sumC (runL xs i))))) ∧ f 5 = (.one (.c (.int .i64 (i)))) ∧ h = [] ∧ allTo (rowG lotP lotLt xs) i = true ∧ grpOk xs i) (GC.now ?_) ?_
    · simp only [go_sem, nc_0, true_and]
      exact ⟨rfl, rfl, rfl, fun j hj q => absurd q (Nat.not_lt_zero j)⟩
    · rintro i f h J hi hA ⟨e3, e4, e5, rfl, hP⟩ hJ
      simp only [go_sem] at hA
      simp only [go_sem, hA, e3, e4, e5]
      refine c_split (fun hb => ?_) (fun hb => ?_)
      rotate_left
      · simp only [go_sem, hb, hA, e3, e4, e5]
        obtain rfl := ge_len hb hi
        rw [lots_good (by rw [okL, hP.1, decide_eq_true (by omega)]; rfl) hP.2] at hk
        (try simp only [go_sem, hA, e3, e4, e5]); repeat' (first | (with_reducible refine c_split (fun hb => ?_) (fun hb => ?_) <;> try simp only [go_sem, hb, hA, e3, e4, e5]) | (with_reducible refine w_split (fun hb => ?_) (fun hb => ?_) <;> try simp only [go_sem, hb, hA, e3, e4, e5]) | (with_reducible refine tw_split (fun hb => ?_) (fun hb => ?_) <;> try simp only [go_sem, hb, hA, e3, e4, e5]) | (with_reducible refine draw_at 0 20 (by with_unfolding_all rfl) [(0, false, true), (1, false, true), (2, false, true), (3, false, true), (4, false, true), (5, false, true), (6, false, true), (7, true, true), (8, true, true), (9, true, true), (10, true, true), (11, true, true), (12, false, false), (13, false, true), (14, false, true), (15, false, true), (16, false, true)] (by kernel_rfl) ?_ <;> try simp only [go_sem, hA, e3, e4, e5]) | (with_reducible refine draw_at 0 37 (by with_unfolding_all rfl) [(0, false, true), (1, false, true), (2, false, true), (3, true, true), (4, true, true), (5, true, false), (6, false, false), (7, false, false), (8, false, false), (9, false, false), (10, false, false), (11, false, true), (12, false, true), (13, false, true), (14, true, true), (15, true, true), (16, true, false), (17, false, false), (18, false, false), (19, false, false), (20, false, false), (21, false, false), (22, false, false), (23, false, false)] (by kernel_rfl) ?_ <;> try simp only [go_sem, hA, e3, e4, e5]) | (with_reducible refine hQ _ _ ?_ <;> simp only [Tryz.f66, go_sem, hA, e3, e4, e5]))
        exact hk
      have hi := lt_len hb
      have hw := wrap_nat i (by omega)
      have hil : (i : Int) < ((xs.length : Nat) : Int) := Int.ofNat_lt.2 hi
      have hg0 : (xs)[i]? = some ((xs)[i]) := List.getElem?_eq_getElem (by omega)
      simp only [go_sem, hb, hA, e3, e4, e5, hg0]
      try simp only [go_sem, hA, e3, e4, e5, hil, hg0]
      cases hr : rowG lotP lotLt xs i with
      | true =>
        have hall := allTo_s hP.1 hr
        have bad : ¬ (amtOk (sumQ (runL xs (i + 1))) = true ∧ amtOk (sumC (runL xs (i + 1))) = true) → K (.one (.c (.bool (false)))) [] := fun h => by rw [lots_bad hi h] at hk; exact hk
        rcases i with _ | j
        · have g0 : decide ((0 : Int) < 0) = false := by decide
          have z0 : ((0 : Nat) : Int) = 0 := rfl
          rw [rowG_0 hi] at hr
          obtain ⟨-, -, w3, w4⟩ := run_w (i := 0) rfl hi hlen hr
          have e1 : sumQ (runL xs 1) = xs[0].qty := by rw [run_0 xs hi]; simp [sumQ]
          have e2 : sumC (runL xs 1) = xs[0].cost := by rw [run_0 xs hi]; simp [sumC]
          (try simp only [go_sem, hA, e3, e4, e5, hil, hg0, g0, z0, hr, w3, w4, BEq.rfl]); repeat' (first | (with_reducible refine c_split (fun hb => ?_) (fun hb => ?_) <;> try simp only [go_sem, hb, hA, e3, e4, e5, hil, hg0, g0, z0, hr, w3, w4, BEq.rfl]) | (with_reducible refine w_split (fun hb => ?_) (fun hb => ?_) <;> try simp only [go_sem, hb, hA, e3, e4, e5, hil, hg0, g0, z0, hr, w3, w4, BEq.rfl]) | (with_reducible refine tw_split (fun hb => ?_) (fun hb => ?_) <;> try simp only [go_sem, hb, hA, e3, e4, e5, hil, hg0, g0, z0, hr, w3, w4, BEq.rfl]) | (with_reducible refine draw_at 0 20 (by with_unfolding_all rfl) [(0, false, true), (1, false, true), (2, false, true), (3, false, true), (4, false, true), (5, false, true), (6, false, true), (7, true, true), (8, true, true), (9, true, true), (10, true, true), (11, true, true), (12, false, false), (13, false, true), (14, false, true), (15, false, true), (16, false, true)] (by kernel_rfl) ?_ <;> try simp only [go_sem, hA, e3, e4, e5, hil, hg0, g0, z0, hr, w3, w4, BEq.rfl]) | (with_reducible refine draw_at 0 37 (by with_unfolding_all rfl) [(0, false, true), (1, false, true), (2, false, true), (3, true, true), (4, true, true), (5, true, false), (6, false, false), (7, false, false), (8, false, false), (9, false, false), (10, false, false), (11, false, true), (12, false, true), (13, false, true), (14, true, true), (15, true, true), (16, true, false), (17, false, false), (18, false, false), (19, false, false), (20, false, false), (21, false, false), (22, false, false), (23, false, false)] (by kernel_rfl) ?_ <;> try simp only [go_sem, hA, e3, e4, e5, hil, hg0, g0, z0, hr, w3, w4, BEq.rfl]) | (refine call_c (c_l5Right _ _ ?_) <;> try simp only [go_sem, hA, e3, e4, e5, hil, hg0, g0, z0, hr, w3, w4, BEq.rfl]) | (refine call_c (c_l5Before _ _ _ ?_) <;> try simp only [go_sem, hA, e3, e4, e5, hil, hg0, g0, z0, hr, w3, w4, BEq.rfl]) | (refine call_c (c_spec_AmountOk _ _ ?_) <;> try simp only [go_sem, hA, e3, e4, e5, hil, hg0, g0, z0, hr, w3, w4, BEq.rfl]) | (with_reducible refine hQ _ _ ?_ <;> simp only [Tryz.f66, go_sem, hA, e3, e4, e5, hil, hg0, g0, z0, hr, w3, w4, BEq.rfl]))
          · exact bad fun q => by rw [e1] at q; rw [q.1] at hb; cases hb
          · rename_i hb1
            exact bad fun q => by rw [e2] at q; rw [q.2] at hb; cases hb
          · rename_i hb1
            have q1 : amtOk (sumQ (runL xs (1))) = true := by rw [e1]; simpa using hb1
            have q2 : amtOk (sumC (runL xs (1))) = true := by rw [e2]; simpa using hb
            refine gc_trim 0 (by decide) (by simp only [go_sem]) (by simp only [go_sem]) (hJ _ _ hi (by simp only [go_sem, hA, e3, e4, e5]) ⟨?_, ?_, ?_, ?_, ?_⟩) <;> try simp only [go_sem, hA, e3, e4, e5, hw, e1, e2]
            all_goals first | exact ⟨hall, grp_s hi hP.2 q1 q2⟩ | rfl | rw [show wrap64 (0 + 1) = ((1 : Nat) : Int) by unfold wrap64; omega]
        · have hj : j < xs.length := by omega
          have hgj : xs[j]? = some xs[j] := List.getElem?_eq_getElem hj
          have g1 : decide ((0 : Int) < ((j + 1 : Nat) : Int)) = true := decide_eq_true (by omega)
          have g2 : wrap64 (((j + 1 : Nat) : Int) - 1) = (j : Int) := by unfold wrap64; omega
          have g3 : (((j + 1 : Nat) : Int) == 0) = false := beq_false_of_ne (by omega)
          have hr2 := hr
          rw [rowG_s hi, Bool.and_eq_true] at hr2
          obtain ⟨hp, hlt⟩ := hr2
          obtain ⟨w1, w2, w3, w4⟩ := run_w hP.1 hi hlen hp
          by_cases ha : xs[j + 1].account = xs[j].account
          · by_cases hb0 : xs[j + 1].instr = xs[j].instr
            · have k1 : (xs[j + 1].account == xs[j].account) = true := beq_iff_eq.2 ha
              have k2 : (xs[j + 1].instr == xs[j].instr) = true := beq_iff_eq.2 hb0
              have e1 : sumQ (runL xs (j + 1 + 1)) = sumQ (runL xs (j + 1)) + xs[j + 1].qty := by rw [run_same hi ha hb0, (sumQ_app _ _).1]
              have e2 : sumC (runL xs (j + 1 + 1)) = sumC (runL xs (j + 1)) + xs[j + 1].cost := by rw [run_same hi ha hb0, (sumQ_app _ _).2]
              (try simp only [go_sem, hA, e3, e4, e5, hil, hg0, g1, g2, g3, hgj, hp, hlt, k1, k2, w1, w2]); repeat' (first | (with_reducible refine c_split (fun hb => ?_) (fun hb => ?_) <;> try simp only [go_sem, hb, hA, e3, e4, e5, hil, hg0, g1, g2, g3, hgj, hp, hlt, k1, k2, w1, w2]) | (with_reducible refine w_split (fun hb => ?_) (fun hb => ?_) <;> try simp only [go_sem, hb, hA, e3, e4, e5, hil, hg0, g1, g2, g3, hgj, hp, hlt, k1, k2, w1, w2]) | (with_reducible refine tw_split (fun hb => ?_) (fun hb => ?_) <;> try simp only [go_sem, hb, hA, e3, e4, e5, hil, hg0, g1, g2, g3, hgj, hp, hlt, k1, k2, w1, w2]) | (with_reducible refine draw_at 0 20 (by with_unfolding_all rfl) [(0, false, true), (1, false, true), (2, false, true), (3, false, true), (4, false, true), (5, false, true), (6, false, true), (7, true, true), (8, true, true), (9, true, true), (10, true, true), (11, true, true), (12, false, false), (13, false, true), (14, false, true), (15, false, true), (16, false, true)] (by kernel_rfl) ?_ <;> try simp only [go_sem, hA, e3, e4, e5, hil, hg0, g1, g2, g3, hgj, hp, hlt, k1, k2, w1, w2]) | (with_reducible refine draw_at 0 37 (by with_unfolding_all rfl) [(0, false, true), (1, false, true), (2, false, true), (3, true, true), (4, true, true), (5, true, false), (6, false, false), (7, false, false), (8, false, false), (9, false, false), (10, false, false), (11, false, true), (12, false, true), (13, false, true), (14, true, true), (15, true, true), (16, true, false), (17, false, false), (18, false, false), (19, false, false), (20, false, false), (21, false, false), (22, false, false), (23, false, false)] (by kernel_rfl) ?_ <;> try simp only [go_sem, hA, e3, e4, e5, hil, hg0, g1, g2, g3, hgj, hp, hlt, k1, k2, w1, w2]) | (refine call_c (c_l5Right _ _ ?_) <;> try simp only [go_sem, hA, e3, e4, e5, hil, hg0, g1, g2, g3, hgj, hp, hlt, k1, k2, w1, w2]) | (refine call_c (c_l5Before _ _ _ ?_) <;> try simp only [go_sem, hA, e3, e4, e5, hil, hg0, g1, g2, g3, hgj, hp, hlt, k1, k2, w1, w2]) | (refine call_c (c_spec_AmountOk _ _ ?_) <;> try simp only [go_sem, hA, e3, e4, e5, hil, hg0, g1, g2, g3, hgj, hp, hlt, k1, k2, w1, w2]) | (with_reducible refine hQ _ _ ?_ <;> simp only [Tryz.f66, go_sem, hA, e3, e4, e5, hil, hg0, g1, g2, g3, hgj, hp, hlt, k1, k2, w1, w2]))
              · exact bad fun q => by rw [e1] at q; rw [q.1] at hb; cases hb
              · rename_i hb1
                exact bad fun q => by rw [e2] at q; rw [q.2] at hb; cases hb
              · rename_i hb1
                have q1 : amtOk (sumQ (runL xs (j + 1 + 1))) = true := by rw [e1]; simpa using hb1
                have q2 : amtOk (sumC (runL xs (j + 1 + 1))) = true := by rw [e2]; simpa using hb
                refine gc_trim 0 (by decide) (by simp only [go_sem]) (by simp only [go_sem]) (hJ _ _ hi (by simp only [go_sem, hA, e3, e4, e5]) ⟨?_, ?_, ?_, ?_, ?_⟩) <;> try simp only [go_sem, hA, e3, e4, e5, hw, e1, e2]
                exact ⟨hall, grp_s hi hP.2 q1 q2⟩
            · have k1 : (xs[j + 1].account == xs[j].account) = true := beq_iff_eq.2 ha
              have k2 : (xs[j + 1].instr == xs[j].instr) = false := beq_false_of_ne hb0
              have e1 : sumQ (runL xs (j + 1 + 1)) = xs[j + 1].qty := by rw [run_diff hi hall (fun q => hb0 q.2)]; simp [sumQ]
              have e2 : sumC (runL xs (j + 1 + 1)) = xs[j + 1].cost := by rw [run_diff hi hall (fun q => hb0 q.2)]; simp [sumC]
              (try simp only [go_sem, hA, e3, e4, e5, hil, hg0, g1, g2, g3, hgj, hp, hlt, k1, k2, w3, w4]); repeat' (first | (with_reducible refine c_split (fun hb => ?_) (fun hb => ?_) <;> try simp only [go_sem, hb, hA, e3, e4, e5, hil, hg0, g1, g2, g3, hgj, hp, hlt, k1, k2, w3, w4]) | (with_reducible refine w_split (fun hb => ?_) (fun hb => ?_) <;> try simp only [go_sem, hb, hA, e3, e4, e5, hil, hg0, g1, g2, g3, hgj, hp, hlt, k1, k2, w3, w4]) | (with_reducible refine tw_split (fun hb => ?_) (fun hb => ?_) <;> try simp only [go_sem, hb, hA, e3, e4, e5, hil, hg0, g1, g2, g3, hgj, hp, hlt, k1, k2, w3, w4]) | (with_reducible refine draw_at 0 20 (by with_unfolding_all rfl) [(0, false, true), (1, false, true), (2, false, true), (3, false, true), (4, false, true), (5, false, true), (6, false, true), (7, true, true), (8, true, true), (9, true, true), (10, true, true), (11, true, true), (12, false, false), (13, false, true), (14, false, true), (15, false, true), (16, false, true)] (by kernel_rfl) ?_ <;> try simp only [go_sem, hA, e3, e4, e5, hil, hg0, g1, g2, g3, hgj, hp, hlt, k1, k2, w3, w4]) | (with_reducible refine draw_at 0 37 (by with_unfolding_all rfl) [(0, false, true), (1, false, true), (2, false, true), (3, true, true), (4, true, true), (5, true, false), (6, false, false), (7, false, false), (8, false, false), (9, false, false), (10, false, false), (11, false, true), (12, false, true), (13, false, true), (14, true, true), (15, true, true), (16, true, false), (17, false, false), (18, false, false), (19, false, false), (20, false, false), (21, false, false), (22, false, false), (23, false, false)] (by kernel_rfl) ?_ <;> try simp only [go_sem, hA, e3, e4, e5, hil, hg0, g1, g2, g3, hgj, hp, hlt, k1, k2, w3, w4]) | (refine call_c (c_l5Right _ _ ?_) <;> try simp only [go_sem, hA, e3, e4, e5, hil, hg0, g1, g2, g3, hgj, hp, hlt, k1, k2, w3, w4]) | (refine call_c (c_l5Before _ _ _ ?_) <;> try simp only [go_sem, hA, e3, e4, e5, hil, hg0, g1, g2, g3, hgj, hp, hlt, k1, k2, w3, w4]) | (refine call_c (c_spec_AmountOk _ _ ?_) <;> try simp only [go_sem, hA, e3, e4, e5, hil, hg0, g1, g2, g3, hgj, hp, hlt, k1, k2, w3, w4]) | (with_reducible refine hQ _ _ ?_ <;> simp only [Tryz.f66, go_sem, hA, e3, e4, e5, hil, hg0, g1, g2, g3, hgj, hp, hlt, k1, k2, w3, w4]))
              · exact bad fun q => by rw [e1] at q; rw [q.1] at hb; cases hb
              · rename_i hb1
                exact bad fun q => by rw [e2] at q; rw [q.2] at hb; cases hb
              · rename_i hb1
                have q1 : amtOk (sumQ (runL xs (j + 1 + 1))) = true := by rw [e1]; simpa using hb1
                have q2 : amtOk (sumC (runL xs (j + 1 + 1))) = true := by rw [e2]; simpa using hb
                refine gc_trim 0 (by decide) (by simp only [go_sem]) (by simp only [go_sem]) (hJ _ _ hi (by simp only [go_sem, hA, e3, e4, e5]) ⟨?_, ?_, ?_, ?_, ?_⟩) <;> try simp only [go_sem, hA, e3, e4, e5, hw, e1, e2]
                exact ⟨hall, grp_s hi hP.2 q1 q2⟩
          · have k1 : (xs[j + 1].account == xs[j].account) = false := beq_false_of_ne ha
            have e1 : sumQ (runL xs (j + 1 + 1)) = xs[j + 1].qty := by rw [run_diff hi hall (fun q => ha q.1)]; simp [sumQ]
            have e2 : sumC (runL xs (j + 1 + 1)) = xs[j + 1].cost := by rw [run_diff hi hall (fun q => ha q.1)]; simp [sumC]
            (try simp only [go_sem, hA, e3, e4, e5, hil, hg0, g1, g2, g3, hgj, hp, hlt, k1, w3, w4]); repeat' (first | (with_reducible refine c_split (fun hb => ?_) (fun hb => ?_) <;> try simp only [go_sem, hb, hA, e3, e4, e5, hil, hg0, g1, g2, g3, hgj, hp, hlt, k1, w3, w4]) | (with_reducible refine w_split (fun hb => ?_) (fun hb => ?_) <;> try simp only [go_sem, hb, hA, e3, e4, e5, hil, hg0, g1, g2, g3, hgj, hp, hlt, k1, w3, w4]) | (with_reducible refine tw_split (fun hb => ?_) (fun hb => ?_) <;> try simp only [go_sem, hb, hA, e3, e4, e5, hil, hg0, g1, g2, g3, hgj, hp, hlt, k1, w3, w4]) | (with_reducible refine draw_at 0 20 (by with_unfolding_all rfl) [(0, false, true), (1, false, true), (2, false, true), (3, false, true), (4, false, true), (5, false, true), (6, false, true), (7, true, true), (8, true, true), (9, true, true), (10, true, true), (11, true, true), (12, false, false), (13, false, true), (14, false, true), (15, false, true), (16, false, true)] (by kernel_rfl) ?_ <;> try simp only [go_sem, hA, e3, e4, e5, hil, hg0, g1, g2, g3, hgj, hp, hlt, k1, w3, w4]) | (with_reducible refine draw_at 0 37 (by with_unfolding_all rfl) [(0, false, true), (1, false, true), (2, false, true), (3, true, true), (4, true, true), (5, true, false), (6, false, false), (7, false, false), (8, false, false), (9, false, false), (10, false, false), (11, false, true), (12, false, true), (13, false, true), (14, true, true), (15, true, true), (16, true, false), (17, false, false), (18, false, false), (19, false, false), (20, false, false), (21, false, false), (22, false, false), (23, false, false)] (by kernel_rfl) ?_ <;> try simp only [go_sem, hA, e3, e4, e5, hil, hg0, g1, g2, g3, hgj, hp, hlt, k1, w3, w4]) | (refine call_c (c_l5Right _ _ ?_) <;> try simp only [go_sem, hA, e3, e4, e5, hil, hg0, g1, g2, g3, hgj, hp, hlt, k1, w3, w4]) | (refine call_c (c_l5Before _ _ _ ?_) <;> try simp only [go_sem, hA, e3, e4, e5, hil, hg0, g1, g2, g3, hgj, hp, hlt, k1, w3, w4]) | (refine call_c (c_spec_AmountOk _ _ ?_) <;> try simp only [go_sem, hA, e3, e4, e5, hil, hg0, g1, g2, g3, hgj, hp, hlt, k1, w3, w4]) | (with_reducible refine hQ _ _ ?_ <;> simp only [Tryz.f66, go_sem, hA, e3, e4, e5, hil, hg0, g1, g2, g3, hgj, hp, hlt, k1, w3, w4]))
            · exact bad fun q => by rw [e1] at q; rw [q.1] at hb; cases hb
            · rename_i hb1
              exact bad fun q => by rw [e2] at q; rw [q.2] at hb; cases hb
            · rename_i hb1
              have q1 : amtOk (sumQ (runL xs (j + 1 + 1))) = true := by rw [e1]; simpa using hb1
              have q2 : amtOk (sumC (runL xs (j + 1 + 1))) = true := by rw [e2]; simpa using hb
              refine gc_trim 0 (by decide) (by simp only [go_sem]) (by simp only [go_sem]) (hJ _ _ hi (by simp only [go_sem, hA, e3, e4, e5]) ⟨?_, ?_, ?_, ?_, ?_⟩) <;> try simp only [go_sem, hA, e3, e4, e5, hw, e1, e2]
              exact ⟨hall, grp_s hi hP.2 q1 q2⟩
      | false =>
        rw [lotsOk, okL_no hr hi, Bool.false_and] at hk
        rcases i with _ | j
        · have g0 : decide ((0 : Int) < ((0 : Nat) : Int)) = false := by decide
          rw [rowG_0 hi] at hr
          (try simp only [go_sem, hA, e3, e4, e5, hil, hg0, g0, hr]); repeat' (first | (with_reducible refine c_split (fun hb => ?_) (fun hb => ?_) <;> try simp only [go_sem, hb, hA, e3, e4, e5, hil, hg0, g0, hr]) | (with_reducible refine w_split (fun hb => ?_) (fun hb => ?_) <;> try simp only [go_sem, hb, hA, e3, e4, e5, hil, hg0, g0, hr]) | (with_reducible refine tw_split (fun hb => ?_) (fun hb => ?_) <;> try simp only [go_sem, hb, hA, e3, e4, e5, hil, hg0, g0, hr]) | (with_reducible refine draw_at 0 20 (by with_unfolding_all rfl) [(0, false, true), (1, false, true), (2, false, true), (3, false, true), (4, false, true), (5, false, true), (6, false, true), (7, true, true), (8, true, true), (9, true, true), (10, true, true), (11, true, true), (12, false, false), (13, false, true), (14, false, true), (15, false, true), (16, false, true)] (by kernel_rfl) ?_ <;> try simp only [go_sem, hA, e3, e4, e5, hil, hg0, g0, hr]) | (with_reducible refine draw_at 0 37 (by with_unfolding_all rfl) [(0, false, true), (1, false, true), (2, false, true), (3, true, true), (4, true, true), (5, true, false), (6, false, false), (7, false, false), (8, false, false), (9, false, false), (10, false, false), (11, false, true), (12, false, true), (13, false, true), (14, true, true), (15, true, true), (16, true, false), (17, false, false), (18, false, false), (19, false, false), (20, false, false), (21, false, false), (22, false, false), (23, false, false)] (by kernel_rfl) ?_ <;> try simp only [go_sem, hA, e3, e4, e5, hil, hg0, g0, hr]) | (refine call_c (c_l5Right _ _ ?_) <;> try simp only [go_sem, hA, e3, e4, e5, hil, hg0, g0, hr]) | (refine call_c (c_l5Before _ _ _ ?_) <;> try simp only [go_sem, hA, e3, e4, e5, hil, hg0, g0, hr]) | (with_reducible refine hQ _ _ ?_ <;> simp only [Tryz.f66, go_sem, hA, e3, e4, e5, hil, hg0, g0, hr]))
          exact hk
        · have hj : j < xs.length := by omega
          have hgj : xs[j]? = some xs[j] := List.getElem?_eq_getElem hj
          have g1 : decide ((0 : Int) < ((j + 1 : Nat) : Int)) = true := decide_eq_true (by omega)
          have g2 : wrap64 (((j + 1 : Nat) : Int) - 1) = (j : Int) := by unfold wrap64; omega
          rw [rowG_s hi] at hr
          cases hp : lotP xs[j + 1] with
          | false =>
            (try simp only [go_sem, hA, e3, e4, e5, hil, hg0, g1, g2, hgj, hp]); repeat' (first | (with_reducible refine c_split (fun hb => ?_) (fun hb => ?_) <;> try simp only [go_sem, hb, hA, e3, e4, e5, hil, hg0, g1, g2, hgj, hp]) | (with_reducible refine w_split (fun hb => ?_) (fun hb => ?_) <;> try simp only [go_sem, hb, hA, e3, e4, e5, hil, hg0, g1, g2, hgj, hp]) | (with_reducible refine tw_split (fun hb => ?_) (fun hb => ?_) <;> try simp only [go_sem, hb, hA, e3, e4, e5, hil, hg0, g1, g2, hgj, hp]) | (with_reducible refine draw_at 0 20 (by with_unfolding_all rfl) [(0, false, true), (1, false, true), (2, false, true), (3, false, true), (4, false, true), (5, false, true), (6, false, true), (7, true, true), (8, true, true), (9, true, true), (10, true, true), (11, true, true), (12, false, false), (13, false, true), (14, false, true), (15, false, true), (16, false, true)] (by kernel_rfl) ?_ <;> try simp only [go_sem, hA, e3, e4, e5, hil, hg0, g1, g2, hgj, hp]) | (with_reducible refine draw_at 0 37 (by with_unfolding_all rfl) [(0, false, true), (1, false, true), (2, false, true), (3, true, true), (4, true, true), (5, true, false), (6, false, false), (7, false, false), (8, false, false), (9, false, false), (10, false, false), (11, false, true), (12, false, true), (13, false, true), (14, true, true), (15, true, true), (16, true, false), (17, false, false), (18, false, false), (19, false, false), (20, false, false), (21, false, false), (22, false, false), (23, false, false)] (by kernel_rfl) ?_ <;> try simp only [go_sem, hA, e3, e4, e5, hil, hg0, g1, g2, hgj, hp]) | (refine call_c (c_l5Right _ _ ?_) <;> try simp only [go_sem, hA, e3, e4, e5, hil, hg0, g1, g2, hgj, hp]) | (refine call_c (c_l5Before _ _ _ ?_) <;> try simp only [go_sem, hA, e3, e4, e5, hil, hg0, g1, g2, hgj, hp]) | (with_reducible refine hQ _ _ ?_ <;> simp only [Tryz.f66, go_sem, hA, e3, e4, e5, hil, hg0, g1, g2, hgj, hp]))
            exact hk
          | true =>
            rw [hp, Bool.true_and] at hr
            (try simp only [go_sem, hA, e3, e4, e5, hil, hg0, g1, g2, hgj, hp, hr]); repeat' (first | (with_reducible refine c_split (fun hb => ?_) (fun hb => ?_) <;> try simp only [go_sem, hb, hA, e3, e4, e5, hil, hg0, g1, g2, hgj, hp, hr]) | (with_reducible refine w_split (fun hb => ?_) (fun hb => ?_) <;> try simp only [go_sem, hb, hA, e3, e4, e5, hil, hg0, g1, g2, hgj, hp, hr]) | (with_reducible refine tw_split (fun hb => ?_) (fun hb => ?_) <;> try simp only [go_sem, hb, hA, e3, e4, e5, hil, hg0, g1, g2, hgj, hp, hr]) | (with_reducible refine draw_at 0 20 (by with_unfolding_all rfl) [(0, false, true), (1, false, true), (2, false, true), (3, false, true), (4, false, true), (5, false, true), (6, false, true), (7, true, true), (8, true, true), (9, true, true), (10, true, true), (11, true, true), (12, false, false), (13, false, true), (14, false, true), (15, false, true), (16, false, true)] (by kernel_rfl) ?_ <;> try simp only [go_sem, hA, e3, e4, e5, hil, hg0, g1, g2, hgj, hp, hr]) | (with_reducible refine draw_at 0 37 (by with_unfolding_all rfl) [(0, false, true), (1, false, true), (2, false, true), (3, true, true), (4, true, true), (5, true, false), (6, false, false), (7, false, false), (8, false, false), (9, false, false), (10, false, false), (11, false, true), (12, false, true), (13, false, true), (14, true, true), (15, true, true), (16, true, false), (17, false, false), (18, false, false), (19, false, false), (20, false, false), (21, false, false), (22, false, false), (23, false, false)] (by kernel_rfl) ?_ <;> try simp only [go_sem, hA, e3, e4, e5, hil, hg0, g1, g2, hgj, hp, hr]) | (refine call_c (c_l5Right _ _ ?_) <;> try simp only [go_sem, hA, e3, e4, e5, hil, hg0, g1, g2, hgj, hp, hr]) | (refine call_c (c_l5Before _ _ _ ?_) <;> try simp only [go_sem, hA, e3, e4, e5, hil, hg0, g1, g2, hgj, hp, hr]) | (with_reducible refine hQ _ _ ?_ <;> simp only [Tryz.f66, go_sem, hA, e3, e4, e5, hil, hg0, g1, g2, hgj, hp, hr]))
            exact hk
end Go.Proofs.YtedkpjaojdkpcaaGreat
