/- Walks of functions of the program and the laws they rest on (5 of 5). Conditions: none. -/
import Derived.Deep.Strs
import Derived.Deep.Slices
import Derived.SizedLaws
import Derived.Lib.SmallJoins
import Derived.ChangeShapes
import Derived.WideShapes
import Derived.Test.YtlefjpbhbiajfaaGreatM4
section
namespace Go.Proofs.YtlefjpbhbiajfaaGreat
open Go.BL Go.RowKit
set_option linter.unusedVariables false
set_option linter.unusedSimpArgs false
set_option maxRecDepth 100000
attribute [local go_sem] accountC balC lotC tradeC booksC booksA
def markAccount (k : Int) (i : Nat) : Account := ⟨k + 2 * i, k + 2 * i + 1⟩
def marksAccount (k : Int) (n : Nat) : List Account := (List.range n).map (markAccount k)
theorem marksAccount_len (k : Int) (n : Nat) : (marksAccount k n).length = n := by simp [marksAccount]
theorem marksAccount_tk (k : Int) (n : Nat) : ((marksAccount k n).map accountC).take n = (marksAccount k n).map accountC := List.take_of_length_le (by simp [marksAccount])
theorem c_markAccountS (xs : List Account) (k : Int) (l g : Nat) (cap : Option Nat) (h0 : AH) (hl : h0[l]? = some (.own g 129 2 cap (xs.map accountC))) (hn : xs.length ≤ 1000000000) (hk0 : 0 ≤ k) (hk1 : k ≤ 1000000000000)
    (K : AV → AH → Prop) (hk : K (.one (.c (.int .i64 (k + 2 * xs.length)))) (h0.set l (.own g 129 2 cap ((marksAccount k xs.length).map accountC)))) : ACalls Tryz.prog 118 [.one (.sl l g 0 xs.length), (.one (.c (.int .i64 (k))))] h0 K := by
  have hall : ∀ o, (h0.set l o)[l]? = some o := set_at hl
  refine acall_m Tryz.f118.results.toList mixed Tryz.func118 rfl rfl (by kernel_rfl) ?_
  intro hwf Q hQ
  simp only [go_sem, hl]
  refine for_at (xs.length) [0] (fun i f h => f 1 = (.one (.c (.int .i64 (k + 2 * i)))) ∧ f 5 = (.one (.c (.int .i64 (i)))) ∧ h = h0.set l (.own g 129 2 cap ((fillR (markAccount k) xs i).map accountC))) (GC.now ?_) ?_
  · simp only [go_sem, nc_0, true_and, hall, hl]
    rw [fill_0, set_same hl]; simp
  · rintro i f h J hi hA ⟨e1, e5, rfl⟩ hJ
    simp only [go_sem, hall, hl] at hA
    simp only [go_sem, hA, e1, e5, hall, hl]
    refine c_split (fun hb => ?_) (fun hb => ?_)
    rotate_left
    · simp only [go_sem, hb, hA, e1, e5, hall, hl]
      obtain rfl := ge_len hb hi
      refine hQ (h0.set l (.own g 129 2 cap ((fillR (markAccount k) xs xs.length).map accountC))) _ _ ?_; refine GC.now (ret_m (by simp only [go_sem, Tryz.f118, hA, e1, e5, hall, hl]; exact _root_.id rfl) (by simp only [go_sem]) (by simp) (by first | exact hwf | exact wf_set hwf (by simp only [go_sem, hA, e1, e5, hall, hl]) | exact wf_set2 hwf (by simp only [go_sem, hA, e1, e5, hall, hl]) (by simp only [go_sem, hA, e1, e5, hall, hl]) | (simp only [go_sem]; done)) (by first | exact ⟨_, _root_.id rfl⟩ | exact ⟨[], (List.append_nil _).symm⟩) ?_) <;> simp only [go_sem, hA, e1, e5, hall, hl]
      rw [fill_all]
      exact hk
    have hi := lt_len hb
    have hw := wrap_nat i (by omega)
    have hil : (i : Int) < ((xs.length : Nat) : Int) := Int.ofNat_lt.2 hi
    have hg0 : (xs)[i]? = some ((xs)[i]) := List.getElem?_eq_getElem (by omega)
    simp only [go_sem, hb, hA, e1, e5, hall, hl, hg0]
    try simp only [go_sem, hA, e1, e5, hall, hl, hil, hg0]
    have hold := fill_get (markAccount k) xs i
    rw [hg0] at hold
    have hself : ∀ x, ((fillR (markAccount k) xs i).set i x)[i]? = some x := set_at hold
    have hset : (fillR (markAccount k) xs i).set i ⟨k + 2 * i, k + 2 * i + 1⟩ = fillR (markAccount k) xs (i + 1) := fill_set (markAccount k) xs i hi _ rfl
    have w1 : wrap64 (k + 2 * (i : Int) + 1) = k + 2 * i + 1 := by unfold wrap64; omega
    have w2 : wrap64 (k + 2 * (i : Int) + 1 + 1) = k + 2 * ((i + 1 : Nat) : Int) := by unfold wrap64; omega
    (try simp only [go_sem, hA, e1, e5, hall, hl, hil, hg0, hold, hself, List.set_set, w1, w2]); repeat' (first | (with_reducible first | refine c_split ?_ ?_ | refine w_split ?_ ?_) <;> intro hb <;> try simp only [go_sem, hb, hA, e1, e5, hall, hl, hil, hg0, hold, hself, List.set_set, w1, w2] | fail)
    refine GC.now (hJ _ _ hi (by simp only [go_sem, hA, e1, e5, hall, hl]) ⟨?_, ?_, ?_⟩) <;> try simp only [go_sem, hA, e1, e5, hall, hl, hw, hset]
theorem c_heldAccountS (n : Nat) (k : Int) (hn : n ≤ 1000000000) (hk0 : 0 ≤ k) (hk1 : k ≤ 1000000000000) (K : AV → AH → Prop) (hk : K (.one (.c (.int .i64 (k + 2 * n)))) []) : ACalls Tryz.prog 123 [(.one (.im ((marksAccount k n).map accountC))), (.one (.c (.int .i64 (k))))] [] K := by
  have hm := marksAccount_len k n
  refine acall_c Tryz.f123.results.toList mixed Tryz.func123 rfl rfl (by kernel_rfl) ?_
  intro Q hQ hQO
  simp only [go_sem, BEq.rfl]
  refine for_at (n) [0] (fun i f h => f 1 = (.one (.c (.int .i64 (k + 2 * i)))) ∧ f 5 = (.one (.c (.int .i64 (i)))) ∧ h = []) (GC.now ?_) ?_
  · simp only [go_sem, nc_0, true_and, hm]
    simp
  · rintro i f h J hi hA ⟨e1, e5, rfl⟩ hJ
    simp only [go_sem, hm] at hA
    simp only [go_sem, hA, e1, e5, hm]
    refine c_split (fun hb => ?_) (fun hb => ?_)
    rotate_left
    · simp only [go_sem, hb, hA, e1, e5, hm]
      obtain rfl := ge_len hb hi
      (try simp only [go_sem, hA, e1, e5, hm]); repeat' (first | (with_reducible first | refine c_split ?_ ?_ | refine w_split ?_ ?_) <;> intro hb <;> try simp only [go_sem, hb, hA, e1, e5, hm] | with_reducible refine hQ _ _ ?_ <;> simp only [Tryz.f123, go_sem, hA, e1, e5, hm])
      exact hk
    have hi := lt_len hb
    have hw := wrap_nat i (by omega)
    have hil : (i : Int) < ((n : Nat) : Int) := Int.ofNat_lt.2 hi
    simp only [go_sem, hb, hA, e1, e5, hm]
    try simp only [go_sem, hA, e1, e5, hm, hil]
    have hg : (marksAccount k n)[i]? = some (markAccount k i) := by simp [marksAccount, hi]
    have w1 : wrap64 (k + 2 * (i : Int) + 1) = k + 2 * i + 1 := by unfold wrap64; omega
    have w2 : wrap64 (k + 2 * (i : Int) + 1 + 1) = k + 2 * ((i + 1 : Nat) : Int) := by unfold wrap64; omega
    (try simp only [go_sem, hA, e1, e5, hm, hil, hg, markAccount, BEq.rfl, w1, w2]); repeat' (first | (with_reducible first | refine c_split ?_ ?_ | refine w_split ?_ ?_) <;> intro hb <;> try simp only [go_sem, hb, hA, e1, e5, hm, hil, hg, markAccount, BEq.rfl, w1, w2] | fail)
    refine GC.now (hJ _ _ hi (by simp only [go_sem, hA, e1, e5, hm]) ⟨?_, ?_, ?_⟩) <;> try simp only [go_sem, hA, e1, e5, hm, hw]
def markInstr (k : Int) (i : Nat) : Account := ⟨k + 2 * i, k + 2 * i + 1⟩
def marksInstr (k : Int) (n : Nat) : List Account := (List.range n).map (markInstr k)
theorem marksInstr_len (k : Int) (n : Nat) : (marksInstr k n).length = n := by simp [marksInstr]
theorem marksInstr_tk (k : Int) (n : Nat) : ((marksInstr k n).map accountC).take n = (marksInstr k n).map accountC := List.take_of_length_le (by simp [marksInstr])
theorem c_markInstrS (xs : List Account) (k : Int) (l g : Nat) (cap : Option Nat) (h0 : AH) (hl : h0[l]? = some (.own g 131 2 cap (xs.map accountC))) (hn : xs.length ≤ 1000000000) (hk0 : 0 ≤ k) (hk1 : k ≤ 1000000000000)
    (K : AV → AH → Prop) (hk : K (.one (.c (.int .i64 (k + 2 * xs.length)))) (h0.set l (.own g 131 2 cap ((marksInstr k xs.length).map accountC)))) : ACalls Tryz.prog 119 [.one (.sl l g 0 xs.length), (.one (.c (.int .i64 (k))))] h0 K := by
  have hall : ∀ o, (h0.set l o)[l]? = some o := set_at hl
  refine acall_m Tryz.f119.results.toList mixed Tryz.func119 rfl rfl (by kernel_rfl) ?_
  intro hwf Q hQ
  simp only [go_sem, hl]
  refine for_at (xs.length) [0] (fun i f h => f 1 = (.one (.c (.int .i64 (k + 2 * i)))) ∧ f 5 = (.one (.c (.int .i64 (i)))) ∧ h = h0.set l (.own g 131 2 cap ((fillR (markInstr k) xs i).map accountC))) (GC.now ?_) ?_
  · simp only [go_sem, nc_0, true_and, hall, hl]
    rw [fill_0, set_same hl]; simp
  · rintro i f h J hi hA ⟨e1, e5, rfl⟩ hJ
    simp only [go_sem, hall, hl] at hA
    simp only [go_sem, hA, e1, e5, hall, hl]
    refine c_split (fun hb => ?_) (fun hb => ?_)
    rotate_left
    · simp only [go_sem, hb, hA, e1, e5, hall, hl]
      obtain rfl := ge_len hb hi
      refine hQ (h0.set l (.own g 131 2 cap ((fillR (markInstr k) xs xs.length).map accountC))) _ _ ?_; refine GC.now (ret_m (by simp only [go_sem, Tryz.f119, hA, e1, e5, hall, hl]; exact _root_.id rfl) (by simp only [go_sem]) (by simp) (by first | exact hwf | exact wf_set hwf (by simp only [go_sem, hA, e1, e5, hall, hl]) | exact wf_set2 hwf (by simp only [go_sem, hA, e1, e5, hall, hl]) (by simp only [go_sem, hA, e1, e5, hall, hl]) | (simp only [go_sem]; done)) (by first | exact ⟨_, _root_.id rfl⟩ | exact ⟨[], (List.append_nil _).symm⟩) ?_) <;> simp only [go_sem, hA, e1, e5, hall, hl]
      rw [fill_all]
      exact hk
    have hi := lt_len hb
    have hw := wrap_nat i (by omega)
    have hil : (i : Int) < ((xs.length : Nat) : Int) := Int.ofNat_lt.2 hi
    have hg0 : (xs)[i]? = some ((xs)[i]) := List.getElem?_eq_getElem (by omega)
    simp only [go_sem, hb, hA, e1, e5, hall, hl, hg0]
    try simp only [go_sem, hA, e1, e5, hall, hl, hil, hg0]
    have hold := fill_get (markInstr k) xs i
    rw [hg0] at hold
    have hself : ∀ x, ((fillR (markInstr k) xs i).set i x)[i]? = some x := set_at hold
    have hset : (fillR (markInstr k) xs i).set i ⟨k + 2 * i, k + 2 * i + 1⟩ = fillR (markInstr k) xs (i + 1) := fill_set (markInstr k) xs i hi _ rfl
    have w1 : wrap64 (k + 2 * (i : Int) + 1) = k + 2 * i + 1 := by unfold wrap64; omega
    have w2 : wrap64 (k + 2 * (i : Int) + 1 + 1) = k + 2 * ((i + 1 : Nat) : Int) := by unfold wrap64; omega
    (try simp only [go_sem, hA, e1, e5, hall, hl, hil, hg0, hold, hself, List.set_set, w1, w2]); repeat' (first | (with_reducible first | refine c_split ?_ ?_ | refine w_split ?_ ?_) <;> intro hb <;> try simp only [go_sem, hb, hA, e1, e5, hall, hl, hil, hg0, hold, hself, List.set_set, w1, w2] | fail)
    refine GC.now (hJ _ _ hi (by simp only [go_sem, hA, e1, e5, hall, hl]) ⟨?_, ?_, ?_⟩) <;> try simp only [go_sem, hA, e1, e5, hall, hl, hw, hset]
theorem c_heldInstrS (n : Nat) (k : Int) (hn : n ≤ 1000000000) (hk0 : 0 ≤ k) (hk1 : k ≤ 1000000000000) (K : AV → AH → Prop) (hk : K (.one (.c (.int .i64 (k + 2 * n)))) []) : ACalls Tryz.prog 124 [(.one (.im ((marksInstr k n).map accountC))), (.one (.c (.int .i64 (k))))] [] K := by
  have hm := marksInstr_len k n
  refine acall_c Tryz.f124.results.toList mixed Tryz.func124 rfl rfl (by kernel_rfl) ?_
  intro Q hQ hQO
  simp only [go_sem, BEq.rfl]
  refine for_at (n) [0] (fun i f h => f 1 = (.one (.c (.int .i64 (k + 2 * i)))) ∧ f 5 = (.one (.c (.int .i64 (i)))) ∧ h = []) (GC.now ?_) ?_
  · simp only [go_sem, nc_0, true_and, hm]
    simp
  · rintro i f h J hi hA ⟨e1, e5, rfl⟩ hJ
    simp only [go_sem, hm] at hA
    simp only [go_sem, hA, e1, e5, hm]
    refine c_split (fun hb => ?_) (fun hb => ?_)
    rotate_left
    · simp only [go_sem, hb, hA, e1, e5, hm]
      obtain rfl := ge_len hb hi
      (try simp only [go_sem, hA, e1, e5, hm]); repeat' (first | (with_reducible first | refine c_split ?_ ?_ | refine w_split ?_ ?_) <;> intro hb <;> try simp only [go_sem, hb, hA, e1, e5, hm] | with_reducible refine hQ _ _ ?_ <;> simp only [Tryz.f124, go_sem, hA, e1, e5, hm])
      exact hk
    have hi := lt_len hb
    have hw := wrap_nat i (by omega)
    have hil : (i : Int) < ((n : Nat) : Int) := Int.ofNat_lt.2 hi
    simp only [go_sem, hb, hA, e1, e5, hm]
    try simp only [go_sem, hA, e1, e5, hm, hil]
    have hg : (marksInstr k n)[i]? = some (markInstr k i) := by simp [marksInstr, hi]
    have w1 : wrap64 (k + 2 * (i : Int) + 1) = k + 2 * i + 1 := by unfold wrap64; omega
    have w2 : wrap64 (k + 2 * (i : Int) + 1 + 1) = k + 2 * ((i + 1 : Nat) : Int) := by unfold wrap64; omega
    (try simp only [go_sem, hA, e1, e5, hm, hil, hg, markInstr, BEq.rfl, w1, w2]); repeat' (first | (with_reducible first | refine c_split ?_ ?_ | refine w_split ?_ ?_) <;> intro hb <;> try simp only [go_sem, hb, hA, e1, e5, hm, hil, hg, markInstr, BEq.rfl, w1, w2] | fail)
    refine GC.now (hJ _ _ hi (by simp only [go_sem, hA, e1, e5, hm]) ⟨?_, ?_, ?_⟩) <;> try simp only [go_sem, hA, e1, e5, hm, hw]
def markBal (k : Int) (i : Nat) : Bal := ⟨k + 3 * i, k + 3 * i + 1, k + 3 * i + 2⟩
def marksBal (k : Int) (n : Nat) : List Bal := (List.range n).map (markBal k)
theorem marksBal_len (k : Int) (n : Nat) : (marksBal k n).length = n := by simp [marksBal]
theorem marksBal_tk (k : Int) (n : Nat) : ((marksBal k n).map balC).take n = (marksBal k n).map balC := List.take_of_length_le (by simp [marksBal])
theorem c_markBalS (xs : List Bal) (k : Int) (l g : Nat) (cap : Option Nat) (h0 : AH) (hl : h0[l]? = some (.own g 134 3 cap (xs.map balC))) (hn : xs.length ≤ 1000000000) (hk0 : 0 ≤ k) (hk1 : k ≤ 1000000000000)
    (K : AV → AH → Prop) (hk : K (.one (.c (.int .i64 (k + 3 * xs.length)))) (h0.set l (.own g 134 3 cap ((marksBal k xs.length).map balC)))) : ACalls Tryz.prog 120 [.one (.sl l g 0 xs.length), (.one (.c (.int .i64 (k))))] h0 K := by
  have hall : ∀ o, (h0.set l o)[l]? = some o := set_at hl
  refine acall_m Tryz.f120.results.toList mixed Tryz.func120 rfl rfl (by kernel_rfl) ?_
  intro hwf Q hQ
  simp only [go_sem, hl]
  refine for_at (xs.length) [0] (fun i f h => f 1 = (.one (.c (.int .i64 (k + 3 * i)))) ∧ f 5 = (.one (.c (.int .i64 (i)))) ∧ h = h0.set l (.own g 134 3 cap ((fillR (markBal k) xs i).map balC))) (GC.now ?_) ?_
  · simp only [go_sem, nc_0, true_and, hall, hl]
    rw [fill_0, set_same hl]; simp
  · rintro i f h J hi hA ⟨e1, e5, rfl⟩ hJ
    simp only [go_sem, hall, hl] at hA
    simp only [go_sem, hA, e1, e5, hall, hl]
    refine c_split (fun hb => ?_) (fun hb => ?_)
    rotate_left
    · simp only [go_sem, hb, hA, e1, e5, hall, hl]
      obtain rfl := ge_len hb hi
      refine hQ (h0.set l (.own g 134 3 cap ((fillR (markBal k) xs xs.length).map balC))) _ _ ?_; refine GC.now (ret_m (by simp only [go_sem, Tryz.f120, hA, e1, e5, hall, hl]; exact _root_.id rfl) (by simp only [go_sem]) (by simp) (by first | exact hwf | exact wf_set hwf (by simp only [go_sem, hA, e1, e5, hall, hl]) | exact wf_set2 hwf (by simp only [go_sem, hA, e1, e5, hall, hl]) (by simp only [go_sem, hA, e1, e5, hall, hl]) | (simp only [go_sem]; done)) (by first | exact ⟨_, _root_.id rfl⟩ | exact ⟨[], (List.append_nil _).symm⟩) ?_) <;> simp only [go_sem, hA, e1, e5, hall, hl]
      rw [fill_all]
      exact hk
    have hi := lt_len hb
    have hw := wrap_nat i (by omega)
    have hil : (i : Int) < ((xs.length : Nat) : Int) := Int.ofNat_lt.2 hi
    have hg0 : (xs)[i]? = some ((xs)[i]) := List.getElem?_eq_getElem (by omega)
    simp only [go_sem, hb, hA, e1, e5, hall, hl, hg0]
    try simp only [go_sem, hA, e1, e5, hall, hl, hil, hg0]
    have hold := fill_get (markBal k) xs i
    rw [hg0] at hold
    have hself : ∀ x, ((fillR (markBal k) xs i).set i x)[i]? = some x := set_at hold
    have hset : (fillR (markBal k) xs i).set i ⟨k + 3 * i, k + 3 * i + 1, k + 3 * i + 2⟩ = fillR (markBal k) xs (i + 1) := fill_set (markBal k) xs i hi _ rfl
    have w1 : wrap64 (k + 3 * (i : Int) + 1) = k + 3 * i + 1 := by unfold wrap64; omega
    have w2 : wrap64 (k + 3 * (i : Int) + 1 + 1) = k + 3 * i + 2 := by unfold wrap64; omega
    have w3 : wrap64 (k + 3 * (i : Int) + 2 + 1) = k + 3 * ((i + 1 : Nat) : Int) := by unfold wrap64; omega
    (try simp only [go_sem, hA, e1, e5, hall, hl, hil, hg0, hold, hself, List.set_set, w1, w2, w3]); repeat' (first | (with_reducible first | refine c_split ?_ ?_ | refine w_split ?_ ?_) <;> intro hb <;> try simp only [go_sem, hb, hA, e1, e5, hall, hl, hil, hg0, hold, hself, List.set_set, w1, w2, w3] | fail)
    refine GC.now (hJ _ _ hi (by simp only [go_sem, hA, e1, e5, hall, hl]) ⟨?_, ?_, ?_⟩) <;> try simp only [go_sem, hA, e1, e5, hall, hl, hw, hset]
theorem c_heldBalS (n : Nat) (k : Int) (hn : n ≤ 1000000000) (hk0 : 0 ≤ k) (hk1 : k ≤ 1000000000000) (K : AV → AH → Prop) (hk : K (.one (.c (.int .i64 (k + 3 * n)))) []) : ACalls Tryz.prog 125 [(.one (.im ((marksBal k n).map balC))), (.one (.c (.int .i64 (k))))] [] K := by
  have hm := marksBal_len k n
  refine acall_c Tryz.f125.results.toList mixed Tryz.func125 rfl rfl (by kernel_rfl) ?_
  intro Q hQ hQO
  simp only [go_sem, BEq.rfl]
  refine for_at (n) [0] (fun i f h => f 1 = (.one (.c (.int .i64 (k + 3 * i)))) ∧ f 5 = (.one (.c (.int .i64 (i)))) ∧ h = []) (GC.now ?_) ?_
  · simp only [go_sem, nc_0, true_and, hm]
    simp
  · rintro i f h J hi hA ⟨e1, e5, rfl⟩ hJ
    simp only [go_sem, hm] at hA
    simp only [go_sem, hA, e1, e5, hm]
    refine c_split (fun hb => ?_) (fun hb => ?_)
    rotate_left
    · simp only [go_sem, hb, hA, e1, e5, hm]
      obtain rfl := ge_len hb hi
      (try simp only [go_sem, hA, e1, e5, hm]); repeat' (first | (with_reducible first | refine c_split ?_ ?_ | refine w_split ?_ ?_) <;> intro hb <;> try simp only [go_sem, hb, hA, e1, e5, hm] | with_reducible refine hQ _ _ ?_ <;> simp only [Tryz.f125, go_sem, hA, e1, e5, hm])
      exact hk
    have hi := lt_len hb
    have hw := wrap_nat i (by omega)
    have hil : (i : Int) < ((n : Nat) : Int) := Int.ofNat_lt.2 hi
    simp only [go_sem, hb, hA, e1, e5, hm]
    try simp only [go_sem, hA, e1, e5, hm, hil]
    have hg : (marksBal k n)[i]? = some (markBal k i) := by simp [marksBal, hi]
    have w1 : wrap64 (k + 3 * (i : Int) + 1) = k + 3 * i + 1 := by unfold wrap64; omega
    have w2 : wrap64 (k + 3 * (i : Int) + 1 + 1) = k + 3 * i + 2 := by unfold wrap64; omega
    have w3 : wrap64 (k + 3 * (i : Int) + 2 + 1) = k + 3 * ((i + 1 : Nat) : Int) := by unfold wrap64; omega
    (try simp only [go_sem, hA, e1, e5, hm, hil, hg, markBal, BEq.rfl, w1, w2, w3]); repeat' (first | (with_reducible first | refine c_split ?_ ?_ | refine w_split ?_ ?_) <;> intro hb <;> try simp only [go_sem, hb, hA, e1, e5, hm, hil, hg, markBal, BEq.rfl, w1, w2, w3] | fail)
    refine GC.now (hJ _ _ hi (by simp only [go_sem, hA, e1, e5, hm]) ⟨?_, ?_, ?_⟩) <;> try simp only [go_sem, hA, e1, e5, hm, hw]
def markLot (k : Int) (i : Nat) : Lot := ⟨k + 5 * i, k + 5 * i + 1, k + 5 * i + 2, k + 5 * i + 3, k + 5 * i + 4⟩
def marksLot (k : Int) (n : Nat) : List Lot := (List.range n).map (markLot k)
theorem marksLot_len (k : Int) (n : Nat) : (marksLot k n).length = n := by simp [marksLot]
theorem marksLot_tk (k : Int) (n : Nat) : ((marksLot k n).map lotC).take n = (marksLot k n).map lotC := List.take_of_length_le (by simp [marksLot])
theorem c_markLotS (xs : List Lot) (k : Int) (l g : Nat) (cap : Option Nat) (h0 : AH) (hl : h0[l]? = some (.own g 137 5 cap (xs.map lotC))) (hn : xs.length ≤ 1000000000) (hk0 : 0 ≤ k) (hk1 : k ≤ 1000000000000)
    (K : AV → AH → Prop) (hk : K (.one (.c (.int .i64 (k + 5 * xs.length)))) (h0.set l (.own g 137 5 cap ((marksLot k xs.length).map lotC)))) : ACalls Tryz.prog 121 [.one (.sl l g 0 xs.length), (.one (.c (.int .i64 (k))))] h0 K := by
  have hall : ∀ o, (h0.set l o)[l]? = some o := set_at hl
  refine acall_m Tryz.f121.results.toList mixed Tryz.func121 rfl rfl (by kernel_rfl) ?_
  intro hwf Q hQ
  simp only [go_sem, hl]
  refine for_at (xs.length) [0] (fun i f h => f 1 = (.one (.c (.int .i64 (k + 5 * i)))) ∧ f 5 = (.one (.c (.int .i64 (i)))) ∧ h = h0.set l (.own g 137 5 cap ((fillR (markLot k) xs i).map lotC))) (GC.now ?_) ?_
  · simp only [go_sem, nc_0, true_and, hall, hl]
    rw [fill_0, set_same hl]; simp
  · rintro i f h J hi hA ⟨e1, e5, rfl⟩ hJ
    simp only [go_sem, hall, hl] at hA
    simp only [go_sem, hA, e1, e5, hall, hl]
    refine c_split (fun hb => ?_) (fun hb => ?_)
    rotate_left
    · simp only [go_sem, hb, hA, e1, e5, hall, hl]
      obtain rfl := ge_len hb hi
      refine hQ (h0.set l (.own g 137 5 cap ((fillR (markLot k) xs xs.length).map lotC))) _ _ ?_; refine GC.now (ret_m (by simp only [go_sem, Tryz.f121, hA, e1, e5, hall, hl]; exact _root_.id rfl) (by simp only [go_sem]) (by simp) (by first | exact hwf | exact wf_set hwf (by simp only [go_sem, hA, e1, e5, hall, hl]) | exact wf_set2 hwf (by simp only [go_sem, hA, e1, e5, hall, hl]) (by simp only [go_sem, hA, e1, e5, hall, hl]) | (simp only [go_sem]; done)) (by first | exact ⟨_, _root_.id rfl⟩ | exact ⟨[], (List.append_nil _).symm⟩) ?_) <;> simp only [go_sem, hA, e1, e5, hall, hl]
      rw [fill_all]
      exact hk
    have hi := lt_len hb
    have hw := wrap_nat i (by omega)
    have hil : (i : Int) < ((xs.length : Nat) : Int) := Int.ofNat_lt.2 hi
    have hg0 : (xs)[i]? = some ((xs)[i]) := List.getElem?_eq_getElem (by omega)
    simp only [go_sem, hb, hA, e1, e5, hall, hl, hg0]
    try simp only [go_sem, hA, e1, e5, hall, hl, hil, hg0]
    have hold := fill_get (markLot k) xs i
    rw [hg0] at hold
    have hself : ∀ x, ((fillR (markLot k) xs i).set i x)[i]? = some x := set_at hold
    have hset : (fillR (markLot k) xs i).set i ⟨k + 5 * i, k + 5 * i + 1, k + 5 * i + 2, k + 5 * i + 3, k + 5 * i + 4⟩ = fillR (markLot k) xs (i + 1) := fill_set (markLot k) xs i hi _ rfl
    have w1 : wrap64 (k + 5 * (i : Int) + 1) = k + 5 * i + 1 := by unfold wrap64; omega
    have w2 : wrap64 (k + 5 * (i : Int) + 1 + 1) = k + 5 * i + 2 := by unfold wrap64; omega
    have w3 : wrap64 (k + 5 * (i : Int) + 2 + 1) = k + 5 * i + 3 := by unfold wrap64; omega
    have w4 : wrap64 (k + 5 * (i : Int) + 3 + 1) = k + 5 * i + 4 := by unfold wrap64; omega
    have w5 : wrap64 (k + 5 * (i : Int) + 4 + 1) = k + 5 * ((i + 1 : Nat) : Int) := by unfold wrap64; omega
    (try simp only [go_sem, hA, e1, e5, hall, hl, hil, hg0, hold, hself, List.set_set, w1, w2, w3, w4, w5]); repeat' (first | (with_reducible first | refine c_split ?_ ?_ | refine w_split ?_ ?_) <;> intro hb <;> try simp only [go_sem, hb, hA, e1, e5, hall, hl, hil, hg0, hold, hself, List.set_set, w1, w2, w3, w4, w5] | fail)
    refine GC.now (hJ _ _ hi (by simp only [go_sem, hA, e1, e5, hall, hl]) ⟨?_, ?_, ?_⟩) <;> try simp only [go_sem, hA, e1, e5, hall, hl, hw, hset]
theorem c_heldLotS (n : Nat) (k : Int) (hn : n ≤ 1000000000) (hk0 : 0 ≤ k) (hk1 : k ≤ 1000000000000) (K : AV → AH → Prop) (hk : K (.one (.c (.int .i64 (k + 5 * n)))) []) : ACalls Tryz.prog 126 [(.one (.im ((marksLot k n).map lotC))), (.one (.c (.int .i64 (k))))] [] K := by
  have hm := marksLot_len k n
  refine acall_c Tryz.f126.results.toList mixed Tryz.func126 rfl rfl (by kernel_rfl) ?_
  intro Q hQ hQO
  simp only [go_sem, BEq.rfl]
  refine for_at (n) [0] (fun i f h => f 1 = (.one (.c (.int .i64 (k + 5 * i)))) ∧ f 5 = (.one (.c (.int .i64 (i)))) ∧ h = []) (GC.now ?_) ?_
  · simp only [go_sem, nc_0, true_and, hm]
    simp
  · rintro i f h J hi hA ⟨e1, e5, rfl⟩ hJ
    simp only [go_sem, hm] at hA
    simp only [go_sem, hA, e1, e5, hm]
    refine c_split (fun hb => ?_) (fun hb => ?_)
    rotate_left
    · simp only [go_sem, hb, hA, e1, e5, hm]
      obtain rfl := ge_len hb hi
      (try simp only [go_sem, hA, e1, e5, hm]); repeat' (first | (with_reducible first | refine c_split ?_ ?_ | refine w_split ?_ ?_) <;> intro hb <;> try simp only [go_sem, hb, hA, e1, e5, hm] | with_reducible refine hQ _ _ ?_ <;> simp only [Tryz.f126, go_sem, hA, e1, e5, hm])
      exact hk
    have hi := lt_len hb
    have hw := wrap_nat i (by omega)
    have hil : (i : Int) < ((n : Nat) : Int) := Int.ofNat_lt.2 hi
    simp only [go_sem, hb, hA, e1, e5, hm]
    try simp only [go_sem, hA, e1, e5, hm, hil]
    have hg : (marksLot k n)[i]? = some (markLot k i) := by simp [marksLot, hi]
    have w1 : wrap64 (k + 5 * (i : Int) + 1) = k + 5 * i + 1 := by unfold wrap64; omega
    have w2 : wrap64 (k + 5 * (i : Int) + 1 + 1) = k + 5 * i + 2 := by unfold wrap64; omega
    have w3 : wrap64 (k + 5 * (i : Int) + 2 + 1) = k + 5 * i + 3 := by unfold wrap64; omega
    have w4 : wrap64 (k + 5 * (i : Int) + 3 + 1) = k + 5 * i + 4 := by unfold wrap64; omega
    have w5 : wrap64 (k + 5 * (i : Int) + 4 + 1) = k + 5 * ((i + 1 : Nat) : Int) := by unfold wrap64; omega
    (try simp only [go_sem, hA, e1, e5, hm, hil, hg, markLot, BEq.rfl, w1, w2, w3, w4, w5]); repeat' (first | (with_reducible first | refine c_split ?_ ?_ | refine w_split ?_ ?_) <;> intro hb <;> try simp only [go_sem, hb, hA, e1, e5, hm, hil, hg, markLot, BEq.rfl, w1, w2, w3, w4, w5] | fail)
    refine GC.now (hJ _ _ hi (by simp only [go_sem, hA, e1, e5, hm]) ⟨?_, ?_, ?_⟩) <;> try simp only [go_sem, hA, e1, e5, hm, hw]
def markTrade (k : Int) (i : Nat) : Trade := ⟨k + 8 * i, k + 8 * i + 1, k + 8 * i + 2, k + 8 * i + 3, k + 8 * i + 4, k + 8 * i + 5, k + 8 * i + 6, k + 8 * i + 7⟩
def marksTrade (k : Int) (n : Nat) : List Trade := (List.range n).map (markTrade k)
theorem marksTrade_len (k : Int) (n : Nat) : (marksTrade k n).length = n := by simp [marksTrade]
theorem marksTrade_tk (k : Int) (n : Nat) : ((marksTrade k n).map tradeC).take n = (marksTrade k n).map tradeC := List.take_of_length_le (by simp [marksTrade])
theorem c_markTradeS (xs : List Trade) (k : Int) (l g : Nat) (cap : Option Nat) (h0 : AH) (hl : h0[l]? = some (.own g 140 8 cap (xs.map tradeC))) (hn : xs.length ≤ 1000000000) (hk0 : 0 ≤ k) (hk1 : k ≤ 1000000000000)
    (K : AV → AH → Prop) (hk : K (.one (.c (.int .i64 (k + 8 * xs.length)))) (h0.set l (.own g 140 8 cap ((marksTrade k xs.length).map tradeC)))) : ACalls Tryz.prog 122 [.one (.sl l g 0 xs.length), (.one (.c (.int .i64 (k))))] h0 K := by
  have hall : ∀ o, (h0.set l o)[l]? = some o := set_at hl
  refine acall_m Tryz.f122.results.toList mixed Tryz.func122 rfl rfl (by kernel_rfl) ?_
  intro hwf Q hQ
  simp only [go_sem, hl]
  refine for_at (xs.length) [0] (fun i f h => f 1 = (.one (.c (.int .i64 (k + 8 * i)))) ∧ f 5 = (.one (.c (.int .i64 (i)))) ∧ h = h0.set l (.own g 140 8 cap ((fillR (markTrade k) xs i).map tradeC))) (GC.now ?_) ?_
  · simp only [go_sem, nc_0, true_and, hall, hl]
    rw [fill_0, set_same hl]; simp
  · rintro i f h J hi hA ⟨e1, e5, rfl⟩ hJ
    simp only [go_sem, hall, hl] at hA
    simp only [go_sem, hA, e1, e5, hall, hl]
    refine c_split (fun hb => ?_) (fun hb => ?_)
    rotate_left
    · simp only [go_sem, hb, hA, e1, e5, hall, hl]
      obtain rfl := ge_len hb hi
      refine hQ (h0.set l (.own g 140 8 cap ((fillR (markTrade k) xs xs.length).map tradeC))) _ _ ?_; refine GC.now (ret_m (by simp only [go_sem, Tryz.f122, hA, e1, e5, hall, hl]; exact _root_.id rfl) (by simp only [go_sem]) (by simp) (by first | exact hwf | exact wf_set hwf (by simp only [go_sem, hA, e1, e5, hall, hl]) | exact wf_set2 hwf (by simp only [go_sem, hA, e1, e5, hall, hl]) (by simp only [go_sem, hA, e1, e5, hall, hl]) | (simp only [go_sem]; done)) (by first | exact ⟨_, _root_.id rfl⟩ | exact ⟨[], (List.append_nil _).symm⟩) ?_) <;> simp only [go_sem, hA, e1, e5, hall, hl]
      rw [fill_all]
      exact hk
    have hi := lt_len hb
    have hw := wrap_nat i (by omega)
    have hil : (i : Int) < ((xs.length : Nat) : Int) := Int.ofNat_lt.2 hi
    have hg0 : (xs)[i]? = some ((xs)[i]) := List.getElem?_eq_getElem (by omega)
    simp only [go_sem, hb, hA, e1, e5, hall, hl, hg0]
    try simp only [go_sem, hA, e1, e5, hall, hl, hil, hg0]
    have hold := fill_get (markTrade k) xs i
    rw [hg0] at hold
    have hself : ∀ x, ((fillR (markTrade k) xs i).set i x)[i]? = some x := set_at hold
    have hset : (fillR (markTrade k) xs i).set i ⟨k + 8 * i, k + 8 * i + 1, k + 8 * i + 2, k + 8 * i + 3, k + 8 * i + 4, k + 8 * i + 5, k + 8 * i + 6, k + 8 * i + 7⟩ = fillR (markTrade k) xs (i + 1) := fill_set (markTrade k) xs i hi _ rfl
    have w1 : wrap64 (k + 8 * (i : Int) + 1) = k + 8 * i + 1 := by unfold wrap64; omega
    have w2 : wrap64 (k + 8 * (i : Int) + 1 + 1) = k + 8 * i + 2 := by unfold wrap64; omega
    have w3 : wrap64 (k + 8 * (i : Int) + 2 + 1) = k + 8 * i + 3 := by unfold wrap64; omega
    have w4 : wrap64 (k + 8 * (i : Int) + 3 + 1) = k + 8 * i + 4 := by unfold wrap64; omega
    have w5 : wrap64 (k + 8 * (i : Int) + 4 + 1) = k + 8 * i + 5 := by unfold wrap64; omega
    have w6 : wrap64 (k + 8 * (i : Int) + 5 + 1) = k + 8 * i + 6 := by unfold wrap64; omega
    have w7 : wrap64 (k + 8 * (i : Int) + 6 + 1) = k + 8 * i + 7 := by unfold wrap64; omega
    have w8 : wrap64 (k + 8 * (i : Int) + 7 + 1) = k + 8 * ((i + 1 : Nat) : Int) := by unfold wrap64; omega
    (try simp only [go_sem, hA, e1, e5, hall, hl, hil, hg0, hold, hself, List.set_set, w1, w2, w3, w4, w5, w6, w7, w8]); repeat' (first | (with_reducible first | refine c_split ?_ ?_ | refine w_split ?_ ?_) <;> intro hb <;> try simp only [go_sem, hb, hA, e1, e5, hall, hl, hil, hg0, hold, hself, List.set_set, w1, w2, w3, w4, w5, w6, w7, w8] | fail)
    refine GC.now (hJ _ _ hi (by simp only [go_sem, hA, e1, e5, hall, hl]) ⟨?_, ?_, ?_⟩) <;> try simp only [go_sem, hA, e1, e5, hall, hl, hw, hset]
theorem c_heldTradeS (n : Nat) (k : Int) (hn : n ≤ 1000000000) (hk0 : 0 ≤ k) (hk1 : k ≤ 1000000000000) (K : AV → AH → Prop) (hk : K (.one (.c (.int .i64 (k + 8 * n)))) []) : ACalls Tryz.prog 127 [(.one (.im ((marksTrade k n).map tradeC))), (.one (.c (.int .i64 (k))))] [] K := by
  have hm := marksTrade_len k n
  refine acall_c Tryz.f127.results.toList mixed Tryz.func127 rfl rfl (by kernel_rfl) ?_
  intro Q hQ hQO
  simp only [go_sem, BEq.rfl]
  refine for_at (n) [0] (fun i f h => f 1 = (.one (.c (.int .i64 (k + 8 * i)))) ∧ f 5 = (.one (.c (.int .i64 (i)))) ∧ h = []) (GC.now ?_) ?_
  · simp only [go_sem, nc_0, true_and, hm]
    simp
  · rintro i f h J hi hA ⟨e1, e5, rfl⟩ hJ
    simp only [go_sem, hm] at hA
    simp only [go_sem, hA, e1, e5, hm]
    refine c_split (fun hb => ?_) (fun hb => ?_)
    rotate_left
    · simp only [go_sem, hb, hA, e1, e5, hm]
      obtain rfl := ge_len hb hi
      (try simp only [go_sem, hA, e1, e5, hm]); repeat' (first | (with_reducible first | refine c_split ?_ ?_ | refine w_split ?_ ?_) <;> intro hb <;> try simp only [go_sem, hb, hA, e1, e5, hm] | with_reducible refine hQ _ _ ?_ <;> simp only [Tryz.f127, go_sem, hA, e1, e5, hm])
      exact hk
    have hi := lt_len hb
    have hw := wrap_nat i (by omega)
    have hil : (i : Int) < ((n : Nat) : Int) := Int.ofNat_lt.2 hi
    simp only [go_sem, hb, hA, e1, e5, hm]
    try simp only [go_sem, hA, e1, e5, hm, hil]
    have hg : (marksTrade k n)[i]? = some (markTrade k i) := by simp [marksTrade, hi]
    have w1 : wrap64 (k + 8 * (i : Int) + 1) = k + 8 * i + 1 := by unfold wrap64; omega
    have w2 : wrap64 (k + 8 * (i : Int) + 1 + 1) = k + 8 * i + 2 := by unfold wrap64; omega
    have w3 : wrap64 (k + 8 * (i : Int) + 2 + 1) = k + 8 * i + 3 := by unfold wrap64; omega
    have w4 : wrap64 (k + 8 * (i : Int) + 3 + 1) = k + 8 * i + 4 := by unfold wrap64; omega
    have w5 : wrap64 (k + 8 * (i : Int) + 4 + 1) = k + 8 * i + 5 := by unfold wrap64; omega
    have w6 : wrap64 (k + 8 * (i : Int) + 5 + 1) = k + 8 * i + 6 := by unfold wrap64; omega
    have w7 : wrap64 (k + 8 * (i : Int) + 6 + 1) = k + 8 * i + 7 := by unfold wrap64; omega
    have w8 : wrap64 (k + 8 * (i : Int) + 7 + 1) = k + 8 * ((i + 1 : Nat) : Int) := by unfold wrap64; omega
    (try simp only [go_sem, hA, e1, e5, hm, hil, hg, markTrade, BEq.rfl, w1, w2, w3, w4, w5, w6, w7, w8]); repeat' (first | (with_reducible first | refine c_split ?_ ?_ | refine w_split ?_ ?_) <;> intro hb <;> try simp only [go_sem, hb, hA, e1, e5, hm, hil, hg, markTrade, BEq.rfl, w1, w2, w3, w4, w5, w6, w7, w8] | fail)
    refine GC.now (hJ _ _ hi (by simp only [go_sem, hA, e1, e5, hm]) ⟨?_, ?_, ?_⟩) <;> try simp only [go_sem, hA, e1, e5, hm, hw]
def markN (b : Books) (k : Int) : Int := k + 2 * b.accounts.length + 2 * b.instrs.length + 3 * b.bals.length + 5 * b.lots.length + 8 * b.trades.length
theorem app_new {h : AH} {n : Nat} (e : h.length = n) (x : AO) (r : AH) : (h ++ x :: r)[n]? = some x := by subst e; simp
theorem wf_at {h : AH} {n l : Nat} {o : AO} (hw : h.all (ltO n) = true) (ho : ltO n o = true) : (h.set l o).all (ltO n) = true := by
  rw [List.all_eq_true]
  intro x hx
  rcases List.mem_or_eq_of_mem_set hx with hx | rfl
  · exact (List.all_eq_true.1 hw) x hx
  · exact ho
theorem set_other {h : AH} {a b : Nat} {o : AO} {x : Option AO} (hne : a ≠ b) (h1 : h[b]? = x) : (h.set a o)[b]? = x := by rw [List.getElem?_set_ne hne]; exact h1
theorem c_markBooks (b : Books) (hs : Small b) (k : Int) (l0 l1 l2 l3 l4 g0 g1 g2 g3 g4 : Nat) (c0 c1 c2 c3 c4 : Option Nat) (h0 : AH) (e0 : h0[l0]? = some (.own g0 129 2 c0 (b.accounts.map accountC))) (e1 : h0[l1]? = some (.own g1 131 2 c1 (b.instrs.map accountC))) (e2 : h0[l2]? = some (.own g2 134 3 c2 (b.bals.map balC))) (e3 : h0[l3]? = some (.own g3 137 5 c3 (b.lots.map lotC))) (e4 : h0[l4]? = some (.own g4 140 8 c4 (b.trades.map tradeC))) (d01 : l0 ≠ l1) (d02 : l0 ≠ l2) (d03 : l0 ≠ l3) (d04 : l0 ≠ l4) (d12 : l1 ≠ l2) (d13 : l1 ≠ l3) (d14 : l1 ≠ l4) (d23 : l2 ≠ l3) (d24 : l2 ≠ l4) (d34 : l3 ≠ l4) (hk0 : 0 ≤ k) (hk1 : k ≤ 10000000000)
    (K : AV → AH → Prop) (hk : K (.one (.c (.int .i64 (markN b k)))) (((((h0.set l0 (.own g0 129 2 c0 ((marksAccount k b.accounts.length).map accountC))).set l1 (.own g1 131 2 c1 ((marksInstr (k + 2 * b.accounts.length) b.instrs.length).map accountC))).set l2 (.own g2 134 3 c2 ((marksBal ((k + 2 * b.accounts.length) + 2 * b.instrs.length) b.bals.length).map balC))).set l3 (.own g3 137 5 c3 ((marksLot (((k + 2 * b.accounts.length) + 2 * b.instrs.length) + 3 * b.bals.length) b.lots.length).map lotC))).set l4 (.own g4 140 8 c4 ((marksTrade ((((k + 2 * b.accounts.length) + 2 * b.instrs.length) + 3 * b.bals.length) + 5 * b.lots.length) b.trades.length).map tradeC)))) : ACalls Tryz.prog 49 [.agg [.sl l0 g0 0 b.accounts.length, .sl l1 g1 0 b.instrs.length, .sl l2 g2 0 b.bals.length, .sl l3 g3 0 b.lots.length, .sl l4 g4 0 b.trades.length, .c (.int .i64 (b.lot))], (.one (.c (.int .i64 (k))))] h0 K := by
  have t0 := (List.getElem?_eq_some_iff.1 e0).1
  have t1 := (List.getElem?_eq_some_iff.1 e1).1
  have t2 := (List.getElem?_eq_some_iff.1 e2).1
  have t3 := (List.getElem?_eq_some_iff.1 e3).1
  have t4 := (List.getElem?_eq_some_iff.1 e4).1
  have n0 := hs.ha
  have n1 := hs.hi
  have n2 := hs.hb
  have n3 := hs.hl
  have n4 := hs.ht
  refine acall_m Tryz.f49.results.toList mixed Tryz.func49 rfl rfl (by kernel_rfl) ?_
  intro hwf Q hQ
  simp only [go_sem, e0, e1, e2, e3, e4]
  have r0 : h0[l0]? = some (.own g0 129 2 c0 (b.accounts.map accountC)) := e0
  have s0 : l0 < h0.length := (List.getElem?_eq_some_iff.1 r0).1
  refine call_h (c_markAccountS b.accounts k l0 g0 c0 _ (h_old _ r0) n0 (by omega) (by omega) _ ?_)
  simp only [go_sem, List.set_append_left _ _ s0]
  have w1 := fun x r => app_new (h := (h0.set l0 (.own g0 129 2 c0 ((marksAccount k b.accounts.length).map accountC)))) (n := h0.length) (by simp only [List.length_set]) x r
  (try simp only [go_sem, w1]); repeat' (first | (with_reducible first | refine c_split ?_ ?_ | refine w_split ?_ ?_) <;> intro hb <;> try simp only [go_sem, hb, w1] | fail)
  have r1 : (h0.set l0 (.own g0 129 2 c0 ((marksAccount k b.accounts.length).map accountC)))[l1]? = some (.own g1 131 2 c1 (b.instrs.map accountC)) := (set_other d01 e1)
  have s1 : l1 < (h0.set l0 (.own g0 129 2 c0 ((marksAccount k b.accounts.length).map accountC))).length := (List.getElem?_eq_some_iff.1 r1).1
  refine call_h (c_markInstrS b.instrs (k + 2 * b.accounts.length) l1 g1 c1 _ (h_old _ r1) n1 (by omega) (by omega) _ ?_)
  simp only [go_sem, List.set_append_left _ _ s1]
  have w2 := fun x r => app_new (h := ((h0.set l0 (.own g0 129 2 c0 ((marksAccount k b.accounts.length).map accountC))).set l1 (.own g1 131 2 c1 ((marksInstr (k + 2 * b.accounts.length) b.instrs.length).map accountC)))) (n := h0.length) (by simp only [List.length_set]) x r
  (try simp only [go_sem, w2]); repeat' (first | (with_reducible first | refine c_split ?_ ?_ | refine w_split ?_ ?_) <;> intro hb <;> try simp only [go_sem, hb, w2] | fail)
  have r2 : ((h0.set l0 (.own g0 129 2 c0 ((marksAccount k b.accounts.length).map accountC))).set l1 (.own g1 131 2 c1 ((marksInstr (k + 2 * b.accounts.length) b.instrs.length).map accountC)))[l2]? = some (.own g2 134 3 c2 (b.bals.map balC)) := (set_other d12 (set_other d02 e2))
  have s2 : l2 < ((h0.set l0 (.own g0 129 2 c0 ((marksAccount k b.accounts.length).map accountC))).set l1 (.own g1 131 2 c1 ((marksInstr (k + 2 * b.accounts.length) b.instrs.length).map accountC))).length := (List.getElem?_eq_some_iff.1 r2).1
  refine call_h (c_markBalS b.bals ((k + 2 * b.accounts.length) + 2 * b.instrs.length) l2 g2 c2 _ (h_old _ r2) n2 (by omega) (by omega) _ ?_)
  simp only [go_sem, List.set_append_left _ _ s2]
  have w3 := fun x r => app_new (h := (((h0.set l0 (.own g0 129 2 c0 ((marksAccount k b.accounts.length).map accountC))).set l1 (.own g1 131 2 c1 ((marksInstr (k + 2 * b.accounts.length) b.instrs.length).map accountC))).set l2 (.own g2 134 3 c2 ((marksBal ((k + 2 * b.accounts.length) + 2 * b.instrs.length) b.bals.length).map balC)))) (n := h0.length) (by simp only [List.length_set]) x r
  (try simp only [go_sem, w3]); repeat' (first | (with_reducible first | refine c_split ?_ ?_ | refine w_split ?_ ?_) <;> intro hb <;> try simp only [go_sem, hb, w3] | fail)
  have r3 : (((h0.set l0 (.own g0 129 2 c0 ((marksAccount k b.accounts.length).map accountC))).set l1 (.own g1 131 2 c1 ((marksInstr (k + 2 * b.accounts.length) b.instrs.length).map accountC))).set l2 (.own g2 134 3 c2 ((marksBal ((k + 2 * b.accounts.length) + 2 * b.instrs.length) b.bals.length).map balC)))[l3]? = some (.own g3 137 5 c3 (b.lots.map lotC)) := (set_other d23 (set_other d13 (set_other d03 e3)))
  have s3 : l3 < (((h0.set l0 (.own g0 129 2 c0 ((marksAccount k b.accounts.length).map accountC))).set l1 (.own g1 131 2 c1 ((marksInstr (k + 2 * b.accounts.length) b.instrs.length).map accountC))).set l2 (.own g2 134 3 c2 ((marksBal ((k + 2 * b.accounts.length) + 2 * b.instrs.length) b.bals.length).map balC))).length := (List.getElem?_eq_some_iff.1 r3).1
  refine call_h (c_markLotS b.lots (((k + 2 * b.accounts.length) + 2 * b.instrs.length) + 3 * b.bals.length) l3 g3 c3 _ (h_old _ r3) n3 (by omega) (by omega) _ ?_)
  simp only [go_sem, List.set_append_left _ _ s3]
  have w4 := fun x r => app_new (h := ((((h0.set l0 (.own g0 129 2 c0 ((marksAccount k b.accounts.length).map accountC))).set l1 (.own g1 131 2 c1 ((marksInstr (k + 2 * b.accounts.length) b.instrs.length).map accountC))).set l2 (.own g2 134 3 c2 ((marksBal ((k + 2 * b.accounts.length) + 2 * b.instrs.length) b.bals.length).map balC))).set l3 (.own g3 137 5 c3 ((marksLot (((k + 2 * b.accounts.length) + 2 * b.instrs.length) + 3 * b.bals.length) b.lots.length).map lotC)))) (n := h0.length) (by simp only [List.length_set]) x r
  (try simp only [go_sem, w4]); repeat' (first | (with_reducible first | refine c_split ?_ ?_ | refine w_split ?_ ?_) <;> intro hb <;> try simp only [go_sem, hb, w4] | fail)
  have r4 : ((((h0.set l0 (.own g0 129 2 c0 ((marksAccount k b.accounts.length).map accountC))).set l1 (.own g1 131 2 c1 ((marksInstr (k + 2 * b.accounts.length) b.instrs.length).map accountC))).set l2 (.own g2 134 3 c2 ((marksBal ((k + 2 * b.accounts.length) + 2 * b.instrs.length) b.bals.length).map balC))).set l3 (.own g3 137 5 c3 ((marksLot (((k + 2 * b.accounts.length) + 2 * b.instrs.length) + 3 * b.bals.length) b.lots.length).map lotC)))[l4]? = some (.own g4 140 8 c4 (b.trades.map tradeC)) := (set_other d34 (set_other d24 (set_other d14 (set_other d04 e4))))
  have s4 : l4 < ((((h0.set l0 (.own g0 129 2 c0 ((marksAccount k b.accounts.length).map accountC))).set l1 (.own g1 131 2 c1 ((marksInstr (k + 2 * b.accounts.length) b.instrs.length).map accountC))).set l2 (.own g2 134 3 c2 ((marksBal ((k + 2 * b.accounts.length) + 2 * b.instrs.length) b.bals.length).map balC))).set l3 (.own g3 137 5 c3 ((marksLot (((k + 2 * b.accounts.length) + 2 * b.instrs.length) + 3 * b.bals.length) b.lots.length).map lotC))).length := (List.getElem?_eq_some_iff.1 r4).1
  refine call_h (c_markTradeS b.trades ((((k + 2 * b.accounts.length) + 2 * b.instrs.length) + 3 * b.bals.length) + 5 * b.lots.length) l4 g4 c4 _ (h_old _ r4) n4 (by omega) (by omega) _ ?_)
  simp only [go_sem, List.set_append_left _ _ s4]
  have hwf : (((((h0.set l0 (.own g0 129 2 c0 ((marksAccount k b.accounts.length).map accountC))).set l1 (.own g1 131 2 c1 ((marksInstr (k + 2 * b.accounts.length) b.instrs.length).map accountC))).set l2 (.own g2 134 3 c2 ((marksBal ((k + 2 * b.accounts.length) + 2 * b.instrs.length) b.bals.length).map balC))).set l3 (.own g3 137 5 c3 ((marksLot (((k + 2 * b.accounts.length) + 2 * b.instrs.length) + 3 * b.bals.length) b.lots.length).map lotC))).set l4 (.own g4 140 8 c4 ((marksTrade ((((k + 2 * b.accounts.length) + 2 * b.instrs.length) + 3 * b.bals.length) + 5 * b.lots.length) b.trades.length).map tradeC))).all (ltO h0.length) = true := (wf_at (wf_at (wf_at (wf_at (wf_at hwf (by simp only [go_sem])) (by simp only [go_sem])) (by simp only [go_sem])) (by simp only [go_sem])) (by simp only [go_sem]))
  refine hQ ((((((h0.set l0 (.own g0 129 2 c0 ((marksAccount k b.accounts.length).map accountC))).set l1 (.own g1 131 2 c1 ((marksInstr (k + 2 * b.accounts.length) b.instrs.length).map accountC))).set l2 (.own g2 134 3 c2 ((marksBal ((k + 2 * b.accounts.length) + 2 * b.instrs.length) b.bals.length).map balC))).set l3 (.own g3 137 5 c3 ((marksLot (((k + 2 * b.accounts.length) + 2 * b.instrs.length) + 3 * b.bals.length) b.lots.length).map lotC))).set l4 (.own g4 140 8 c4 ((marksTrade ((((k + 2 * b.accounts.length) + 2 * b.instrs.length) + 3 * b.bals.length) + 5 * b.lots.length) b.trades.length).map tradeC)))) _ _ ?_; refine GC.now (ret_m (by simp only [go_sem, Tryz.f49]; exact _root_.id rfl) (by simp only [go_sem]) (by simp) (by first | exact hwf | exact wf_set hwf (by simp only [go_sem]) | exact wf_set2 hwf (by simp only [go_sem]) (by simp only [go_sem]) | (simp only [go_sem]; done)) (by first | exact ⟨_, _root_.id rfl⟩ | exact ⟨[], (List.append_nil _).symm⟩) ?_) <;> simp only [go_sem]
  exact hk
end Go.Proofs.YtlefjpbhbiajfaaGreat
end
section
namespace Go.Proofs.YtlefjpbhbiajfaaGreat
open Go.BL Go.RowKit
set_option linter.unusedVariables false
set_option linter.unusedSimpArgs false
set_option maxRecDepth 100000
attribute [local go_sem] accountC balC lotC tradeC booksC booksA fileC diskC
end Go.Proofs.YtlefjpbhbiajfaaGreat
end
section
namespace Go.Proofs.YtlefjpbhbiajfaaGreat
open Go.BL Go.RowKit
set_option linter.unusedVariables false
set_option linter.unusedSimpArgs false
set_option maxRecDepth 100000
attribute [local go_sem] accountC balC lotC tradeC booksC booksA fileC diskC
end Go.Proofs.YtlefjpbhbiajfaaGreat
end
section
namespace Go.Proofs.YtlefjpbhbiajfaaGreat
open Go.BL Go.RowKit
set_option linter.unusedVariables false
set_option linter.unusedSimpArgs false
set_option maxRecDepth 100000
attribute [local go_sem] accountC balC lotC tradeC booksC booksA fileC diskC saveC
def markedB (b : Books) (k : Int) : List CV := [.im ((marksAccount k b.accounts.length).map accountC), .im ((marksInstr (k + 2 * b.accounts.length) b.instrs.length).map accountC), .im ((marksBal ((k + 2 * b.accounts.length) + 2 * b.instrs.length) b.bals.length).map balC), .im ((marksLot (((k + 2 * b.accounts.length) + 2 * b.instrs.length) + 3 * b.bals.length) b.lots.length).map lotC), .im ((marksTrade ((((k + 2 * b.accounts.length) + 2 * b.instrs.length) + 3 * b.bals.length) + 5 * b.lots.length) b.trades.length).map tradeC), .c (.int .i64 (b.lot))]
theorem markN_ge (b : Books) (k : Int) : k ≤ markN b k := by unfold markN; omega
theorem c_heldBooks (b : Books) (hs : Small b) (k : Int) (hk0 : 0 ≤ k) (hk1 : k ≤ 10000000000) (K : AV → AH → Prop) (hk : K (.one (.c (.int .i64 (markN b k)))) []) : ACalls Tryz.prog 50 [.agg (markedB b k), (.one (.c (.int .i64 (k))))] [] K := by
  have n0 := hs.ha
  have n1 := hs.hi
  have n2 := hs.hb
  have n3 := hs.hl
  have n4 := hs.ht
  have d1 : decide ((k + 2 * b.accounts.length) < 0) = false := decide_eq_false (by omega)
  have d2 : decide (((k + 2 * b.accounts.length) + 2 * b.instrs.length) < 0) = false := decide_eq_false (by omega)
  have d3 : decide ((((k + 2 * b.accounts.length) + 2 * b.instrs.length) + 3 * b.bals.length) < 0) = false := decide_eq_false (by omega)
  have d4 : decide (((((k + 2 * b.accounts.length) + 2 * b.instrs.length) + 3 * b.bals.length) + 5 * b.lots.length) < 0) = false := decide_eq_false (by omega)
  have d5 : decide ((((((k + 2 * b.accounts.length) + 2 * b.instrs.length) + 3 * b.bals.length) + 5 * b.lots.length) + 8 * b.trades.length) < 0) = false := decide_eq_false (by omega)
  refine acall_c Tryz.f50.results.toList mixed Tryz.func50 rfl rfl (by kernel_rfl) ?_
  intro Q hQ hQO
  simp only [go_sem, markedB]
  (try simp only [go_sem, markedB, d1, d2, d3, d4, d5]); repeat' (first | (with_reducible first | refine c_split ?_ ?_ | refine w_split ?_ ?_) <;> intro hb <;> try simp only [go_sem, hb, markedB, d1, d2, d3, d4, d5] | (first | refine call_c (c_heldAccountS b.accounts.length k n0 (by omega) (by omega) _ ?_) | refine call_c (c_heldInstrS b.instrs.length (k + 2 * b.accounts.length) n1 (by omega) (by omega) _ ?_) | refine call_c (c_heldBalS b.bals.length ((k + 2 * b.accounts.length) + 2 * b.instrs.length) n2 (by omega) (by omega) _ ?_) | refine call_c (c_heldLotS b.lots.length (((k + 2 * b.accounts.length) + 2 * b.instrs.length) + 3 * b.bals.length) n3 (by omega) (by omega) _ ?_) | refine call_c (c_heldTradeS b.trades.length ((((k + 2 * b.accounts.length) + 2 * b.instrs.length) + 3 * b.bals.length) + 5 * b.lots.length) n4 (by omega) (by omega) _ ?_) | fail) <;> try simp only [go_sem, markedB, d1, d2, d3, d4, d5] | with_reducible refine hQ _ _ ?_ <;> simp only [Tryz.f50, go_sem, markedB, d1, d2, d3, d4, d5])
  exact hk
end Go.Proofs.YtlefjpbhbiajfaaGreat
end
section
namespace Go.Proofs.YtlefjpbhbiajfaaGreat
open Go.BL Go.RowKit
set_option linter.unusedVariables false
set_option linter.unusedSimpArgs false
set_option maxRecDepth 100000
attribute [local go_sem] fileC diskC fileC_len byteC
end Go.Proofs.YtlefjpbhbiajfaaGreat
end
section
namespace Go.Proofs.YtlefjpbhbiajfaaGreat
open Go.BL Go.RowKit
set_option linter.unusedVariables false
set_option linter.unusedSimpArgs false
set_option maxRecDepth 100000
attribute [local go_sem] diskC
theorem roomTo_mono (fs : List File) : ∀ {i j : Nat}, i ≤ j → roomTo fs i ≤ roomTo fs j := fun {i j} h => by
  induction j with
  | zero => rw [show i = 0 by omega]; exact Int.le_refl _
  | succ j ih =>
    rcases Nat.lt_or_ge i (j + 1) with h' | h'
    · refine Int.le_trans (ih (by omega)) ?_
      rw [roomTo]
      split
      · exact Int.le_add_of_nonneg_right (Int.add_nonneg (Int.natCast_nonneg _) (Int.natCast_nonneg _))
      · exact Int.le_add_of_nonneg_right (Int.le_refl _)
    · rw [show i = j + 1 by omega]; exact Int.le_refl _
theorem room_file {fs : List File} {i : Nat} {f : File} (h : fs[i]? = some f) : (f.safe.size : Int) + f.late.size ≤ roomTo fs fs.length := by
  obtain ⟨hi, e⟩ := List.getElem?_eq_some_iff.1 h
  have h1 := roomTo_succ fs i hi
  have h2 := roomTo_mono fs (show i + 1 ≤ fs.length by omega)
  have h3 := roomTo_nonneg fs i
  rw [e] at h1
  omega
theorem read_room {d : Disk} {name : Int} {s : ByteArray} (h : readA d name = some s) : (s.size : Int) ≤ roomTo d.files d.files.length := by
  unfold readA at h
  split at h
  · obtain ⟨f, hf, h2⟩ := Option.bind_eq_some_iff.1 h
    split at h2
    · cases h2
      rw [ByteArray.size_append]
      exact room_file hf
    · cases h2
  · cases h
end Go.Proofs.YtlefjpbhbiajfaaGreat
end
section
namespace Go.Proofs.YtlefjpbhbiajfaaGreat
open Go.BL Go.RowKit
set_option linter.unusedVariables false
set_option linter.unusedSimpArgs false
set_option maxRecDepth 100000
theorem d5_0_LSaveMark : DrawL Tryz.prog 0 41 [(0, true, true), (1, false, false), (2, false, false), (3, false, true), (4, false, true)] := draw_L
attribute [local go_sem] accountC balC lotC tradeC booksC booksA fileC diskC saveC saveA ownB
theorem c_markSave (s : Save) (hs : Small s.books) (k : Int) (l0 l1 l2 l3 l4 g0 g1 g2 g3 g4 : Nat) (c0 c1 c2 c3 c4 : Option Nat) (h0 : AH) (e0 : h0[l0]? = some (.own g0 129 2 c0 (s.books.accounts.map accountC))) (e1 : h0[l1]? = some (.own g1 131 2 c1 (s.books.instrs.map accountC))) (e2 : h0[l2]? = some (.own g2 134 3 c2 (s.books.bals.map balC))) (e3 : h0[l3]? = some (.own g3 137 5 c3 (s.books.lots.map lotC))) (e4 : h0[l4]? = some (.own g4 140 8 c4 (s.books.trades.map tradeC))) (d01 : l0 ≠ l1) (d02 : l0 ≠ l2) (d03 : l0 ≠ l3) (d04 : l0 ≠ l4) (d12 : l1 ≠ l2) (d13 : l1 ≠ l3) (d14 : l1 ≠ l4) (d23 : l2 ≠ l3) (d24 : l2 ≠ l4) (d34 : l3 ≠ l4) (hk0 : 0 ≤ k) (hk1 : k ≤ 10000000000)
    (K : AV → AH → Prop) (hk : K (.one (.c (.int .i64 (markN s.books k)))) (((((h0.set l0 (.own g0 129 2 c0 ((marksAccount k s.books.accounts.length).map accountC))).set l1 (.own g1 131 2 c1 ((marksInstr (k + 2 * s.books.accounts.length) s.books.instrs.length).map accountC))).set l2 (.own g2 134 3 c2 ((marksBal ((k + 2 * s.books.accounts.length) + 2 * s.books.instrs.length) s.books.bals.length).map balC))).set l3 (.own g3 137 5 c3 ((marksLot (((k + 2 * s.books.accounts.length) + 2 * s.books.instrs.length) + 3 * s.books.bals.length) s.books.lots.length).map lotC))).set l4 (.own g4 140 8 c4 ((marksTrade ((((k + 2 * s.books.accounts.length) + 2 * s.books.instrs.length) + 3 * s.books.bals.length) + 5 * s.books.lots.length) s.books.trades.length).map tradeC)))) : ACalls Tryz.prog 27 [.agg [.c (.int .i64 (s.from_)), .sl l0 g0 0 s.books.accounts.length, .sl l1 g1 0 s.books.instrs.length, .sl l2 g2 0 s.books.bals.length, .sl l3 g3 0 s.books.lots.length, .sl l4 g4 0 s.books.trades.length, .c (.int .i64 (s.books.lot))], (.one (.c (.int .i64 (k))))] h0 K := by
  refine acall_m Tryz.f27.results.toList mixed Tryz.func27 rfl rfl (by kernel_rfl) ?_
  intro hwf Q hQ
  simp only [go_sem, e0, e1, e2, e3, e4]
  refine call_h (c_markBooks s.books hs k l0 l1 l2 l3 l4 g0 g1 g2 g3 g4 c0 c1 c2 c3 c4 _ (h_old _ e0) (h_old _ e1) (h_old _ e2) (h_old _ e3) (h_old _ e4) d01 d02 d03 d04 d12 d13 d14 d23 d24 d34 hk0 hk1 _ ?_)
  have s0 : l0 < h0.length := by (try simp only [List.length_set]); exact (List.getElem?_eq_some_iff.1 e0).1
  have s1 : l1 < (h0.set l0 (.own g0 129 2 c0 ((marksAccount k s.books.accounts.length).map accountC))).length := by (try simp only [List.length_set]); exact (List.getElem?_eq_some_iff.1 e1).1
  have s2 : l2 < ((h0.set l0 (.own g0 129 2 c0 ((marksAccount k s.books.accounts.length).map accountC))).set l1 (.own g1 131 2 c1 ((marksInstr (k + 2 * s.books.accounts.length) s.books.instrs.length).map accountC))).length := by (try simp only [List.length_set]); exact (List.getElem?_eq_some_iff.1 e2).1
  have s3 : l3 < (((h0.set l0 (.own g0 129 2 c0 ((marksAccount k s.books.accounts.length).map accountC))).set l1 (.own g1 131 2 c1 ((marksInstr (k + 2 * s.books.accounts.length) s.books.instrs.length).map accountC))).set l2 (.own g2 134 3 c2 ((marksBal ((k + 2 * s.books.accounts.length) + 2 * s.books.instrs.length) s.books.bals.length).map balC))).length := by (try simp only [List.length_set]); exact (List.getElem?_eq_some_iff.1 e3).1
  have s4 : l4 < ((((h0.set l0 (.own g0 129 2 c0 ((marksAccount k s.books.accounts.length).map accountC))).set l1 (.own g1 131 2 c1 ((marksInstr (k + 2 * s.books.accounts.length) s.books.instrs.length).map accountC))).set l2 (.own g2 134 3 c2 ((marksBal ((k + 2 * s.books.accounts.length) + 2 * s.books.instrs.length) s.books.bals.length).map balC))).set l3 (.own g3 137 5 c3 ((marksLot (((k + 2 * s.books.accounts.length) + 2 * s.books.instrs.length) + 3 * s.books.bals.length) s.books.lots.length).map lotC))).length := by (try simp only [List.length_set]); exact (List.getElem?_eq_some_iff.1 e4).1
  simp only [go_sem, List.set_append_left _ _ s0, List.set_append_left _ _ s1, List.set_append_left _ _ s2, List.set_append_left _ _ s3, List.set_append_left _ _ s4]
  have hwf : (((((h0.set l0 (.own g0 129 2 c0 ((marksAccount k s.books.accounts.length).map accountC))).set l1 (.own g1 131 2 c1 ((marksInstr (k + 2 * s.books.accounts.length) s.books.instrs.length).map accountC))).set l2 (.own g2 134 3 c2 ((marksBal ((k + 2 * s.books.accounts.length) + 2 * s.books.instrs.length) s.books.bals.length).map balC))).set l3 (.own g3 137 5 c3 ((marksLot (((k + 2 * s.books.accounts.length) + 2 * s.books.instrs.length) + 3 * s.books.bals.length) s.books.lots.length).map lotC))).set l4 (.own g4 140 8 c4 ((marksTrade ((((k + 2 * s.books.accounts.length) + 2 * s.books.instrs.length) + 3 * s.books.bals.length) + 5 * s.books.lots.length) s.books.trades.length).map tradeC))).all (ltO h0.length) = true := (wf_at (wf_at (wf_at (wf_at (wf_at hwf (by simp only [go_sem])) (by simp only [go_sem])) (by simp only [go_sem])) (by simp only [go_sem])) (by simp only [go_sem]))
  refine hQ ((((((h0.set l0 (.own g0 129 2 c0 ((marksAccount k s.books.accounts.length).map accountC))).set l1 (.own g1 131 2 c1 ((marksInstr (k + 2 * s.books.accounts.length) s.books.instrs.length).map accountC))).set l2 (.own g2 134 3 c2 ((marksBal ((k + 2 * s.books.accounts.length) + 2 * s.books.instrs.length) s.books.bals.length).map balC))).set l3 (.own g3 137 5 c3 ((marksLot (((k + 2 * s.books.accounts.length) + 2 * s.books.instrs.length) + 3 * s.books.bals.length) s.books.lots.length).map lotC))).set l4 (.own g4 140 8 c4 ((marksTrade ((((k + 2 * s.books.accounts.length) + 2 * s.books.instrs.length) + 3 * s.books.bals.length) + 5 * s.books.lots.length) s.books.trades.length).map tradeC)))) _ _ ?_; refine GC.now (ret_m (by simp only [go_sem, Tryz.f27]; exact _root_.id rfl) (by simp only [go_sem]) (by simp) (by first | exact hwf | exact wf_set hwf (by simp only [go_sem]) | exact wf_set2 hwf (by simp only [go_sem]) (by simp only [go_sem]) | (simp only [go_sem]; done)) (by first | exact ⟨_, _root_.id rfl⟩ | exact ⟨[], (List.append_nil _).symm⟩) ?_) <;> simp only [go_sem]
  exact hk
def markedS (s : Save) (k : Int) : List CV := [.c (.int .i64 (s.from_)), .im ((marksAccount k s.books.accounts.length).map accountC), .im ((marksInstr (k + 2 * s.books.accounts.length) s.books.instrs.length).map accountC), .im ((marksBal ((k + 2 * s.books.accounts.length) + 2 * s.books.instrs.length) s.books.bals.length).map balC), .im ((marksLot (((k + 2 * s.books.accounts.length) + 2 * s.books.instrs.length) + 3 * s.books.bals.length) s.books.lots.length).map lotC), .im ((marksTrade ((((k + 2 * s.books.accounts.length) + 2 * s.books.instrs.length) + 3 * s.books.bals.length) + 5 * s.books.lots.length) s.books.trades.length).map tradeC), .c (.int .i64 (s.books.lot))]
theorem c_heldSave (s : Save) (hs : Small s.books) (k : Int) (hk0 : 0 ≤ k) (hk1 : k ≤ 10000000000) (K : AV → AH → Prop) (hk : K (.one (.c (.int .i64 (markN s.books k)))) []) : ACalls Tryz.prog 28 [.agg (markedS s k), (.one (.c (.int .i64 (k))))] [] K := by
  have d2 : decide (markN s.books k < 0) = false := decide_eq_false (by have := markN_ge s.books k; omega)
  have cB := fun K' hk' => c_heldBooks s.books hs k hk0 hk1 K' hk'
  simp only [markedB] at cB
  refine acall_c Tryz.f28.results.toList mixed Tryz.func28 rfl rfl (by kernel_rfl) ?_
  intro Q hQ hQO
  simp only [go_sem, markedS]
  (try simp only [go_sem, markedS, d2]); repeat' (first | (with_reducible first | refine c_split ?_ ?_ | refine w_split ?_ ?_) <;> intro hb <;> try simp only [go_sem, hb, markedS, d2] | refine call_c (cB _ ?_) <;> try simp only [go_sem, markedS, d2] | with_reducible refine hQ _ _ ?_ <;> simp only [Tryz.f28, go_sem, markedS, d2])
  exact hk
theorem saveR_small (d : Disk) : Small ((saveR d).getD ⟨0, zeroB⟩).books := by
  unfold saveR
  split
  · exact zero_small
  · split
    · split
      · exact zero_small
      · split
        · split
          · exact zero_small
          · rename_i hb; exact ok_small (books_back hb).2
        · exact zero_small
    · exact zero_small
theorem c_FnExactSaveLoad (d : Disk) (hz : SizedF d.files) (hn : d.files.length ≤ 1000000000000000) (K : AV → AH → Prop) (hk : K (.one (.c (.bool (true)))) []) : ACalls Tryz.prog 5 [.agg (diskC d)] [] K := by
  refine acall_c Tryz.f5.results.toList mixed Tryz.func5 rfl rfl (by kernel_rfl) ?_
  intro Q hQ hQO
  simp only [go_sem]
  (try simp only [go_sem]); repeat' (first | (with_reducible first | refine c_split ?_ ?_ | refine w_split ?_ ?_ | refine tw_split ?_ ?_) <;> intro hb <;> try simp only [go_sem, hb] | (first | with_reducible refine d5_0_LSaveMark (by with_unfolding_all rfl) (by kernel_rfl) ?_ | refine call_c (c_szDisk d _ hz hn (by decide) (by decide) _ (fun r hr => ?_)) | fail) <;> try simp only [go_sem] | with_reducible refine hQ _ _ ?_ <;> simp only [Tryz.f5, go_sem])
  · exact hk
  have hr2 := hr (by have := of_decide_eq_false hb; omega)
  have h3 := roomTo_nonneg d.files d.files.length
  have hn1 : d.files.length ≤ 1000000000 := by have := of_decide_eq_false hb; omega
  have hsz : ∀ s, readA d 21 = some s → s.size ≤ 1000000000000 := fun s h => by
    have := read_room h
    have := of_decide_eq_false hb
    omega
  have hs2 := saveR_small d
  have c1 := fun K' hk' => c_spec_SaveLoad d hn1 hz hsz K' hk'
  have c2 := fun K' hk' => c_impl_SaveLoad d hn1 hz hsz K' hk'
  have e1 : decide ((1 : Int) + 3 * d.files.length < 0) = false := decide_eq_false (by omega)
  clear hb hr hr2 h3
  generalize (saveR d).getD ⟨0, zeroB⟩ = s at hs2 c1 c2
  generalize (saveR d).isSome = z at c1 c2
  have e2 : decide (markN s.books 1 < 0) = false := decide_eq_false (by have := markN_ge s.books 1; omega)
  have cH := fun K' hk' => c_heldSave s hs2 1 (by decide) (by decide) K' hk'
  simp only [markedS] at cH
  (try simp only [go_sem, BEq.rfl, bne_self_eq_false, e1, e2, marksF_len, marksF_tk, marksAccount_len, marksAccount_tk, marksInstr_len, marksInstr_tk, marksBal_len, marksBal_tk, marksLot_len, marksLot_tk, marksTrade_len, marksTrade_tk]); repeat' (first | (with_reducible first | refine c_split ?_ ?_ | refine w_split ?_ ?_ | refine tw_split ?_ ?_) <;> intro hb <;> try simp only [go_sem, hb, BEq.rfl, bne_self_eq_false, e1, e2, marksF_len, marksF_tk, marksAccount_len, marksAccount_tk, marksInstr_len, marksInstr_tk, marksBal_len, marksBal_tk, marksLot_len, marksLot_tk, marksTrade_len, marksTrade_tk] | (first | with_reducible refine d5_0_LSaveMark (by with_unfolding_all rfl) (by kernel_rfl) ?_ | refine call_c (c_toDisk d hn1 _ ?_) | refine call_c (c1 _ ?_) | refine call_c (c2 _ ?_) | refine call_c (c_eqSave s hs2 _ ?_) | refine call_c (c_eqDisk d hn1 _ ?_) | refine call_h (c_markDisk _ d.files 1 3 0 _ _ rfl hn1 (by decide) (by decide) _ ?_) | refine call_h (c_markSave s hs2 1 5 6 7 8 9 0 0 0 0 0 _ _ _ _ _ _ rfl rfl rfl rfl rfl (by decide) (by decide) (by decide) (by decide) (by decide) (by decide) (by decide) (by decide) (by decide) (by decide) (by decide) (by decide) _ ?_) | refine call_c (cH _ ?_) | fail) <;> try simp only [go_sem, BEq.rfl, bne_self_eq_false, e1, e2, marksF_len, marksF_tk, marksAccount_len, marksAccount_tk, marksInstr_len, marksInstr_tk, marksBal_len, marksBal_tk, marksLot_len, marksLot_tk, marksTrade_len, marksTrade_tk] | with_reducible refine hQ _ _ ?_ <;> simp only [Tryz.f5, go_sem, BEq.rfl, bne_self_eq_false, e1, e2, marksF_len, marksF_tk, marksAccount_len, marksAccount_tk, marksInstr_len, marksInstr_tk, marksBal_len, marksBal_tk, marksLot_len, marksLot_tk, marksTrade_len, marksTrade_tk])
  exact hk
end Go.Proofs.YtlefjpbhbiajfaaGreat
end
section
namespace Go.BL
open Go.RowKit Go.ChangeShapes Go.WideShapes Go.ChangeAt Go.Joins Go.Deep
set_option linter.unusedVariables false
set_option linter.unusedSimpArgs false
def MW (W : World) : Im := fun a v => W.cell? a = some v ∧ a.block < W.heap.size
theorem mem_weightsAll {H : Type} {P : Program} {e : TypeId} : ∀ {ds : List (DataW H)} {i : Nat} {d : DataW H}, ds[i]? = some d → ∀ n ∈ d.weights P e, n ∈ DataW.weightsAll P e ds
  | [], i, d, h, _, _ => by simp at h
  | x :: r, 0, d, h, n, hn => by
    simp at h; subst h
    rw [DataW.weightsAll]
    exact List.mem_append_left _ hn
  | x :: r, i + 1, d, h, n, hn => by
    rw [DataW.weightsAll]
    exact List.mem_append_right _ (mem_weightsAll (by simpa using h) n hn)
section
variable {H : Type} {enc0 : TypeId × Value → H} {P : Program} {W : World} {hd : Bool}
def SaysC (W : World) (es : List CV) (cs : List Value) : Prop := cs.length = es.length ∧ ∀ (j : Nat) (c : CV), es[j]? = some c → ∃ u, cs[j]? = some u ∧ V0 (MW W) c u
def Elem {α : Type} (enc0 : TypeId × Value → H) (P : Program) (W : World) (hd : Bool) (e : TypeId) (enc : α → List CV) (good : α → Prop) : Prop :=
  ∀ (fuel : Nat) (cs : List Value) (x : DataW H × List MemPlace), cs.length = P.cellsOf e → DataW.trod enc0 P W 0 (fun _ => true) hd fuel e cs = some x → (∀ n ∈ x.1.weights P e, n ≤ reachBytes) → ∃ y : α, SaysC W (enc y) cs ∧ good y
theorem cell_ok {t e : TypeId} {a : Addr} {len cap : Nat} (ht : P.underlying t = some (.slice e)) (hok : Cell.okWide P W .any 0 t (.slice (some a) len cap)) : a.spot = none ∧ a.block < W.heap.size := by
  simp only [Cell.okWide, ht, Cell.ok] at hok
  obtain ⟨_, _, _, hs, row, cells, hsh, _⟩ := hok
  refine ⟨hs, ?_⟩
  unfold World.shape? at hsh
  split at hsh
  · rename_i q; exact (Array.getElem?_eq_some_iff.1 q).1
  · cases hsh
theorem open_row {α : Type} [Inhabited α] {enc : α → List CV} {good : α → Prop} {t e : TypeId} {k fuel : Nat} {v : Value} {x : DataW H × List MemPlace} (ht : P.underlying t = some (.slice e)) (hk : P.cellsOf e = k) (hek : ∀ y, (enc y).length = k) (hb : 1 ≤ P.bytesOf e)
    (hok : Cell.okWide P W .any 0 t v) (h : DataW.trod enc0 P W 0 (fun _ => true) hd fuel t [v] = some x) (hw : ∀ n ∈ x.1.weights P t, n ≤ reachBytes) (hE : Elem enc0 P W hd e enc good) :
    ∃ xs : List α, V0 (MW W) (.im (xs.map enc)) v ∧ xs.length ≤ 1000000000000000 ∧ ∀ y ∈ xs, good y := by
  rcases Deep.open_slice ht h with ⟨hcs, _⟩ | ⟨a, len, cap, m, n, D, Pl, hcs, _, hlc, hcm, hm, hx, hall⟩
  · simp at hcs
    subst hcs
    exact ⟨[], .im0 _ _, Nat.zero_le _, fun y hy => by simp at hy⟩
  · simp at hcs
    subst hcs
    have hm2 : m = cap := by simpa using hm
    subst hm2
    obtain ⟨hs, hbk⟩ := cell_ok ht hok
    obtain ⟨b, o, s⟩ := a
    simp only at hs hbk
    subst hs
    have hx1 : x.1 = .slice ((List.range len).map D) ((List.range (m - len)).map fun j => D (len + j)) := by rw [hx]
    have hwt : ∀ i, i < len → ∀ n ∈ (D i).weights P e, n ≤ reachBytes := by
      intro i hi n hn
      refine hw n ?_
      rw [hx1]
      simp only [DataW.weights, ht]
      refine List.mem_cons_of_mem _ (List.mem_append_left _ ?_)
      exact mem_weightsAll (i := i) (d := D i) (by simp [hi]) n hn
    have hln : len ≤ 1000000000000000 := by
      have h1 := hw ((len + (m - len)) * P.bytesOf e) (by rw [hx1]; simp [DataW.weights, ht])
      have hr : reachBytes ≤ 1000000000000000 := by decide
      have h2 : len * 1 ≤ (len + (m - len)) * P.bytesOf e := Nat.mul_le_mul (by omega) hb
      omega
    have hf : ∀ i : Nat, ∃ y : α, i < len → good y ∧ ∀ (j : Nat) (c : CV), (enc y)[j]? = some c → ∃ u, W.cell? ⟨b, o + (i * k + j), none⟩ = some u ∧ V0 (MW W) c u := by
      intro i
      by_cases hi : i < len
      · obtain ⟨cs', hcells, htr⟩ := hall i (by omega)
        rw [hk] at hcells
        obtain ⟨_, hl3, hcell⟩ := World.cells?_some hcells
        obtain ⟨y, ⟨hl, hsay⟩, hg⟩ := hE _ _ _ (hl3.trans hk.symm) htr (hwt i hi)
        refine ⟨y, fun _ => ⟨hg, fun j c hc => ?_⟩⟩
        obtain ⟨u, hu, hv⟩ := hsay j c hc
        have hj : j < k := by rw [← hl3]; exact (List.getElem?_eq_some_iff.1 hu).1
        have := hcell j hj
        rw [add_lit, add_lit, Nat.add_assoc] at this
        exact ⟨u, this.trans hu, hv⟩
      · exact ⟨default, fun q => absurd q hi⟩
    obtain ⟨g, hg⟩ := Classical.axiomOfChoice hf
    refine ⟨(List.range len).map g, ?_, by simpa using hln, fun y hy => ?_⟩
    · have hlen : (((List.range len).map g).map enc).length = len := by simp
      have hget : ∀ (i : Nat) (es : List CV), (((List.range len).map g).map enc)[i]? = some es → i < len ∧ es = enc (g i) := fun i es hi => by
        have hil : i < len := by rw [← hlen]; exact (List.getElem?_eq_some_iff.1 hi).1
        refine ⟨hil, ?_⟩
        rw [List.getElem?_map, List.getElem?_map, List.getElem?_range hil] at hi
        exact (Option.some.inj hi).symm
      have := V0.im (M := MW W) (((List.range len).map g).map enc) k b o m (fun i j => (W.cell? ⟨b, o + (i * k + j), none⟩).getD undef) (fun es hes => by
          obtain ⟨y, _, rfl⟩ := List.mem_map.1 hes
          exact hek y) (by rw [hlen]; exact hlc) (fun i es j c hi hj => by
          obtain ⟨hil, rfl⟩ := hget i es hi
          obtain ⟨u, hu, hv⟩ := (hg i hil).2 j c hj
          exact ⟨by rw [hu]; rfl, hbk⟩) (fun i es j c hi hj => by
          obtain ⟨hil, rfl⟩ := hget i es hi
          obtain ⟨u, hu, hv⟩ := (hg i hil).2 j c hj
          rw [hu]; exact hv)
      rw [hlen] at this
      exact this
    · obtain ⟨i, hi, rfl⟩ := List.mem_map.1 hy
      exact (hg i (by simpa using hi)).1
theorem struct_cell {t : TypeId} {cs : Array Value} {ts : List TypeId} {fs : Array Field} (ht : P.underlying t = some (.struct fs)) (hts : P.cellTypes P.depth t = some ts) (hok : Value.okWide P W .any 0 t (.agg cs)) (hl : cs.size = ts.length) (i : Nat) {v : Value} {u : TypeId} (hv : cs[i]? = some v) (hu : ts[i]? = some u) : Cell.okWide P W .any 0 u v := by
  simp only [Value.okWide, ht] at hok
  obtain ⟨cs', hcs, _, ts', hts', _, hc⟩ := hok
  cases hcs
  rw [hts] at hts'
  cases hts'
  obtain ⟨u', hu', hc'⟩ := hc i v hv
  have hil : i < ts.length := (List.getElem?_eq_some_iff.1 hu).1
  rw [Nat.mod_eq_of_lt hil, hu] at hu'
  cases hu'
  exact hc'
theorem reach_le {s : ByteArray} (h : s.data.toList.length ≤ reachBytes) : s.size ≤ 1000000000000000 := by
  have hr : reachBytes ≤ 1000000000000000 := by decide
  have : s.size = s.data.toList.length := rfl
  omega
end
end Go.BL
end
section
namespace Go.Proofs.YtlefjpbhbiajfaaGreat
open Go.BL Go.RowKit
set_option linter.unusedVariables false
set_option linter.unusedSimpArgs false
set_option maxRecDepth 100000
open Go.ChangeShapes Go.WideShapes Go.ChangeAt Go.Joins Go.Deep
section
variable {H : Type} {enc0 : TypeId × Value → H} {W : World} {hd : Bool}
def goodF (f : File) : Prop := f.safe.size ≤ 1000000000000000 ∧ f.late.size ≤ 1000000000000000
instance : Inhabited File := ⟨⟨0, ⟨#[]⟩, ⟨#[]⟩⟩⟩
theorem elem_file : Elem enc0 Tryz.prog W hd 160 fileC goodF := fun fuel cs x hl h hw => by
  have hc : Tryz.prog.cellsOf 160 = 3 := by kernel_rfl
  rw [hc] at hl
  match cs, hl with
  | [u, v, w], _ =>
    obtain ⟨y0, y1, y2, m, rfl, _, h0, h1, h2⟩ := trod_struct3 Tryz.underlying160 h
    have e3 : Tryz.prog.cellsOf 3 = 1 := by kernel_rfl
    have e9 : Tryz.prog.cellsOf 9 = 1 := by kernel_rfl
    simp only [e3, e9, List.drop_zero, List.drop_succ_cons, List.take_succ_cons, List.take_zero] at h0 h1 h2
    obtain ⟨a, rfl, _⟩ := one_int Tryz.underlying3 h0
    obtain ⟨b, hb, eb, _⟩ := DataW.trod_string Tryz.underlying9 h1
    obtain ⟨c, hc, ec, _⟩ := DataW.trod_string Tryz.underlying9 h2
    simp at hb hc
    subst hb hc
    refine ⟨⟨a, b, c⟩, ⟨rfl, fun j z hj => ?_⟩, reach_le (hw _ (by rw [eb]; simp [DataW.weights, Tryz.underlying160, DataW.weightsEach])), reach_le (hw _ (by rw [ec]; simp [DataW.weights, Tryz.underlying160, DataW.weightsEach]))⟩
    rcases j with _ | _ | _ | j
    · simp [fileC] at hj; subst hj; exact ⟨_, rfl, .c _ rfl⟩
    · simp [fileC] at hj; subst hj; exact ⟨_, rfl, .c _ rfl⟩
    · simp [fileC] at hj; subst hj; exact ⟨_, rfl, .c _ rfl⟩
    · simp [fileC] at hj
theorem open_disk {v : Value} {d : DataW H} {p : List MemPlace} (hok : Value.okWide Tryz.prog W .any 0 40 v) (h : DataW.Trod enc0 Tryz.prog W 0 (fun _ => true) hd 40 v d p) (hw : ∀ n ∈ d.weights Tryz.prog 40, n ≤ reachBytes) :
    ∃ d' : Disk, VA (fun _ => none) (MW W) (.agg (diskC d')) v ∧ SizedF d'.files ∧ d'.files.length ≤ 1000000000000000 := by
  obtain ⟨v0, v1, y0, y1, m, rfl, rfl, _, e0, e1⟩ := open_agg2 Tryz.underlying40 (by kernel_rfl) (by kernel_rfl) hok h
  obtain ⟨room, rfl, _⟩ := one_int Tryz.underlying3 e0
  have hok1 := struct_cell (i := 1) Tryz.underlying40 (ts := [3, 38]) (by kernel_rfl) hok rfl rfl rfl
  obtain ⟨xs, hx, hl, hg⟩ := open_row (k := 3) Tryz.underlying38 (by kernel_rfl) fileC_len (of_decide_eq_true (by kernel_rfl)) hok1 e1 (fun n hn => hw n (by
    simp only [DataW.weights, Tryz.underlying40, List.map_cons, List.map_nil, DataW.weightsEach]
    exact List.mem_append_right _ (List.mem_append_left _ hn))) elem_file
  refine ⟨⟨room, xs⟩, ⟨[.int .i64 room, v1], rfl, rfl, fun j x hj => ?_⟩, hg, hl⟩
  rcases j with _ | _ | j
  · simp [diskC] at hj; subst hj; exact ⟨_, rfl, .c _ rfl⟩
  · simp [diskC] at hj; subst hj; exact ⟨_, rfl, hx⟩
  · simp [diskC] at hj
end
end Go.Proofs.YtlefjpbhbiajfaaGreat
end
