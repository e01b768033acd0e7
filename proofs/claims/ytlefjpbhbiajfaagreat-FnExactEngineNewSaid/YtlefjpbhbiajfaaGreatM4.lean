/- Walks of functions of the program and the laws they rest on (4 of 4). Conditions: none. -/
import Derived.Test.YtlefjpbhbiajfaaGreatM3
section
namespace Go.Proofs.YtlefjpbhbiajfaaGreat
open Go.BL Go.RowKit
set_option linter.unusedVariables false
set_option linter.unusedSimpArgs false
set_option maxRecDepth 100000
attribute [local go_sem] accountC balC lotC tradeC booksC
def markAccount (k : Int) (i : Nat) : Account := ⟨k + 2 * i, k + 2 * i + 1⟩
def marksAccount (k : Int) (n : Nat) : List Account := (List.range n).map (markAccount k)
theorem marksAccount_len (k : Int) (n : Nat) : (marksAccount k n).length = n := by simp [marksAccount]
theorem marksAccount_tk (k : Int) (n : Nat) : ((marksAccount k n).map accountC).take n = (marksAccount k n).map accountC := List.take_of_length_le (by simp [marksAccount])
theorem c_markAccountS (xs : List Account) (k : Int) (l g : Nat) (cap : Option Nat) (h0 : AH) (hl : h0[l]? = some (.own g 129 2 cap (xs.map accountC))) (hn : xs.length ≤ 1000000000) (hk0 : 0 ≤ k) (hk1 : k ≤ 1000000000000)
    (K : AV → AH → Prop) (hk : K (.one (.c (.int .i64 (k + 2 * xs.length)))) (h0.set l (.own g 129 2 cap ((marksAccount k xs.length).map accountC)))) : ACalls Tryz.prog 118 [.one (.sl l g 0 xs.length), (.one (.c (.int .i64 (k))))] h0 K := by
  have hall : ∀ o, (h0.set l o)[l]? = some o := set_at hl
  refine acall_m Tryz.f118.results.toList mixed Tryz.func118 rfl rfl (by kernel_rfl) ?_
  intro hwf Q hQ
  simp only [go_sem, hl]
  refine for_at (xs.length) [0] (fun i f h => f 1 = (.one (.c (.int .i64 (k + 2 * i)))) ∧ f 5 = (.one (.c (.int .i64 (i)))) ∧ h = h0.set l (.own g 129 2 cap ((fillR (markAccount k) xs i).map accountC))) (GC.now ?_) ?_
  · simp only [go_sem, nc_0, true_and, hall, hl]
    rw [fill_0, set_same hl]; simp
  · rintro i f h J hi hA ⟨e1, e5, rfl⟩ hJ
    simp only [go_sem, hall, hl] at hA
    simp only [go_sem, hA, e1, e5, hall, hl]
    refine c_split (fun hb => ?_) (fun hb => ?_)
    rotate_left
    · simp only [go_sem, hb, hA, e1, e5, hall, hl]
      obtain rfl := ge_len hb hi
      refine hQ (h0.set l (.own g 129 2 cap ((fillR (markAccount k) xs xs.length).map accountC))) _ _ ?_; refine GC.now (ret_m (by simp only [go_sem, Tryz.f118, hA, e1, e5, hall, hl]; exact _root_.id rfl) (by simp only [go_sem]) (by simp) (by first | exact hwf | exact wf_set hwf (by simp only [go_sem, hA, e1, e5, hall, hl]) | exact wf_set2 hwf (by simp only [go_sem, hA, e1, e5, hall, hl]) (by simp only [go_sem, hA, e1, e5, hall, hl]) | (simp only [go_sem]; done)) (by first | exact ⟨_, _root_.id rfl⟩ | exact ⟨[], (List.append_nil _).symm⟩) ?_) <;> simp only [go_sem, hA, e1, e5, hall, hl]
      rw [fill_all]
      exact hk
    have hi := lt_len hb
    have hw := wrap_nat i (by omega)
    have hil : (i : Int) < ((xs.length : Nat) : Int) := Int.ofNat_lt.2 hi
    have hg0 : (xs)[i]? = some ((xs)[i]) := List.getElem?_eq_getElem (by omega)
    simp only [go_sem, hb, hA, e1, e5, hall, hl, hg0]
    try simp only [go_sem, hA, e1, e5, hall, hl, hil, hg0]
    have hold := fill_get (markAccount k) xs i
    rw [hg0] at hold
    have hself : ∀ x, ((fillR (markAccount k) xs i).set i x)[i]? = some x := set_at hold
    have hset : (fillR (markAccount k) xs i).set i ⟨k + 2 * i, k + 2 * i + 1⟩ = fillR (markAccount k) xs (i + 1) := fill_set (markAccount k) xs i hi _ rfl
    have w1 : wrap64 (k + 2 * (i : Int) + 1) = k + 2 * i + 1 := by unfold wrap64; omega
    have w2 : wrap64 (k + 2 * (i : Int) + 1 + 1) = k + 2 * ((i + 1 : Nat) : Int) := by unfold wrap64; omega
    (try simp only [go_sem, hA, e1, e5, hall, hl, hil, hg0, hold, hself, List.set_set, w1, w2]); repeat' (first | (with_reducible first | refine c_split ?_ ?_ | refine w_split ?_ ?_) <;> intro hb <;> try simp only [go_sem, hb, hA, e1, e5, hall, hl, hil, hg0, hold, hself, List.set_set, w1, w2] | fail)
    refine GC.now (hJ _ _ hi (by simp only [go_sem, hA, e1, e5, hall, hl]) ⟨?_, ?_, ?_⟩) <;> try simp only [go_sem, hA, e1, e5, hall, hl, hw, hset]
theorem c_heldAccountS (n : Nat) (k : Int) (hn : n ≤ 1000000000) (hk0 : 0 ≤ k) (hk1 : k ≤ 1000000000000) (K : AV → AH → Prop) (hk : K (.one (.c (.int .i64 (k + 2 * n)))) []) : ACalls Tryz.prog 123 [(.one (.im ((marksAccount k n).map accountC))), (.one (.c (.int .i64 (k))))] [] K := by
  have hm := marksAccount_len k n
  refine acall_c Tryz.f123.results.toList mixed Tryz.func123 rfl rfl (by kernel_rfl) ?_
  intro Q hQ hQO
  simp only [go_sem, BEq.rfl]
  refine for_at (n) [0] (fun i f h => f 1 = (.one (.c (.int .i64 (k + 2 * i)))) ∧ f 5 = (.one (.c (.int .i64 (i)))) ∧ h = []) (GC.now ?_) ?_
  · simp only [go_sem, nc_0, true_and, hm]
    simp
  · rintro i f h J hi hA ⟨e1, e5, rfl⟩ hJ
    simp only [go_sem, hm] at hA
    simp only [go_sem, hA, e1, e5, hm]
    refine c_split (fun hb => ?_) (fun hb => ?_)
    rotate_left
    · simp only [go_sem, hb, hA, e1, e5, hm]
      obtain rfl := ge_len hb hi
      (try simp only [go_sem, hA, e1, e5, hm]); repeat' (first | (with_reducible first | refine c_split ?_ ?_ | refine w_split ?_ ?_) <;> intro hb <;> try simp only [go_sem, hb, hA, e1, e5, hm] | with_reducible refine hQ _ _ ?_ <;> simp only [Tryz.f123, go_sem, hA, e1, e5, hm])
      exact hk
    have hi := lt_len hb
    have hw := wrap_nat i (by omega)
    have hil : (i : Int) < ((n : Nat) : Int) := Int.ofNat_lt.2 hi
    simp only [go_sem, hb, hA, e1, e5, hm]
    try simp only [go_sem, hA, e1, e5, hm, hil]
    have hg : (marksAccount k n)[i]? = some (markAccount k i) := by simp [marksAccount, hi]
    have w1 : wrap64 (k + 2 * (i : Int) + 1) = k + 2 * i + 1 := by unfold wrap64; omega
    have w2 : wrap64 (k + 2 * (i : Int) + 1 + 1) = k + 2 * ((i + 1 : Nat) : Int) := by unfold wrap64; omega
    (try simp only [go_sem, hA, e1, e5, hm, hil, hg, markAccount, BEq.rfl, w1, w2]); repeat' (first | (with_reducible first | refine c_split ?_ ?_ | refine w_split ?_ ?_) <;> intro hb <;> try simp only [go_sem, hb, hA, e1, e5, hm, hil, hg, markAccount, BEq.rfl, w1, w2] | fail)
    refine GC.now (hJ _ _ hi (by simp only [go_sem, hA, e1, e5, hm]) ⟨?_, ?_, ?_⟩) <;> try simp only [go_sem, hA, e1, e5, hm, hw]
def markInstr (k : Int) (i : Nat) : Account := ⟨k + 2 * i, k + 2 * i + 1⟩
def marksInstr (k : Int) (n : Nat) : List Account := (List.range n).map (markInstr k)
theorem marksInstr_len (k : Int) (n : Nat) : (marksInstr k n).length = n := by simp [marksInstr]
theorem marksInstr_tk (k : Int) (n : Nat) : ((marksInstr k n).map accountC).take n = (marksInstr k n).map accountC := List.take_of_length_le (by simp [marksInstr])
theorem c_markInstrS (xs : List Account) (k : Int) (l g : Nat) (cap : Option Nat) (h0 : AH) (hl : h0[l]? = some (.own g 131 2 cap (xs.map accountC))) (hn : xs.length ≤ 1000000000) (hk0 : 0 ≤ k) (hk1 : k ≤ 1000000000000)
    (K : AV → AH → Prop) (hk : K (.one (.c (.int .i64 (k + 2 * xs.length)))) (h0.set l (.own g 131 2 cap ((marksInstr k xs.length).map accountC)))) : ACalls Tryz.prog 119 [.one (.sl l g 0 xs.length), (.one (.c (.int .i64 (k))))] h0 K := by
  have hall : ∀ o, (h0.set l o)[l]? = some o := set_at hl
  refine acall_m Tryz.f119.results.toList mixed Tryz.func119 rfl rfl (by kernel_rfl) ?_
  intro hwf Q hQ
  simp only [go_sem, hl]
  refine for_at (xs.length) [0] (fun i f h => f 1 = (.one (.c (.int .i64 (k + 2 * i)))) ∧ f 5 = (.one (.c (.int .i64 (i)))) ∧ h = h0.set l (.own g 131 2 cap ((fillR (markInstr k) xs i).map accountC))) (GC.now ?_) ?_
  · simp only [go_sem, nc_0, true_and, hall, hl]
    rw [fill_0, set_same hl]; simp
  · rintro i f h J hi hA ⟨e1, e5, rfl⟩ hJ
    simp only [go_sem, hall, hl] at hA
    simp only [go_sem, hA, e1, e5, hall, hl]
    refine c_split (fun hb => ?_) (fun hb => ?_)
    rotate_left
    · simp only [go_sem, hb, hA, e1, e5, hall, hl]
      obtain rfl := ge_len hb hi
      refine hQ (h0.set l (.own g 131 2 cap ((fillR (markInstr k) xs xs.length).map accountC))) _ _ ?_; refine GC.now (ret_m (by simp only [go_sem, Tryz.f119, hA, e1, e5, hall, hl]; exact _root_.id rfl) (by simp only [go_sem]) (by simp) (by first | exact hwf | exact wf_set hwf (by simp only [go_sem, hA, e1, e5, hall, hl]) | exact wf_set2 hwf (by simp only [go_sem, hA, e1, e5, hall, hl]) (by simp only [go_sem, hA, e1, e5, hall, hl]) | (simp only [go_sem]; done)) (by first | exact ⟨_, _root_.id rfl⟩ | exact ⟨[], (List.append_nil _).symm⟩) ?_) <;> simp only [go_sem, hA, e1, e5, hall, hl]
      rw [fill_all]
      exact hk
    have hi := lt_len hb
    have hw := wrap_nat i (by omega)
    have hil : (i : Int) < ((xs.length : Nat) : Int) := Int.ofNat_lt.2 hi
    have hg0 : (xs)[i]? = some ((xs)[i]) := List.getElem?_eq_getElem (by omega)
    simp only [go_sem, hb, hA, e1, e5, hall, hl, hg0]
    try simp only [go_sem, hA, e1, e5, hall, hl, hil, hg0]
    have hold := fill_get (markInstr k) xs i
    rw [hg0] at hold
    have hself : ∀ x, ((fillR (markInstr k) xs i).set i x)[i]? = some x := set_at hold
    have hset : (fillR (markInstr k) xs i).set i ⟨k + 2 * i, k + 2 * i + 1⟩ = fillR (markInstr k) xs (i + 1) := fill_set (markInstr k) xs i hi _ rfl
    have w1 : wrap64 (k + 2 * (i : Int) + 1) = k + 2 * i + 1 := by unfold wrap64; omega
    have w2 : wrap64 (k + 2 * (i : Int) + 1 + 1) = k + 2 * ((i + 1 : Nat) : Int) := by unfold wrap64; omega
    (try simp only [go_sem, hA, e1, e5, hall, hl, hil, hg0, hold, hself, List.set_set, w1, w2]); repeat' (first | (with_reducible first | refine c_split ?_ ?_ | refine w_split ?_ ?_) <;> intro hb <;> try simp only [go_sem, hb, hA, e1, e5, hall, hl, hil, hg0, hold, hself, List.set_set, w1, w2] | fail)
    refine GC.now (hJ _ _ hi (by simp only [go_sem, hA, e1, e5, hall, hl]) ⟨?_, ?_, ?_⟩) <;> try simp only [go_sem, hA, e1, e5, hall, hl, hw, hset]
theorem c_heldInstrS (n : Nat) (k : Int) (hn : n ≤ 1000000000) (hk0 : 0 ≤ k) (hk1 : k ≤ 1000000000000) (K : AV → AH → Prop) (hk : K (.one (.c (.int .i64 (k + 2 * n)))) []) : ACalls Tryz.prog 124 [(.one (.im ((marksInstr k n).map accountC))), (.one (.c (.int .i64 (k))))] [] K := by
  have hm := marksInstr_len k n
  refine acall_c Tryz.f124.results.toList mixed Tryz.func124 rfl rfl (by kernel_rfl) ?_
  intro Q hQ hQO
  simp only [go_sem, BEq.rfl]
  refine for_at (n) [0] (fun i f h => f 1 = (.one (.c (.int .i64 (k + 2 * i)))) ∧ f 5 = (.one (.c (.int .i64 (i)))) ∧ h = []) (GC.now ?_) ?_
  · simp only [go_sem, nc_0, true_and, hm]
    simp
  · rintro i f h J hi hA ⟨e1, e5, rfl⟩ hJ
    simp only [go_sem, hm] at hA
    simp only [go_sem, hA, e1, e5, hm]
    refine c_split (fun hb => ?_) (fun hb => ?_)
    rotate_left
    · simp only [go_sem, hb, hA, e1, e5, hm]
      obtain rfl := ge_len hb hi
      (try simp only [go_sem, hA, e1, e5, hm]); repeat' (first | (with_reducible first | refine c_split ?_ ?_ | refine w_split ?_ ?_) <;> intro hb <;> try simp only [go_sem, hb, hA, e1, e5, hm] | with_reducible refine hQ _ _ ?_ <;> simp only [Tryz.f124, go_sem, hA, e1, e5, hm])
      exact hk
    have hi := lt_len hb
    have hw := wrap_nat i (by omega)
    have hil : (i : Int) < ((n : Nat) : Int) := Int.ofNat_lt.2 hi
    simp only [go_sem, hb, hA, e1, e5, hm]
    try simp only [go_sem, hA, e1, e5, hm, hil]
    have hg : (marksInstr k n)[i]? = some (markInstr k i) := by simp [marksInstr, hi]
    have w1 : wrap64 (k + 2 * (i : Int) + 1) = k + 2 * i + 1 := by unfold wrap64; omega
    have w2 : wrap64 (k + 2 * (i : Int) + 1 + 1) = k + 2 * ((i + 1 : Nat) : Int) := by unfold wrap64; omega
    (try simp only [go_sem, hA, e1, e5, hm, hil, hg, markInstr, BEq.rfl, w1, w2]); repeat' (first | (with_reducible first | refine c_split ?_ ?_ | refine w_split ?_ ?_) <;> intro hb <;> try simp only [go_sem, hb, hA, e1, e5, hm, hil, hg, markInstr, BEq.rfl, w1, w2] | fail)
    refine GC.now (hJ _ _ hi (by simp only [go_sem, hA, e1, e5, hm]) ⟨?_, ?_, ?_⟩) <;> try simp only [go_sem, hA, e1, e5, hm, hw]
def markBal (k : Int) (i : Nat) : Bal := ⟨k + 3 * i, k + 3 * i + 1, k + 3 * i + 2⟩
def marksBal (k : Int) (n : Nat) : List Bal := (List.range n).map (markBal k)
theorem marksBal_len (k : Int) (n : Nat) : (marksBal k n).length = n := by simp [marksBal]
theorem marksBal_tk (k : Int) (n : Nat) : ((marksBal k n).map balC).take n = (marksBal k n).map balC := List.take_of_length_le (by simp [marksBal])
theorem c_markBalS (xs : List Bal) (k : Int) (l g : Nat) (cap : Option Nat) (h0 : AH) (hl : h0[l]? = some (.own g 134 3 cap (xs.map balC))) (hn : xs.length ≤ 1000000000) (hk0 : 0 ≤ k) (hk1 : k ≤ 1000000000000)
    (K : AV → AH → Prop) (hk : K (.one (.c (.int .i64 (k + 3 * xs.length)))) (h0.set l (.own g 134 3 cap ((marksBal k xs.length).map balC)))) : ACalls Tryz.prog 120 [.one (.sl l g 0 xs.length), (.one (.c (.int .i64 (k))))] h0 K := by
  have hall : ∀ o, (h0.set l o)[l]? = some o := set_at hl
  refine acall_m Tryz.f120.results.toList mixed Tryz.func120 rfl rfl (by kernel_rfl) ?_
  intro hwf Q hQ
  simp only [go_sem, hl]
  refine for_at (xs.length) [0] (fun i f h => f 1 = (.one (.c (.int .i64 (k + 3 * i)))) ∧ f 5 = (.one (.c (.int .i64 (i)))) ∧ h = h0.set l (.own g 134 3 cap ((fillR (markBal k) xs i).map balC))) (GC.now ?_) ?_
  · simp only [go_sem, nc_0, true_and, hall, hl]
    rw [fill_0, set_same hl]; simp
  · rintro i f h J hi hA ⟨e1, e5, rfl⟩ hJ
    simp only [go_sem, hall, hl] at hA
    simp only [go_sem, hA, e1, e5, hall, hl]
    refine c_split (fun hb => ?_) (fun hb => ?_)
    rotate_left
    · simp only [go_sem, hb, hA, e1, e5, hall, hl]
      obtain rfl := ge_len hb hi
      refine hQ (h0.set l (.own g 134 3 cap ((fillR (markBal k) xs xs.length).map balC))) _ _ ?_; refine GC.now (ret_m (by simp only [go_sem, Tryz.f120, hA, e1, e5, hall, hl]; exact _root_.id rfl) (by simp only [go_sem]) (by simp) (by first | exact hwf | exact wf_set hwf (by simp only [go_sem, hA, e1, e5, hall, hl]) | exact wf_set2 hwf (by simp only [go_sem, hA, e1, e5, hall, hl]) (by simp only [go_sem, hA, e1, e5, hall, hl]) | (simp only [go_sem]; done)) (by first | exact ⟨_, _root_.id rfl⟩ | exact ⟨[], (List.append_nil _).symm⟩) ?_) <;> simp only [go_sem, hA, e1, e5, hall, hl]
      rw [fill_all]
      exact hk
    have hi := lt_len hb
    have hw := wrap_nat i (by omega)
    have hil : (i : Int) < ((xs.length : Nat) : Int) := Int.ofNat_lt.2 hi
    have hg0 : (xs)[i]? = some ((xs)[i]) := List.getElem?_eq_getElem (by omega)
    simp only [go_sem, hb, hA, e1, e5, hall, hl, hg0]
    try simp only [go_sem, hA, e1, e5, hall, hl, hil, hg0]
    have hold := fill_get (markBal k) xs i
    rw [hg0] at hold
    have hself : ∀ x, ((fillR (markBal k) xs i).set i x)[i]? = some x := set_at hold
    have hset : (fillR (markBal k) xs i).set i ⟨k + 3 * i, k + 3 * i + 1, k + 3 * i + 2⟩ = fillR (markBal k) xs (i + 1) := fill_set (markBal k) xs i hi _ rfl
    have w1 : wrap64 (k + 3 * (i : Int) + 1) = k + 3 * i + 1 := by unfold wrap64; omega
    have w2 : wrap64 (k + 3 * (i : Int) + 1 + 1) = k + 3 * i + 2 := by unfold wrap64; omega
    have w3 : wrap64 (k + 3 * (i : Int) + 2 + 1) = k + 3 * ((i + 1 : Nat) : Int) := by unfold wrap64; omega
    (try simp only [go_sem, hA, e1, e5, hall, hl, hil, hg0, hold, hself, List.set_set, w1, w2, w3]); repeat' (first | (with_reducible first | refine c_split ?_ ?_ | refine w_split ?_ ?_) <;> intro hb <;> try simp only [go_sem, hb, hA, e1, e5, hall, hl, hil, hg0, hold, hself, List.set_set, w1, w2, w3] | fail)
    refine GC.now (hJ _ _ hi (by simp only [go_sem, hA, e1, e5, hall, hl]) ⟨?_, ?_, ?_⟩) <;> try simp only [go_sem, hA, e1, e5, hall, hl, hw, hset]
theorem c_heldBalS (n : Nat) (k : Int) (hn : n ≤ 1000000000) (hk0 : 0 ≤ k) (hk1 : k ≤ 1000000000000) (K : AV → AH → Prop) (hk : K (.one (.c (.int .i64 (k + 3 * n)))) []) : ACalls Tryz.prog 125 [(.one (.im ((marksBal k n).map balC))), (.one (.c (.int .i64 (k))))] [] K := by
  have hm := marksBal_len k n
  refine acall_c Tryz.f125.results.toList mixed Tryz.func125 rfl rfl (by kernel_rfl) ?_
  intro Q hQ hQO
  simp only [go_sem, BEq.rfl]
  refine for_at (n) [0] (fun i f h => f 1 = (.one (.c (.int .i64 (k + 3 * i)))) ∧ f 5 = (.one (.c (.int .i64 (i)))) ∧ h = []) (GC.now ?_) ?_
  · simp only [go_sem, nc_0, true_and, hm]
    simp
  · rintro i f h J hi hA ⟨e1, e5, rfl⟩ hJ
    simp only [go_sem, hm] at hA
    simp only [go_sem, hA, e1, e5, hm]
    refine c_split (fun hb => ?_) (fun hb => ?_)
    rotate_left
    · simp only [go_sem, hb, hA, e1, e5, hm]
      obtain rfl := ge_len hb hi
      (try simp only [go_sem, hA, e1, e5, hm]); repeat' (first | (with_reducible first | refine c_split ?_ ?_ | refine w_split ?_ ?_) <;> intro hb <;> try simp only [go_sem, hb, hA, e1, e5, hm] | with_reducible refine hQ _ _ ?_ <;> simp only [Tryz.f125, go_sem, hA, e1, e5, hm])
      exact hk
    have hi := lt_len hb
    have hw := wrap_nat i (by omega)
    have hil : (i : Int) < ((n : Nat) : Int) := Int.ofNat_lt.2 hi
    simp only [go_sem, hb, hA, e1, e5, hm]
    try simp only [go_sem, hA, e1, e5, hm, hil]
    have hg : (marksBal k n)[i]? = some (markBal k i) := by simp [marksBal, hi]
    have w1 : wrap64 (k + 3 * (i : Int) + 1) = k + 3 * i + 1 := by unfold wrap64; omega
    have w2 : wrap64 (k + 3 * (i : Int) + 1 + 1) = k + 3 * i + 2 := by unfold wrap64; omega
    have w3 : wrap64 (k + 3 * (i : Int) + 2 + 1) = k + 3 * ((i + 1 : Nat) : Int) := by unfold wrap64; omega
    (try simp only [go_sem, hA, e1, e5, hm, hil, hg, markBal, BEq.rfl, w1, w2, w3]); repeat' (first | (with_reducible first | refine c_split ?_ ?_ | refine w_split ?_ ?_) <;> intro hb <;> try simp only [go_sem, hb, hA, e1, e5, hm, hil, hg, markBal, BEq.rfl, w1, w2, w3] | fail)
    refine GC.now (hJ _ _ hi (by simp only [go_sem, hA, e1, e5, hm]) ⟨?_, ?_, ?_⟩) <;> try simp only [go_sem, hA, e1, e5, hm, hw]
def markLot (k : Int) (i : Nat) : Lot := ⟨k + 5 * i, k + 5 * i + 1, k + 5 * i + 2, k + 5 * i + 3, k + 5 * i + 4⟩
def marksLot (k : Int) (n : Nat) : List Lot := (List.range n).map (markLot k)
theorem marksLot_len (k : Int) (n : Nat) : (marksLot k n).length = n := by simp [marksLot]
theorem marksLot_tk (k : Int) (n : Nat) : ((marksLot k n).map lotC).take n = (marksLot k n).map lotC := List.take_of_length_le (by simp [marksLot])
theorem c_markLotS (xs : List Lot) (k : Int) (l g : Nat) (cap : Option Nat) (h0 : AH) (hl : h0[l]? = some (.own g 137 5 cap (xs.map lotC))) (hn : xs.length ≤ 1000000000) (hk0 : 0 ≤ k) (hk1 : k ≤ 1000000000000)
    (K : AV → AH → Prop) (hk : K (.one (.c (.int .i64 (k + 5 * xs.length)))) (h0.set l (.own g 137 5 cap ((marksLot k xs.length).map lotC)))) : ACalls Tryz.prog 121 [.one (.sl l g 0 xs.length), (.one (.c (.int .i64 (k))))] h0 K := by
  have hall : ∀ o, (h0.set l o)[l]? = some o := set_at hl
  refine acall_m Tryz.f121.results.toList mixed Tryz.func121 rfl rfl (by kernel_rfl) ?_
  intro hwf Q hQ
  simp only [go_sem, hl]
  refine for_at (xs.length) [0] (fun i f h => f 1 = (.one (.c (.int .i64 (k + 5 * i)))) ∧ f 5 = (.one (.c (.int .i64 (i)))) ∧ h = h0.set l (.own g 137 5 cap ((fillR (markLot k) xs i).map lotC))) (GC.now ?_) ?_
  · simp only [go_sem, nc_0, true_and, hall, hl]
    rw [fill_0, set_same hl]; simp
  · rintro i f h J hi hA ⟨e1, e5, rfl⟩ hJ
    simp only [go_sem, hall, hl] at hA
    simp only [go_sem, hA, e1, e5, hall, hl]
    refine c_split (fun hb => ?_) (fun hb => ?_)
    rotate_left
    · simp only [go_sem, hb, hA, e1, e5, hall, hl]
      obtain rfl := ge_len hb hi
      refine hQ (h0.set l (.own g 137 5 cap ((fillR (markLot k) xs xs.length).map lotC))) _ _ ?_; refine GC.now (ret_m (by simp only [go_sem, Tryz.f121, hA, e1, e5, hall, hl]; exact _root_.id rfl) (by simp only [go_sem]) (by simp) (by first | exact hwf | exact wf_set hwf (by simp only [go_sem, hA, e1, e5, hall, hl]) | exact wf_set2 hwf (by simp only [go_sem, hA, e1, e5, hall, hl]) (by simp only [go_sem, hA, e1, e5, hall, hl]) | (simp only [go_sem]; done)) (by first | exact ⟨_, _root_.id rfl⟩ | exact ⟨[], (List.append_nil _).symm⟩) ?_) <;> simp only [go_sem, hA, e1, e5, hall, hl]
      rw [fill_all]
      exact hk
    have hi := lt_len hb
    have hw := wrap_nat i (by omega)
    have hil : (i : Int) < ((xs.length : Nat) : Int) := Int.ofNat_lt.2 hi
    have hg0 : (xs)[i]? = some ((xs)[i]) := List.getElem?_eq_getElem (by omega)
    simp only [go_sem, hb, hA, e1, e5, hall, hl, hg0]
    try simp only [go_sem, hA, e1, e5, hall, hl, hil, hg0]
    have hold := fill_get (markLot k) xs i
    rw [hg0] at hold
    have hself : ∀ x, ((fillR (markLot k) xs i).set i x)[i]? = some x := set_at hold
    have hset : (fillR (markLot k) xs i).set i ⟨k + 5 * i, k + 5 * i + 1, k + 5 * i + 2, k + 5 * i + 3, k + 5 * i + 4⟩ = fillR (markLot k) xs (i + 1) := fill_set (markLot k) xs i hi _ rfl
    have w1 : wrap64 (k + 5 * (i : Int) + 1) = k + 5 * i + 1 := by unfold wrap64; omega
    have w2 : wrap64 (k + 5 * (i : Int) + 1 + 1) = k + 5 * i + 2 := by unfold wrap64; omega
    have w3 : wrap64 (k + 5 * (i : Int) + 2 + 1) = k + 5 * i + 3 := by unfold wrap64; omega
    have w4 : wrap64 (k + 5 * (i : Int) + 3 + 1) = k + 5 * i + 4 := by unfold wrap64; omega
    have w5 : wrap64 (k + 5 * (i : Int) + 4 + 1) = k + 5 * ((i + 1 : Nat) : Int) := by unfold wrap64; omega
    (try simp only [go_sem, hA, e1, e5, hall, hl, hil, hg0, hold, hself, List.set_set, w1, w2, w3, w4, w5]); repeat' (first | (with_reducible first | refine c_split ?_ ?_ | refine w_split ?_ ?_) <;> intro hb <;> try simp only [go_sem, hb, hA, e1, e5, hall, hl, hil, hg0, hold, hself, List.set_set, w1, w2, w3, w4, w5] | fail)
    refine GC.now (hJ _ _ hi (by simp only [go_sem, hA, e1, e5, hall, hl]) ⟨?_, ?_, ?_⟩) <;> try simp only [go_sem, hA, e1, e5, hall, hl, hw, hset]
theorem c_heldLotS (n : Nat) (k : Int) (hn : n ≤ 1000000000) (hk0 : 0 ≤ k) (hk1 : k ≤ 1000000000000) (K : AV → AH → Prop) (hk : K (.one (.c (.int .i64 (k + 5 * n)))) []) : ACalls Tryz.prog 126 [(.one (.im ((marksLot k n).map lotC))), (.one (.c (.int .i64 (k))))] [] K := by
  have hm := marksLot_len k n
  refine acall_c Tryz.f126.results.toList mixed Tryz.func126 rfl rfl (by kernel_rfl) ?_
  intro Q hQ hQO
  simp only [go_sem, BEq.rfl]
  refine for_at (n) [0] (fun i f h => f 1 = (.one (.c (.int .i64 (k + 5 * i)))) ∧ f 5 = (.one (.c (.int .i64 (i)))) ∧ h = []) (GC.now ?_) ?_
  · simp only [go_sem, nc_0, true_and, hm]
    simp
  · rintro i f h J hi hA ⟨e1, e5, rfl⟩ hJ
    simp only [go_sem, hm] at hA
    simp only [go_sem, hA, e1, e5, hm]
    refine c_split (fun hb => ?_) (fun hb => ?_)
    rotate_left
    · simp only [go_sem, hb, hA, e1, e5, hm]
      obtain rfl := ge_len hb hi
      (try simp only [go_sem, hA, e1, e5, hm]); repeat' (first | (with_reducible first | refine c_split ?_ ?_ | refine w_split ?_ ?_) <;> intro hb <;> try simp only [go_sem, hb, hA, e1, e5, hm] | with_reducible refine hQ _ _ ?_ <;> simp only [Tryz.f126, go_sem, hA, e1, e5, hm])
      exact hk
    have hi := lt_len hb
    have hw := wrap_nat i (by omega)
    have hil : (i : Int) < ((n : Nat) : Int) := Int.ofNat_lt.2 hi
    simp only [go_sem, hb, hA, e1, e5, hm]
    try simp only [go_sem, hA, e1, e5, hm, hil]
    have hg : (marksLot k n)[i]? = some (markLot k i) := by simp [marksLot, hi]
    have w1 : wrap64 (k + 5 * (i : Int) + 1) = k + 5 * i + 1 := by unfold wrap64; omega
    have w2 : wrap64 (k + 5 * (i : Int) + 1 + 1) = k + 5 * i + 2 := by unfold wrap64; omega
    have w3 : wrap64 (k + 5 * (i : Int) + 2 + 1) = k + 5 * i + 3 := by unfold wrap64; omega
    have w4 : wrap64 (k + 5 * (i : Int) + 3 + 1) = k + 5 * i + 4 := by unfold wrap64; omega
    have w5 : wrap64 (k + 5 * (i : Int) + 4 + 1) = k + 5 * ((i + 1 : Nat) : Int) := by unfold wrap64; omega
    (try simp only [go_sem, hA, e1, e5, hm, hil, hg, markLot, BEq.rfl, w1, w2, w3, w4, w5]); repeat' (first | (with_reducible first | refine c_split ?_ ?_ | refine w_split ?_ ?_) <;> intro hb <;> try simp only [go_sem, hb, hA, e1, e5, hm, hil, hg, markLot, BEq.rfl, w1, w2, w3, w4, w5] | fail)
    refine GC.now (hJ _ _ hi (by simp only [go_sem, hA, e1, e5, hm]) ⟨?_, ?_, ?_⟩) <;> try simp only [go_sem, hA, e1, e5, hm, hw]
def markTrade (k : Int) (i : Nat) : Trade := ⟨k + 8 * i, k + 8 * i + 1, k + 8 * i + 2, k + 8 * i + 3, k + 8 * i + 4, k + 8 * i + 5, k + 8 * i + 6, k + 8 * i + 7⟩
def marksTrade (k : Int) (n : Nat) : List Trade := (List.range n).map (markTrade k)
theorem marksTrade_len (k : Int) (n : Nat) : (marksTrade k n).length = n := by simp [marksTrade]
theorem marksTrade_tk (k : Int) (n : Nat) : ((marksTrade k n).map tradeC).take n = (marksTrade k n).map tradeC := List.take_of_length_le (by simp [marksTrade])
theorem c_markTradeS (xs : List Trade) (k : Int) (l g : Nat) (cap : Option Nat) (h0 : AH) (hl : h0[l]? = some (.own g 140 8 cap (xs.map tradeC))) (hn : xs.length ≤ 1000000000) (hk0 : 0 ≤ k) (hk1 : k ≤ 1000000000000)
    (K : AV → AH → Prop) (hk : K (.one (.c (.int .i64 (k + 8 * xs.length)))) (h0.set l (.own g 140 8 cap ((marksTrade k xs.length).map tradeC)))) : ACalls Tryz.prog 122 [.one (.sl l g 0 xs.length), (.one (.c (.int .i64 (k))))] h0 K := by
  have hall : ∀ o, (h0.set l o)[l]? = some o := set_at hl
  refine acall_m Tryz.f122.results.toList mixed Tryz.func122 rfl rfl (by kernel_rfl) ?_
  intro hwf Q hQ
  simp only [go_sem, hl]
  refine for_at (xs.length) [0] (fun i f h => f 1 = (.one (.c (.int .i64 (k + 8 * i)))) ∧ f 5 = (.one (.c (.int .i64 (i)))) ∧ h = h0.set l (.own g 140 8 cap ((fillR (markTrade k) xs i).map tradeC))) (GC.now ?_) ?_
  · simp only [go_sem, nc_0, true_and, hall, hl]
    rw [fill_0, set_same hl]; simp
  · rintro i f h J hi hA ⟨e1, e5, rfl⟩ hJ
    simp only [go_sem, hall, hl] at hA
    simp only [go_sem, hA, e1, e5, hall, hl]
    refine c_split (fun hb => ?_) (fun hb => ?_)
    rotate_left
    · simp only [go_sem, hb, hA, e1, e5, hall, hl]
      obtain rfl := ge_len hb hi
      refine hQ (h0.set l (.own g 140 8 cap ((fillR (markTrade k) xs xs.length).map tradeC))) _ _ ?_; refine GC.now (ret_m (by simp only [go_sem, Tryz.f122, hA, e1, e5, hall, hl]; exact _root_.id rfl) (by simp only [go_sem]) (by simp) (by first | exact hwf | exact wf_set hwf (by simp only [go_sem, hA, e1, e5, hall, hl]) | exact wf_set2 hwf (by simp only [go_sem, hA, e1, e5, hall, hl]) (by simp only [go_sem, hA, e1, e5, hall, hl]) | (simp only [go_sem]; done)) (by first | exact ⟨_, _root_.id rfl⟩ | exact ⟨[], (List.append_nil _).symm⟩) ?_) <;> simp only [go_sem, hA, e1, e5, hall, hl]
      rw [fill_all]
      exact hk
    have hi := lt_len hb
    have hw := wrap_nat i (by omega)
    have hil : (i : Int) < ((xs.length : Nat) : Int) := Int.ofNat_lt.2 hi
    have hg0 : (xs)[i]? = some ((xs)[i]) := List.getElem?_eq_getElem (by omega)
    simp only [go_sem, hb, hA, e1, e5, hall, hl, hg0]
    try simp only [go_sem, hA, e1, e5, hall, hl, hil, hg0]
    have hold := fill_get (markTrade k) xs i
    rw [hg0] at hold
    have hself : ∀ x, ((fillR (markTrade k) xs i).set i x)[i]? = some x := set_at hold
    have hset : (fillR (markTrade k) xs i).set i ⟨k + 8 * i, k + 8 * i + 1, k + 8 * i + 2, k + 8 * i + 3, k + 8 * i + 4, k + 8 * i + 5, k + 8 * i + 6, k + 8 * i + 7⟩ = fillR (markTrade k) xs (i + 1) := fill_set (markTrade k) xs i hi _ rfl
    have w1 : wrap64 (k + 8 * (i : Int) + 1) = k + 8 * i + 1 := by unfold wrap64; omega
    have w2 : wrap64 (k + 8 * (i : Int) + 1 + 1) = k + 8 * i + 2 := by unfold wrap64; omega
    have w3 : wrap64 (k + 8 * (i : Int) + 2 + 1) = k + 8 * i + 3 := by unfold wrap64; omega
    have w4 : wrap64 (k + 8 * (i : Int) + 3 + 1) = k + 8 * i + 4 := by unfold wrap64; omega
    have w5 : wrap64 (k + 8 * (i : Int) + 4 + 1) = k + 8 * i + 5 := by unfold wrap64; omega
    have w6 : wrap64 (k + 8 * (i : Int) + 5 + 1) = k + 8 * i + 6 := by unfold wrap64; omega
    have w7 : wrap64 (k + 8 * (i : Int) + 6 + 1) = k + 8 * i + 7 := by unfold wrap64; omega
    have w8 : wrap64 (k + 8 * (i : Int) + 7 + 1) = k + 8 * ((i + 1 : Nat) : Int) := by unfold wrap64; omega
    (try simp only [go_sem, hA, e1, e5, hall, hl, hil, hg0, hold, hself, List.set_set, w1, w2, w3, w4, w5, w6, w7, w8]); repeat' (first | (with_reducible first | refine c_split ?_ ?_ | refine w_split ?_ ?_) <;> intro hb <;> try simp only [go_sem, hb, hA, e1, e5, hall, hl, hil, hg0, hold, hself, List.set_set, w1, w2, w3, w4, w5, w6, w7, w8] | fail)
    refine GC.now (hJ _ _ hi (by simp only [go_sem, hA, e1, e5, hall, hl]) ⟨?_, ?_, ?_⟩) <;> try simp only [go_sem, hA, e1, e5, hall, hl, hw, hset]
theorem c_heldTradeS (n : Nat) (k : Int) (hn : n ≤ 1000000000) (hk0 : 0 ≤ k) (hk1 : k ≤ 1000000000000) (K : AV → AH → Prop) (hk : K (.one (.c (.int .i64 (k + 8 * n)))) []) : ACalls Tryz.prog 127 [(.one (.im ((marksTrade k n).map tradeC))), (.one (.c (.int .i64 (k))))] [] K := by
  have hm := marksTrade_len k n
  refine acall_c Tryz.f127.results.toList mixed Tryz.func127 rfl rfl (by kernel_rfl) ?_
  intro Q hQ hQO
  simp only [go_sem, BEq.rfl]
  refine for_at (n) [0] (fun i f h => f 1 = (.one (.c (.int .i64 (k + 8 * i)))) ∧ f 5 = (.one (.c (.int .i64 (i)))) ∧ h = []) (GC.now ?_) ?_
  · simp only [go_sem, nc_0, true_and, hm]
    simp
  · rintro i f h J hi hA ⟨e1, e5, rfl⟩ hJ
    simp only [go_sem, hm] at hA
    simp only [go_sem, hA, e1, e5, hm]
    refine c_split (fun hb => ?_) (fun hb => ?_)
    rotate_left
    · simp only [go_sem, hb, hA, e1, e5, hm]
      obtain rfl := ge_len hb hi
      (try simp only [go_sem, hA, e1, e5, hm]); repeat' (first | (with_reducible first | refine c_split ?_ ?_ | refine w_split ?_ ?_) <;> intro hb <;> try simp only [go_sem, hb, hA, e1, e5, hm] | with_reducible refine hQ _ _ ?_ <;> simp only [Tryz.f127, go_sem, hA, e1, e5, hm])
      exact hk
    have hi := lt_len hb
    have hw := wrap_nat i (by omega)
    have hil : (i : Int) < ((n : Nat) : Int) := Int.ofNat_lt.2 hi
    simp only [go_sem, hb, hA, e1, e5, hm]
    try simp only [go_sem, hA, e1, e5, hm, hil]
    have hg : (marksTrade k n)[i]? = some (markTrade k i) := by simp [marksTrade, hi]
    have w1 : wrap64 (k + 8 * (i : Int) + 1) = k + 8 * i + 1 := by unfold wrap64; omega
    have w2 : wrap64 (k + 8 * (i : Int) + 1 + 1) = k + 8 * i + 2 := by unfold wrap64; omega
    have w3 : wrap64 (k + 8 * (i : Int) + 2 + 1) = k + 8 * i + 3 := by unfold wrap64; omega
    have w4 : wrap64 (k + 8 * (i : Int) + 3 + 1) = k + 8 * i + 4 := by unfold wrap64; omega
    have w5 : wrap64 (k + 8 * (i : Int) + 4 + 1) = k + 8 * i + 5 := by unfold wrap64; omega
    have w6 : wrap64 (k + 8 * (i : Int) + 5 + 1) = k + 8 * i + 6 := by unfold wrap64; omega
    have w7 : wrap64 (k + 8 * (i : Int) + 6 + 1) = k + 8 * i + 7 := by unfold wrap64; omega
    have w8 : wrap64 (k + 8 * (i : Int) + 7 + 1) = k + 8 * ((i + 1 : Nat) : Int) := by unfold wrap64; omega
    (try simp only [go_sem, hA, e1, e5, hm, hil, hg, markTrade, BEq.rfl, w1, w2, w3, w4, w5, w6, w7, w8]); repeat' (first | (with_reducible first | refine c_split ?_ ?_ | refine w_split ?_ ?_) <;> intro hb <;> try simp only [go_sem, hb, hA, e1, e5, hm, hil, hg, markTrade, BEq.rfl, w1, w2, w3, w4, w5, w6, w7, w8] | fail)
    refine GC.now (hJ _ _ hi (by simp only [go_sem, hA, e1, e5, hm]) ⟨?_, ?_, ?_⟩) <;> try simp only [go_sem, hA, e1, e5, hm, hw]
def markN (b : Books) (k : Int) : Int := k + 2 * b.accounts.length + 2 * b.instrs.length + 3 * b.bals.length + 5 * b.lots.length + 8 * b.trades.length
theorem app_new {h : AH} {n : Nat} (e : h.length = n) (x : AO) (r : AH) : (h ++ x :: r)[n]? = some x := by subst e; simp
theorem wf_at {h : AH} {n l : Nat} {o : AO} (hw : h.all (ltO n) = true) (ho : ltO n o = true) : (h.set l o).all (ltO n) = true := by
  rw [List.all_eq_true]
  intro x hx
  rcases List.mem_or_eq_of_mem_set hx with hx | rfl
  · exact (List.all_eq_true.1 hw) x hx
  · exact ho
theorem set_other {h : AH} {a b : Nat} {o : AO} {x : Option AO} (hne : a ≠ b) (h1 : h[b]? = x) : (h.set a o)[b]? = x := by rw [List.getElem?_set_ne hne]; exact h1
theorem c_markBooks (b : Books) (hs : Small b) (k : Int) (l0 l1 l2 l3 l4 g0 g1 g2 g3 g4 : Nat) (c0 c1 c2 c3 c4 : Option Nat) (h0 : AH) (e0 : h0[l0]? = some (.own g0 129 2 c0 (b.accounts.map accountC))) (e1 : h0[l1]? = some (.own g1 131 2 c1 (b.instrs.map accountC))) (e2 : h0[l2]? = some (.own g2 134 3 c2 (b.bals.map balC))) (e3 : h0[l3]? = some (.own g3 137 5 c3 (b.lots.map lotC))) (e4 : h0[l4]? = some (.own g4 140 8 c4 (b.trades.map tradeC))) (d01 : l0 ≠ l1) (d02 : l0 ≠ l2) (d03 : l0 ≠ l3) (d04 : l0 ≠ l4) (d12 : l1 ≠ l2) (d13 : l1 ≠ l3) (d14 : l1 ≠ l4) (d23 : l2 ≠ l3) (d24 : l2 ≠ l4) (d34 : l3 ≠ l4) (hk0 : 0 ≤ k) (hk1 : k ≤ 10000000000)
    (K : AV → AH → Prop) (hk : K (.one (.c (.int .i64 (markN b k)))) (((((h0.set l0 (.own g0 129 2 c0 ((marksAccount k b.accounts.length).map accountC))).set l1 (.own g1 131 2 c1 ((marksInstr (k + 2 * b.accounts.length) b.instrs.length).map accountC))).set l2 (.own g2 134 3 c2 ((marksBal ((k + 2 * b.accounts.length) + 2 * b.instrs.length) b.bals.length).map balC))).set l3 (.own g3 137 5 c3 ((marksLot (((k + 2 * b.accounts.length) + 2 * b.instrs.length) + 3 * b.bals.length) b.lots.length).map lotC))).set l4 (.own g4 140 8 c4 ((marksTrade ((((k + 2 * b.accounts.length) + 2 * b.instrs.length) + 3 * b.bals.length) + 5 * b.lots.length) b.trades.length).map tradeC)))) : ACalls Tryz.prog 49 [.agg [.sl l0 g0 0 b.accounts.length, .sl l1 g1 0 b.instrs.length, .sl l2 g2 0 b.bals.length, .sl l3 g3 0 b.lots.length, .sl l4 g4 0 b.trades.length, .c (.int .i64 (b.lot))], (.one (.c (.int .i64 (k))))] h0 K := by
  have t0 := (List.getElem?_eq_some_iff.1 e0).1
  have t1 := (List.getElem?_eq_some_iff.1 e1).1
  have t2 := (List.getElem?_eq_some_iff.1 e2).1
  have t3 := (List.getElem?_eq_some_iff.1 e3).1
  have t4 := (List.getElem?_eq_some_iff.1 e4).1
  have n0 := hs.ha
  have n1 := hs.hi
  have n2 := hs.hb
  have n3 := hs.hl
  have n4 := hs.ht
  refine acall_m Tryz.f49.results.toList mixed Tryz.func49 rfl rfl (by kernel_rfl) ?_
  intro hwf Q hQ
  simp only [go_sem, e0, e1, e2, e3, e4]
  have r0 : h0[l0]? = some (.own g0 129 2 c0 (b.accounts.map accountC)) := e0
  have s0 : l0 < h0.length := (List.getElem?_eq_some_iff.1 r0).1
  refine call_h (c_markAccountS b.accounts k l0 g0 c0 _ (h_old _ r0) n0 (by omega) (by omega) _ ?_)
  simp only [go_sem, List.set_append_left _ _ s0]
  have w1 := fun x r => app_new (h := (h0.set l0 (.own g0 129 2 c0 ((marksAccount k b.accounts.length).map accountC)))) (n := h0.length) (by simp only [List.length_set]) x r
  (try simp only [go_sem, w1]); repeat' (first | (with_reducible first | refine c_split ?_ ?_ | refine w_split ?_ ?_) <;> intro hb <;> try simp only [go_sem, hb, w1] | fail)
  have r1 : (h0.set l0 (.own g0 129 2 c0 ((marksAccount k b.accounts.length).map accountC)))[l1]? = some (.own g1 131 2 c1 (b.instrs.map accountC)) := (set_other d01 e1)
  have s1 : l1 < (h0.set l0 (.own g0 129 2 c0 ((marksAccount k b.accounts.length).map accountC))).length := (List.getElem?_eq_some_iff.1 r1).1
  refine call_h (c_markInstrS b.instrs (k + 2 * b.accounts.length) l1 g1 c1 _ (h_old _ r1) n1 (by omega) (by omega) _ ?_)
  simp only [go_sem, List.set_append_left _ _ s1]
  have w2 := fun x r => app_new (h := ((h0.set l0 (.own g0 129 2 c0 ((marksAccount k b.accounts.length).map accountC))).set l1 (.own g1 131 2 c1 ((marksInstr (k + 2 * b.accounts.length) b.instrs.length).map accountC)))) (n := h0.length) (by simp only [List.length_set]) x r
  (try simp only [go_sem, w2]); repeat' (first | (with_reducible first | refine c_split ?_ ?_ | refine w_split ?_ ?_) <;> intro hb <;> try simp only [go_sem, hb, w2] | fail)
  have r2 : ((h0.set l0 (.own g0 129 2 c0 ((marksAccount k b.accounts.length).map accountC))).set l1 (.own g1 131 2 c1 ((marksInstr (k + 2 * b.accounts.length) b.instrs.length).map accountC)))[l2]? = some (.own g2 134 3 c2 (b.bals.map balC)) := (set_other d12 (set_other d02 e2))
  have s2 : l2 < ((h0.set l0 (.own g0 129 2 c0 ((marksAccount k b.accounts.length).map accountC))).set l1 (.own g1 131 2 c1 ((marksInstr (k + 2 * b.accounts.length) b.instrs.length).map accountC))).length := (List.getElem?_eq_some_iff.1 r2).1
  refine call_h (c_markBalS b.bals ((k + 2 * b.accounts.length) + 2 * b.instrs.length) l2 g2 c2 _ (h_old _ r2) n2 (by omega) (by omega) _ ?_)
  simp only [go_sem, List.set_append_left _ _ s2]
  have w3 := fun x r => app_new (h := (((h0.set l0 (.own g0 129 2 c0 ((marksAccount k b.accounts.length).map accountC))).set l1 (.own g1 131 2 c1 ((marksInstr (k + 2 * b.accounts.length) b.instrs.length).map accountC))).set l2 (.own g2 134 3 c2 ((marksBal ((k + 2 * b.accounts.length) + 2 * b.instrs.length) b.bals.length).map balC)))) (n := h0.length) (by simp only [List.length_set]) x r
  (try simp only [go_sem, w3]); repeat' (first | (with_reducible first | refine c_split ?_ ?_ | refine w_split ?_ ?_) <;> intro hb <;> try simp only [go_sem, hb, w3] | fail)
  have r3 : (((h0.set l0 (.own g0 129 2 c0 ((marksAccount k b.accounts.length).map accountC))).set l1 (.own g1 131 2 c1 ((marksInstr (k + 2 * b.accounts.length) b.instrs.length).map accountC))).set l2 (.own g2 134 3 c2 ((marksBal ((k + 2 * b.accounts.length) + 2 * b.instrs.length) b.bals.length).map balC)))[l3]? = some (.own g3 137 5 c3 (b.lots.map lotC)) := (set_other d23 (set_other d13 (set_other d03 e3)))
  have s3 : l3 < (((h0.set l0 (.own g0 129 2 c0 ((marksAccount k b.accounts.length).map accountC))).set l1 (.own g1 131 2 c1 ((marksInstr (k + 2 * b.accounts.length) b.instrs.length).map accountC))).set l2 (.own g2 134 3 c2 ((marksBal ((k + 2 * b.accounts.length) + 2 * b.instrs.length) b.bals.length).map balC))).length := (List.getElem?_eq_some_iff.1 r3).1
  refine call_h (c_markLotS b.lots (((k + 2 * b.accounts.length) + 2 * b.instrs.length) + 3 * b.bals.length) l3 g3 c3 _ (h_old _ r3) n3 (by omega) (by omega) _ ?_)
  simp only [go_sem, List.set_append_left _ _ s3]
  have w4 := fun x r => app_new (h := ((((h0.set l0 (.own g0 129 2 c0 ((marksAccount k b.accounts.length).map accountC))).set l1 (.own g1 131 2 c1 ((marksInstr (k + 2 * b.accounts.length) b.instrs.length).map accountC))).set l2 (.own g2 134 3 c2 ((marksBal ((k + 2 * b.accounts.length) + 2 * b.instrs.length) b.bals.length).map balC))).set l3 (.own g3 137 5 c3 ((marksLot (((k + 2 * b.accounts.length) + 2 * b.instrs.length) + 3 * b.bals.length) b.lots.length).map lotC)))) (n := h0.length) (by simp only [List.length_set]) x r
  (try simp only [go_sem, w4]); repeat' (first | (with_reducible first | refine c_split ?_ ?_ | refine w_split ?_ ?_) <;> intro hb <;> try simp only [go_sem, hb, w4] | fail)
  have r4 : ((((h0.set l0 (.own g0 129 2 c0 ((marksAccount k b.accounts.length).map accountC))).set l1 (.own g1 131 2 c1 ((marksInstr (k + 2 * b.accounts.length) b.instrs.length).map accountC))).set l2 (.own g2 134 3 c2 ((marksBal ((k + 2 * b.accounts.length) + 2 * b.instrs.length) b.bals.length).map balC))).set l3 (.own g3 137 5 c3 ((marksLot (((k + 2 * b.accounts.length) + 2 * b.instrs.length) + 3 * b.bals.length) b.lots.length).map lotC)))[l4]? = some (.own g4 140 8 c4 (b.trades.map tradeC)) := (set_other d34 (set_other d24 (set_other d14 (set_other d04 e4))))
  have s4 : l4 < ((((h0.set l0 (.own g0 129 2 c0 ((marksAccount k b.accounts.length).map accountC))).set l1 (.own g1 131 2 c1 ((marksInstr (k + 2 * b.accounts.length) b.instrs.length).map accountC))).set l2 (.own g2 134 3 c2 ((marksBal ((k + 2 * b.accounts.length) + 2 * b.instrs.length) b.bals.length).map balC))).set l3 (.own g3 137 5 c3 ((marksLot (((k + 2 * b.accounts.length) + 2 * b.instrs.length) + 3 * b.bals.length) b.lots.length).map lotC))).length := (List.getElem?_eq_some_iff.1 r4).1
  refine call_h (c_markTradeS b.trades ((((k + 2 * b.accounts.length) + 2 * b.instrs.length) + 3 * b.bals.length) + 5 * b.lots.length) l4 g4 c4 _ (h_old _ r4) n4 (by omega) (by omega) _ ?_)
  simp only [go_sem, List.set_append_left _ _ s4]
  have hwf : (((((h0.set l0 (.own g0 129 2 c0 ((marksAccount k b.accounts.length).map accountC))).set l1 (.own g1 131 2 c1 ((marksInstr (k + 2 * b.accounts.length) b.instrs.length).map accountC))).set l2 (.own g2 134 3 c2 ((marksBal ((k + 2 * b.accounts.length) + 2 * b.instrs.length) b.bals.length).map balC))).set l3 (.own g3 137 5 c3 ((marksLot (((k + 2 * b.accounts.length) + 2 * b.instrs.length) + 3 * b.bals.length) b.lots.length).map lotC))).set l4 (.own g4 140 8 c4 ((marksTrade ((((k + 2 * b.accounts.length) + 2 * b.instrs.length) + 3 * b.bals.length) + 5 * b.lots.length) b.trades.length).map tradeC))).all (ltO h0.length) = true := (wf_at (wf_at (wf_at (wf_at (wf_at hwf (by simp only [go_sem])) (by simp only [go_sem])) (by simp only [go_sem])) (by simp only [go_sem])) (by simp only [go_sem]))
  refine hQ ((((((h0.set l0 (.own g0 129 2 c0 ((marksAccount k b.accounts.length).map accountC))).set l1 (.own g1 131 2 c1 ((marksInstr (k + 2 * b.accounts.length) b.instrs.length).map accountC))).set l2 (.own g2 134 3 c2 ((marksBal ((k + 2 * b.accounts.length) + 2 * b.instrs.length) b.bals.length).map balC))).set l3 (.own g3 137 5 c3 ((marksLot (((k + 2 * b.accounts.length) + 2 * b.instrs.length) + 3 * b.bals.length) b.lots.length).map lotC))).set l4 (.own g4 140 8 c4 ((marksTrade ((((k + 2 * b.accounts.length) + 2 * b.instrs.length) + 3 * b.bals.length) + 5 * b.lots.length) b.trades.length).map tradeC)))) _ _ ?_; refine GC.now (ret_m (by simp only [go_sem, Tryz.f49]; exact _root_.id rfl) (by simp only [go_sem]) (by simp) (by first | exact hwf | exact wf_set hwf (by simp only [go_sem]) | exact wf_set2 hwf (by simp only [go_sem]) (by simp only [go_sem]) | (simp only [go_sem]; done)) (by first | exact ⟨_, _root_.id rfl⟩ | exact ⟨[], (List.append_nil _).symm⟩) ?_) <;> simp only [go_sem]
  exact hk
end Go.Proofs.YtlefjpbhbiajfaaGreat
end
section
namespace Go.Proofs.YtlefjpbhbiajfaaGreat
open Go.BL Go.RowKit
set_option linter.unusedVariables false
set_option linter.unusedSimpArgs false
set_option maxRecDepth 100000
attribute [local go_sem] accountC balC lotC tradeC booksC fileC diskC engC
def engA (e : Eng) : AV := .agg [.c (.bool (e.up)), .c (.int .i64 (e.disk.room)), .sl 0 0 0 e.disk.files.length, .sl 1 0 0 e.books.accounts.length, .sl 2 0 0 e.books.instrs.length, .sl 3 0 0 e.books.bals.length, .sl 4 0 0 e.books.lots.length, .sl 5 0 0 e.books.trades.length, .c (.int .i64 (e.books.lot)), .c (.int .i64 (e.seg)), .c (.int .i64 (e.count))]
theorem c_eqEngine (e : Eng) (hs : SmallE e) (K : AV → AH → Prop) (hk : K (.one (.c (.bool (true)))) []) : ACalls Tryz.prog 13 [.agg (engC e), .agg (engC e)] [] K := by
  have hu : (e.up == e.up) = true := BEq.rfl
  refine acall_c Tryz.f13.results.toList mixed Tryz.func13 rfl rfl (by kernel_rfl) ?_
  intro Q hQ hQO
  simp only [go_sem]
  (try simp only [go_sem, BEq.rfl, bne_self_eq_false, hu]); repeat' (first | (with_reducible first | refine c_split ?_ ?_ | refine w_split ?_ ?_) <;> intro hb <;> try simp only [go_sem, hb, BEq.rfl, bne_self_eq_false, hu] | (first | refine call_c (c_eqDisk e.disk hs.hn _ ?_) | refine call_c (c_eqBooks e.books hs.hb _ ?_) | fail) <;> try simp only [go_sem, BEq.rfl, bne_self_eq_false, hu] | with_reducible refine hQ _ _ ?_ <;> simp only [Tryz.f13, go_sem, BEq.rfl, bne_self_eq_false, hu])
  exact hk
end Go.Proofs.YtlefjpbhbiajfaaGreat
end
section
namespace Go.Proofs.YtlefjpbhbiajfaaGreat
open Go.BL Go.RowKit
set_option linter.unusedVariables false
set_option linter.unusedSimpArgs false
set_option maxRecDepth 100000
attribute [local go_sem] accountC balC lotC tradeC booksC fileC diskC engC
def bareE (room : Int) : Eng := ⟨true, ⟨room, []⟩, ⟨[], [], [], [], [], 0⟩, 0, 0⟩
def noE : Eng := ⟨false, ⟨0, []⟩, ⟨[], [], [], [], [], 0⟩, 0, 0⟩
def newE (room : Int) : Eng := if engOk (bareE room) = true then bareE room else noE
theorem bare_small (room : Int) : SmallE (bareE room) := ⟨Nat.zero_le _, ⟨Nat.zero_le _, Nat.zero_le _, Nat.zero_le _, Nat.zero_le _, Nat.zero_le _⟩⟩
theorem c_spec_EngineNew (room : Int) (K : AV → AH → Prop) (hk : K (.agg (engC (newE room))) []) : ACalls Tryz.prog 11 [(.one (.c (.int .i64 (room))))] [] K := by
  have cE := fun K' hk' => c_spec_EngineOk (bareE room) (bare_small room) K' hk'
  simp only [engC, bareE, List.map_nil] at cE
  refine acall_c Tryz.f11.results.toList mixed Tryz.func11 rfl rfl (by kernel_rfl) ?_
  intro Q hQ hQO
  simp only [go_sem]
  cases hok : engOk (bareE room) with
  | true =>
    rw [newE, hok, if_pos rfl] at hk
    have hok2 := hok
    simp only [bareE] at hok2
    (try simp only [go_sem, hok2]); repeat' (first | (with_reducible first | refine c_split ?_ ?_ | refine w_split ?_ ?_) <;> intro hb <;> try simp only [go_sem, hb, hok2] | refine call_c (cE _ ?_) <;> try simp only [go_sem, hok2] | with_reducible refine hQ _ _ ?_ <;> simp only [Tryz.f11, go_sem, hok2])
    exact hk
  | false =>
    rw [newE, hok, if_neg (by decide)] at hk
    have hok2 := hok
    simp only [bareE] at hok2
    (try simp only [go_sem, hok2]); repeat' (first | (with_reducible first | refine c_split ?_ ?_ | refine w_split ?_ ?_) <;> intro hb <;> try simp only [go_sem, hb, hok2] | refine call_c (cE _ ?_) <;> try simp only [go_sem, hok2] | with_reducible refine hQ _ _ ?_ <;> simp only [Tryz.f11, go_sem, hok2])
    exact hk
def ownE (e : Eng) : AH := [.own 0 125 3 none (e.disk.files.map fileC), .own 0 129 2 none (e.books.accounts.map accountC), .own 0 131 2 none (e.books.instrs.map accountC), .own 0 134 3 none (e.books.bals.map balC), .own 0 137 5 none (e.books.lots.map lotC), .own 0 140 8 none (e.books.trades.map tradeC)]
theorem c_impl_EngineNew (room : Int) (K : AV → AH → Prop) (hk : K (engA (newE room)) (ownE (newE room))) : ACalls Tryz.prog 12 [(.one (.c (.int .i64 (room))))] [] K := by
  have cE := fun K' hk' => c_impl_EngineOk (bareE room) (bare_small room) K' hk'
  simp only [engC, bareE, List.map_nil] at cE
  refine acall_c Tryz.f12.results.toList mixed Tryz.func12 rfl rfl (by kernel_rfl) ?_
  intro Q hQ hQO
  simp only [go_sem]
  cases hok : engOk (bareE room) with
  | true =>
    rw [newE, hok, if_pos rfl] at hk
    have hok2 := hok
    simp only [bareE] at hok2
    (try simp only [go_sem, hok2]); repeat' (first | (with_reducible first | refine c_split ?_ ?_ | refine w_split ?_ ?_) <;> intro hb <;> try simp only [go_sem, hb, hok2] | refine call_c (cE _ ?_) <;> try simp only [go_sem, hok2] | fail)
    refine hQO [2, 3, 4, 5, 6, 7] _ _ (GC.step (Ghost.nlc (l := 0) rfl 0 2 rfl rfl 125 3) (GC.step (Ghost.nlc (l := 0) rfl 0 3 rfl rfl 129 2) (GC.step (Ghost.nlc (l := 0) rfl 0 4 rfl rfl 131 2) (GC.step (Ghost.nlc (l := 0) rfl 0 5 rfl rfl 134 3) (GC.step (Ghost.nlc (l := 0) rfl 0 6 rfl rfl 137 5) (GC.step (Ghost.nlc (l := 0) rfl 0 7 rfl rfl 140 8) (GC.now ?_))))))) <;> simp only [Tryz.f12, go_sem, List.nodup_cons, List.nodup_nil, List.mem_cons, List.not_mem_nil, or_false, not_false_eq_true, List.idxOf?_cons, List.idxOf?_nil, Option.map_none]
    exact hk
  | false =>
    rw [newE, hok, if_neg (by decide)] at hk
    have hok2 := hok
    simp only [bareE] at hok2
    (try simp only [go_sem, hok2]); repeat' (first | (with_reducible first | refine c_split ?_ ?_ | refine w_split ?_ ?_) <;> intro hb <;> try simp only [go_sem, hb, hok2] | refine call_c (cE _ ?_) <;> try simp only [go_sem, hok2] | fail)
    refine hQO [2, 3, 4, 5, 6, 7] _ _ (GC.step (Ghost.nlc (l := 0) rfl 0 2 rfl rfl 125 3) (GC.step (Ghost.nlc (l := 0) rfl 0 3 rfl rfl 129 2) (GC.step (Ghost.nlc (l := 0) rfl 0 4 rfl rfl 131 2) (GC.step (Ghost.nlc (l := 0) rfl 0 5 rfl rfl 134 3) (GC.step (Ghost.nlc (l := 0) rfl 0 6 rfl rfl 137 5) (GC.step (Ghost.nlc (l := 0) rfl 0 7 rfl rfl 140 8) (GC.now ?_))))))) <;> simp only [Tryz.f12, go_sem, List.nodup_cons, List.nodup_nil, List.mem_cons, List.not_mem_nil, or_false, not_false_eq_true, List.idxOf?_cons, List.idxOf?_nil, Option.map_none]
    exact hk
end Go.Proofs.YtlefjpbhbiajfaaGreat
end
section
namespace Go.Proofs.YtlefjpbhbiajfaaGreat
open Go.BL Go.RowKit
set_option linter.unusedVariables false
set_option linter.unusedSimpArgs false
set_option maxRecDepth 100000
attribute [local go_sem] fileC diskC
def readR : Option ByteArray → AV
  | some s => .tup [(.one (.c (.string (s)))), (.one (.c (.bool (true))))]
  | none => .tup [(.one (.c (.string (⟨#[]⟩)))), (.one (.c (.bool (false))))]
end Go.Proofs.YtlefjpbhbiajfaaGreat
end
section
namespace Go.Proofs.YtlefjpbhbiajfaaGreat
open Go.BL Go.RowKit
set_option linter.unusedVariables false
set_option linter.unusedSimpArgs false
set_option maxRecDepth 100000
attribute [local go_sem] accountC balC lotC tradeC booksC
end Go.Proofs.YtlefjpbhbiajfaaGreat
end
section
namespace Go.Proofs.YtlefjpbhbiajfaaGreat
open Go.BL Go.RowKit
set_option linter.unusedVariables false
set_option linter.unusedSimpArgs false
set_option maxRecDepth 100000
attribute [local go_sem] accountC balC lotC tradeC booksC
end Go.Proofs.YtlefjpbhbiajfaaGreat
end
section
namespace Go.Proofs.YtlefjpbhbiajfaaGreat
open Go.BL Go.RowKit
set_option linter.unusedVariables false
set_option linter.unusedSimpArgs false
set_option maxRecDepth 100000
attribute [local go_sem] accountC balC lotC tradeC booksC fileC diskC engC engA
def markedB (b : Books) (k : Int) : List CV := [.im ((marksAccount k b.accounts.length).map accountC), .im ((marksInstr (k + 2 * b.accounts.length) b.instrs.length).map accountC), .im ((marksBal ((k + 2 * b.accounts.length) + 2 * b.instrs.length) b.bals.length).map balC), .im ((marksLot (((k + 2 * b.accounts.length) + 2 * b.instrs.length) + 3 * b.bals.length) b.lots.length).map lotC), .im ((marksTrade ((((k + 2 * b.accounts.length) + 2 * b.instrs.length) + 3 * b.bals.length) + 5 * b.lots.length) b.trades.length).map tradeC), .c (.int .i64 (b.lot))]
theorem markN_ge (b : Books) (k : Int) : k ≤ markN b k := by unfold markN; omega
theorem c_heldBooks (b : Books) (hs : Small b) (k : Int) (hk0 : 0 ≤ k) (hk1 : k ≤ 10000000000) (K : AV → AH → Prop) (hk : K (.one (.c (.int .i64 (markN b k)))) []) : ACalls Tryz.prog 50 [.agg (markedB b k), (.one (.c (.int .i64 (k))))] [] K := by
  have n0 := hs.ha
  have n1 := hs.hi
  have n2 := hs.hb
  have n3 := hs.hl
  have n4 := hs.ht
  have d1 : decide ((k + 2 * b.accounts.length) < 0) = false := decide_eq_false (by omega)
  have d2 : decide (((k + 2 * b.accounts.length) + 2 * b.instrs.length) < 0) = false := decide_eq_false (by omega)
  have d3 : decide ((((k + 2 * b.accounts.length) + 2 * b.instrs.length) + 3 * b.bals.length) < 0) = false := decide_eq_false (by omega)
  have d4 : decide (((((k + 2 * b.accounts.length) + 2 * b.instrs.length) + 3 * b.bals.length) + 5 * b.lots.length) < 0) = false := decide_eq_false (by omega)
  have d5 : decide ((((((k + 2 * b.accounts.length) + 2 * b.instrs.length) + 3 * b.bals.length) + 5 * b.lots.length) + 8 * b.trades.length) < 0) = false := decide_eq_false (by omega)
  refine acall_c Tryz.f50.results.toList mixed Tryz.func50 rfl rfl (by kernel_rfl) ?_
  intro Q hQ hQO
  simp only [go_sem, markedB]
  (try simp only [go_sem, markedB, d1, d2, d3, d4, d5]); repeat' (first | (with_reducible first | refine c_split ?_ ?_ | refine w_split ?_ ?_) <;> intro hb <;> try simp only [go_sem, hb, markedB, d1, d2, d3, d4, d5] | (first | refine call_c (c_heldAccountS b.accounts.length k n0 (by omega) (by omega) _ ?_) | refine call_c (c_heldInstrS b.instrs.length (k + 2 * b.accounts.length) n1 (by omega) (by omega) _ ?_) | refine call_c (c_heldBalS b.bals.length ((k + 2 * b.accounts.length) + 2 * b.instrs.length) n2 (by omega) (by omega) _ ?_) | refine call_c (c_heldLotS b.lots.length (((k + 2 * b.accounts.length) + 2 * b.instrs.length) + 3 * b.bals.length) n3 (by omega) (by omega) _ ?_) | refine call_c (c_heldTradeS b.trades.length ((((k + 2 * b.accounts.length) + 2 * b.instrs.length) + 3 * b.bals.length) + 5 * b.lots.length) n4 (by omega) (by omega) _ ?_) | fail) <;> try simp only [go_sem, markedB, d1, d2, d3, d4, d5] | with_reducible refine hQ _ _ ?_ <;> simp only [Tryz.f50, go_sem, markedB, d1, d2, d3, d4, d5])
  exact hk
def markNE (e : Eng) (k : Int) : Int := markN e.books (k + 3 * e.disk.files.length)
theorem c_markEngine (e : Eng) (hs : SmallE e) (k : Int) (lf l0 l1 l2 l3 l4 gf g0 g1 g2 g3 g4 : Nat) (cf c0 c1 c2 c3 c4 : Option Nat) (h0 : AH) (ef : h0[lf]? = some (.own gf 125 3 cf (e.disk.files.map fileC))) (e0 : h0[l0]? = some (.own g0 129 2 c0 (e.books.accounts.map accountC))) (e1 : h0[l1]? = some (.own g1 131 2 c1 (e.books.instrs.map accountC))) (e2 : h0[l2]? = some (.own g2 134 3 c2 (e.books.bals.map balC))) (e3 : h0[l3]? = some (.own g3 137 5 c3 (e.books.lots.map lotC))) (e4 : h0[l4]? = some (.own g4 140 8 c4 (e.books.trades.map tradeC))) (df0 : lf ≠ l0) (df1 : lf ≠ l1) (df2 : lf ≠ l2) (df3 : lf ≠ l3) (df4 : lf ≠ l4) (d01 : l0 ≠ l1) (d02 : l0 ≠ l2) (d03 : l0 ≠ l3) (d04 : l0 ≠ l4) (d12 : l1 ≠ l2) (d13 : l1 ≠ l3) (d14 : l1 ≠ l4) (d23 : l2 ≠ l3) (d24 : l2 ≠ l4) (d34 : l3 ≠ l4) (hk0 : 0 ≤ k) (hk1 : k ≤ 1000000)
    (K : AV → AH → Prop) (hk : K (.one (.c (.int .i64 (markNE e k)))) ((((((h0.set lf (.own gf 125 3 cf ((marksF k e.disk.files.length).map fileC))).set l0 (.own g0 129 2 c0 ((marksAccount (k + 3 * e.disk.files.length) e.books.accounts.length).map accountC))).set l1 (.own g1 131 2 c1 ((marksInstr ((k + 3 * e.disk.files.length) + 2 * e.books.accounts.length) e.books.instrs.length).map accountC))).set l2 (.own g2 134 3 c2 ((marksBal (((k + 3 * e.disk.files.length) + 2 * e.books.accounts.length) + 2 * e.books.instrs.length) e.books.bals.length).map balC))).set l3 (.own g3 137 5 c3 ((marksLot ((((k + 3 * e.disk.files.length) + 2 * e.books.accounts.length) + 2 * e.books.instrs.length) + 3 * e.books.bals.length) e.books.lots.length).map lotC))).set l4 (.own g4 140 8 c4 ((marksTrade (((((k + 3 * e.disk.files.length) + 2 * e.books.accounts.length) + 2 * e.books.instrs.length) + 3 * e.books.bals.length) + 5 * e.books.lots.length) e.books.trades.length).map tradeC)))) : ACalls Tryz.prog 14 [.agg [.c (.bool (e.up)), .c (.int .i64 (e.disk.room)), .sl lf gf 0 e.disk.files.length, .sl l0 g0 0 e.books.accounts.length, .sl l1 g1 0 e.books.instrs.length, .sl l2 g2 0 e.books.bals.length, .sl l3 g3 0 e.books.lots.length, .sl l4 g4 0 e.books.trades.length, .c (.int .i64 (e.books.lot)), .c (.int .i64 (e.seg)), .c (.int .i64 (e.count))], (.one (.c (.int .i64 (k))))] h0 K := by
  have nf := hs.hn
  refine acall_m Tryz.f14.results.toList mixed Tryz.func14 rfl rfl (by kernel_rfl) ?_
  intro hwf Q hQ
  simp only [go_sem, ef, e0, e1, e2, e3, e4]
  refine call_h (c_markDisk _ e.disk.files k lf gf cf _ (h_old _ ef) nf hk0 (by omega) _ ?_)
  have sf := (List.getElem?_eq_some_iff.1 ef).1
  simp only [go_sem, List.set_append_left _ _ sf]
  have wf1 := fun x r => app_new (h := (h0.set lf (.own gf 125 3 cf ((marksF k e.disk.files.length).map fileC)))) (n := h0.length) (by simp only [List.length_set]) x r
  (try simp only [go_sem, wf1]); repeat' (first | (with_reducible first | refine c_split ?_ ?_ | refine w_split ?_ ?_) <;> intro hb <;> try simp only [go_sem, hb, wf1] | fail)
  have r0 : (h0.set lf (.own gf 125 3 cf ((marksF k e.disk.files.length).map fileC)))[l0]? = some (.own g0 129 2 c0 (e.books.accounts.map accountC)) := set_other df0 e0
  have r1 : (h0.set lf (.own gf 125 3 cf ((marksF k e.disk.files.length).map fileC)))[l1]? = some (.own g1 131 2 c1 (e.books.instrs.map accountC)) := set_other df1 e1
  have r2 : (h0.set lf (.own gf 125 3 cf ((marksF k e.disk.files.length).map fileC)))[l2]? = some (.own g2 134 3 c2 (e.books.bals.map balC)) := set_other df2 e2
  have r3 : (h0.set lf (.own gf 125 3 cf ((marksF k e.disk.files.length).map fileC)))[l3]? = some (.own g3 137 5 c3 (e.books.lots.map lotC)) := set_other df3 e3
  have r4 : (h0.set lf (.own gf 125 3 cf ((marksF k e.disk.files.length).map fileC)))[l4]? = some (.own g4 140 8 c4 (e.books.trades.map tradeC)) := set_other df4 e4
  refine call_h (c_markBooks e.books hs.hb (k + 3 * e.disk.files.length) l0 l1 l2 l3 l4 g0 g1 g2 g3 g4 c0 c1 c2 c3 c4 _ (h_old _ r0) (h_old _ r1) (h_old _ r2) (h_old _ r3) (h_old _ r4) d01 d02 d03 d04 d12 d13 d14 d23 d24 d34 (by omega) (by omega) _ ?_)
  have s0 : l0 < (h0.set lf (.own gf 125 3 cf ((marksF k e.disk.files.length).map fileC))).length := by simp only [List.length_set]; exact (List.getElem?_eq_some_iff.1 e0).1
  have s1 : l1 < ((h0.set lf (.own gf 125 3 cf ((marksF k e.disk.files.length).map fileC))).set l0 (.own g0 129 2 c0 ((marksAccount (k + 3 * e.disk.files.length) e.books.accounts.length).map accountC))).length := by simp only [List.length_set]; exact (List.getElem?_eq_some_iff.1 e1).1
  have s2 : l2 < (((h0.set lf (.own gf 125 3 cf ((marksF k e.disk.files.length).map fileC))).set l0 (.own g0 129 2 c0 ((marksAccount (k + 3 * e.disk.files.length) e.books.accounts.length).map accountC))).set l1 (.own g1 131 2 c1 ((marksInstr ((k + 3 * e.disk.files.length) + 2 * e.books.accounts.length) e.books.instrs.length).map accountC))).length := by simp only [List.length_set]; exact (List.getElem?_eq_some_iff.1 e2).1
  have s3 : l3 < ((((h0.set lf (.own gf 125 3 cf ((marksF k e.disk.files.length).map fileC))).set l0 (.own g0 129 2 c0 ((marksAccount (k + 3 * e.disk.files.length) e.books.accounts.length).map accountC))).set l1 (.own g1 131 2 c1 ((marksInstr ((k + 3 * e.disk.files.length) + 2 * e.books.accounts.length) e.books.instrs.length).map accountC))).set l2 (.own g2 134 3 c2 ((marksBal (((k + 3 * e.disk.files.length) + 2 * e.books.accounts.length) + 2 * e.books.instrs.length) e.books.bals.length).map balC))).length := by simp only [List.length_set]; exact (List.getElem?_eq_some_iff.1 e3).1
  have s4 : l4 < (((((h0.set lf (.own gf 125 3 cf ((marksF k e.disk.files.length).map fileC))).set l0 (.own g0 129 2 c0 ((marksAccount (k + 3 * e.disk.files.length) e.books.accounts.length).map accountC))).set l1 (.own g1 131 2 c1 ((marksInstr ((k + 3 * e.disk.files.length) + 2 * e.books.accounts.length) e.books.instrs.length).map accountC))).set l2 (.own g2 134 3 c2 ((marksBal (((k + 3 * e.disk.files.length) + 2 * e.books.accounts.length) + 2 * e.books.instrs.length) e.books.bals.length).map balC))).set l3 (.own g3 137 5 c3 ((marksLot ((((k + 3 * e.disk.files.length) + 2 * e.books.accounts.length) + 2 * e.books.instrs.length) + 3 * e.books.bals.length) e.books.lots.length).map lotC))).length := by simp only [List.length_set]; exact (List.getElem?_eq_some_iff.1 e4).1
  simp only [go_sem, List.set_append_left _ _ s0, List.set_append_left _ _ s1, List.set_append_left _ _ s2, List.set_append_left _ _ s3, List.set_append_left _ _ s4]
  have hwf : ((((((h0.set lf (.own gf 125 3 cf ((marksF k e.disk.files.length).map fileC))).set l0 (.own g0 129 2 c0 ((marksAccount (k + 3 * e.disk.files.length) e.books.accounts.length).map accountC))).set l1 (.own g1 131 2 c1 ((marksInstr ((k + 3 * e.disk.files.length) + 2 * e.books.accounts.length) e.books.instrs.length).map accountC))).set l2 (.own g2 134 3 c2 ((marksBal (((k + 3 * e.disk.files.length) + 2 * e.books.accounts.length) + 2 * e.books.instrs.length) e.books.bals.length).map balC))).set l3 (.own g3 137 5 c3 ((marksLot ((((k + 3 * e.disk.files.length) + 2 * e.books.accounts.length) + 2 * e.books.instrs.length) + 3 * e.books.bals.length) e.books.lots.length).map lotC))).set l4 (.own g4 140 8 c4 ((marksTrade (((((k + 3 * e.disk.files.length) + 2 * e.books.accounts.length) + 2 * e.books.instrs.length) + 3 * e.books.bals.length) + 5 * e.books.lots.length) e.books.trades.length).map tradeC))).all (ltO h0.length) = true := (wf_at (wf_at (wf_at (wf_at (wf_at (wf_at hwf (by simp only [go_sem])) (by simp only [go_sem])) (by simp only [go_sem])) (by simp only [go_sem])) (by simp only [go_sem])) (by simp only [go_sem]))
  refine hQ (((((((h0.set lf (.own gf 125 3 cf ((marksF k e.disk.files.length).map fileC))).set l0 (.own g0 129 2 c0 ((marksAccount (k + 3 * e.disk.files.length) e.books.accounts.length).map accountC))).set l1 (.own g1 131 2 c1 ((marksInstr ((k + 3 * e.disk.files.length) + 2 * e.books.accounts.length) e.books.instrs.length).map accountC))).set l2 (.own g2 134 3 c2 ((marksBal (((k + 3 * e.disk.files.length) + 2 * e.books.accounts.length) + 2 * e.books.instrs.length) e.books.bals.length).map balC))).set l3 (.own g3 137 5 c3 ((marksLot ((((k + 3 * e.disk.files.length) + 2 * e.books.accounts.length) + 2 * e.books.instrs.length) + 3 * e.books.bals.length) e.books.lots.length).map lotC))).set l4 (.own g4 140 8 c4 ((marksTrade (((((k + 3 * e.disk.files.length) + 2 * e.books.accounts.length) + 2 * e.books.instrs.length) + 3 * e.books.bals.length) + 5 * e.books.lots.length) e.books.trades.length).map tradeC)))) _ _ ?_; refine GC.now (ret_m (by simp only [go_sem, Tryz.f14]; exact _root_.id rfl) (by simp only [go_sem]) (by simp) (by first | exact hwf | exact wf_set hwf (by simp only [go_sem]) | exact wf_set2 hwf (by simp only [go_sem]) (by simp only [go_sem]) | (simp only [go_sem]; done)) (by first | exact ⟨_, _root_.id rfl⟩ | exact ⟨[], (List.append_nil _).symm⟩) ?_) <;> simp only [go_sem]
  exact hk
def markedE (e : Eng) (k : Int) : List CV := [.c (.bool (e.up)), .c (.int .i64 (e.disk.room)), .im ((marksF k e.disk.files.length).map fileC), .im ((marksAccount (k + 3 * e.disk.files.length) e.books.accounts.length).map accountC), .im ((marksInstr ((k + 3 * e.disk.files.length) + 2 * e.books.accounts.length) e.books.instrs.length).map accountC), .im ((marksBal (((k + 3 * e.disk.files.length) + 2 * e.books.accounts.length) + 2 * e.books.instrs.length) e.books.bals.length).map balC), .im ((marksLot ((((k + 3 * e.disk.files.length) + 2 * e.books.accounts.length) + 2 * e.books.instrs.length) + 3 * e.books.bals.length) e.books.lots.length).map lotC), .im ((marksTrade (((((k + 3 * e.disk.files.length) + 2 * e.books.accounts.length) + 2 * e.books.instrs.length) + 3 * e.books.bals.length) + 5 * e.books.lots.length) e.books.trades.length).map tradeC), .c (.int .i64 (e.books.lot)), .c (.int .i64 (e.seg)), .c (.int .i64 (e.count))]
theorem c_heldEngine (e : Eng) (hs : SmallE e) (k : Int) (hk0 : 0 ≤ k) (hk1 : k ≤ 1000000) (K : AV → AH → Prop) (hk : K (.one (.c (.int .i64 (markNE e k)))) []) : ACalls Tryz.prog 15 [.agg (markedE e k), (.one (.c (.int .i64 (k))))] [] K := by
  have nf := hs.hn
  have d1 : decide ((k + 3 * e.disk.files.length) < 0) = false := decide_eq_false (by omega)
  have d2 : decide (markN e.books (k + 3 * e.disk.files.length) < 0) = false := decide_eq_false (by have := markN_ge e.books (k + 3 * e.disk.files.length); omega)
  have cB := fun K' hk' => c_heldBooks e.books hs.hb (k + 3 * e.disk.files.length) (by omega) (by omega) K' hk'
  simp only [markedB] at cB
  refine acall_c Tryz.f15.results.toList mixed Tryz.func15 rfl rfl (by kernel_rfl) ?_
  intro Q hQ hQO
  simp only [go_sem, markedE]
  (try simp only [go_sem, markedE, d1, d2]); repeat' (first | (with_reducible first | refine c_split ?_ ?_ | refine w_split ?_ ?_) <;> intro hb <;> try simp only [go_sem, hb, markedE, d1, d2] | (first | refine call_c (c_heldDisk _ e.disk.files.length k nf hk0 (by omega) _ ?_) | refine call_c (cB _ ?_) | fail) <;> try simp only [go_sem, markedE, d1, d2] | with_reducible refine hQ _ _ ?_ <;> simp only [Tryz.f15, go_sem, markedE, d1, d2])
  exact hk
theorem c_FnExactEngineNew (room : Int) (K : AV → AH → Prop) (hk : K (.one (.c (.bool (true)))) []) : ACalls Tryz.prog 3 [(.one (.c (.int .i64 (room))))] [] K := by
  have hs : SmallE (newE room) := by
    unfold newE
    split
    · exact bare_small room
    · exact ⟨Nat.zero_le _, ⟨Nat.zero_le _, Nat.zero_le _, Nat.zero_le _, Nat.zero_le _, Nat.zero_le _⟩⟩
  have c1 := fun K' hk' => c_spec_EngineNew room K' hk'
  have c2 := fun K' hk' => c_impl_EngineNew room K' hk'
  generalize newE room = e at hs c1 c2
  have e1 : decide (markNE e 1 < 0) = false := decide_eq_false (by have := markN_ge e.books (1 + 3 * e.disk.files.length); unfold markNE; omega)
  have cH := fun K' hk' => c_heldEngine e hs 1 (by decide) (by decide) K' hk'
  simp only [markedE] at cH
  refine acall_c Tryz.f3.results.toList mixed Tryz.func3 rfl rfl (by kernel_rfl) ?_
  intro Q hQ hQO
  simp only [go_sem]
  (try simp only [go_sem, BEq.rfl, bne_self_eq_false, ownE, engA, marksF_len, marksF_tk, marksAccount_len, marksAccount_tk, marksInstr_len, marksInstr_tk, marksBal_len, marksBal_tk, marksLot_len, marksLot_tk, marksTrade_len, marksTrade_tk, e1]); repeat' (first | (with_reducible first | refine c_split ?_ ?_ | refine w_split ?_ ?_) <;> intro hb <;> try simp only [go_sem, hb, BEq.rfl, bne_self_eq_false, ownE, engA, marksF_len, marksF_tk, marksAccount_len, marksAccount_tk, marksInstr_len, marksInstr_tk, marksBal_len, marksBal_tk, marksLot_len, marksLot_tk, marksTrade_len, marksTrade_tk, e1] | (first | refine call_c (c1 _ ?_) | refine call_c (c2 _ ?_) | refine call_c (c_eqEngine e hs _ ?_) | refine call_h (c_markEngine e hs 1 1 2 3 4 5 6 0 0 0 0 0 0 _ _ _ _ _ _ _ rfl rfl rfl rfl rfl rfl (by decide) (by decide) (by decide) (by decide) (by decide) (by decide) (by decide) (by decide) (by decide) (by decide) (by decide) (by decide) (by decide) (by decide) (by decide) (by decide) (by decide) _ ?_) | refine call_c (cH _ ?_) | fail) <;> try simp only [go_sem, BEq.rfl, bne_self_eq_false, ownE, engA, marksF_len, marksF_tk, marksAccount_len, marksAccount_tk, marksInstr_len, marksInstr_tk, marksBal_len, marksBal_tk, marksLot_len, marksLot_tk, marksTrade_len, marksTrade_tk, e1] | with_reducible refine hQ _ _ ?_ <;> simp only [Tryz.f3, go_sem, BEq.rfl, bne_self_eq_false, ownE, engA, marksF_len, marksF_tk, marksAccount_len, marksAccount_tk, marksInstr_len, marksInstr_tk, marksBal_len, marksBal_tk, marksLot_len, marksLot_tk, marksTrade_len, marksTrade_tk, e1])
  exact hk
end Go.Proofs.YtlefjpbhbiajfaaGreat
end
section
namespace Go.Proofs.YtlefjpbhbiajfaaGreat
open Go.BL Go.RowKit
set_option linter.unusedVariables false
set_option linter.unusedSimpArgs false
set_option maxRecDepth 100000
open Go.ChangeShapes Go.WideShapes Go.ChangeAt Go.Joins Go.Deep
section
variable {H : Type} {enc0 : TypeId × Value → H} {W : World} {hd : Bool}
instance : Inhabited File := ⟨⟨0, ⟨#[]⟩, ⟨#[]⟩⟩⟩
end
end Go.Proofs.YtlefjpbhbiajfaaGreat
end
