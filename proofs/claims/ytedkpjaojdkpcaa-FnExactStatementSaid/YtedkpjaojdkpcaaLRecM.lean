/- RecM: the records of books marked, and found as they were marked. Conditions: none. -/
import Derived.Test.YtedkpjaojdkpcaaLG
import Derived.Test.YtedkpjaojdkpcaaLT
import Derived.Test.YtedkpjaojdkpcaaLBooksLaw
namespace Go.Proofs.Ytedkpjaojdkpcaa
open Go.BL Go.RowKit
set_option linter.unusedVariables false
set_option linter.unusedSimpArgs false
set_option maxRecDepth 100000
attribute [local go_sem] accountC balC lotC tradeC booksC booksA
def markAccount (k : Int) (i : Nat) : Account := ⟨k + 2 * i, k + 2 * i + 1⟩
def marksAccount (k : Int) (n : Nat) : List Account := (List.range n).map (markAccount k)
theorem marksAccount_len (k : Int) (n : Nat) : (marksAccount k n).length = n := by simp [marksAccount]
theorem marksAccount_tk (k : Int) (n : Nat) : ((marksAccount k n).map accountC).take n = (marksAccount k n).map accountC := List.take_of_length_le (by simp [marksAccount])
theorem c_markAccountS (xs : List Account) (k : Int) (l g : Nat) (cap : Option Nat) (h0 : AH) (hl : h0[l]? = some (.own g 100 2 cap (xs.map accountC))) (hn : xs.length ≤ 1000000000) (hk0 : 0 ≤ k) (hk1 : k ≤ 1000000000000)
    (K : AV → AH → Prop) (hk : K (.one (.c (.int .i64 (k + 2 * xs.length)))) (h0.set l (.own g 100 2 cap ((marksAccount k xs.length).map accountC)))) : ACalls Try.prog 52 [.one (.sl l g 0 xs.length), (.one (.c (.int .i64 (k))))] h0 K := by
  have hall : ∀ o, (h0.set l o)[l]? = some o := set_at hl
  refine acall_m Try.f52.results.toList mixed Try.func52 rfl rfl (by kernel_rfl) ?_
  intro hwf Q hQ
  simp only [go_sem, hl]
  refine for_at (xs.length) [0] (fun i f h => f 1 = (.one (.c (.int .i64 (k + 2 * i)))) ∧ f 5 = (.one (.c (.int .i64 (i)))) ∧ h = h0.set l (.own g 100 2 cap ((fillR (markAccount k) xs i).map accountC))) (GC.now ?_) ?_
  · simp only [go_sem, nc_0, true_and, hall, hl]
    rw [fill_0, set_same hl]; simp
  · rintro i f h J hi hA ⟨e1, e5, rfl⟩ hJ
    simp only [go_sem, hall, hl] at hA
    simp only [go_sem, hA, e1, e5, hall, hl]
    refine c_split (fun hb => ?_) (fun hb => ?_)
    rotate_left
    · simp only [go_sem, hb, hA, e1, e5, hall, hl]
      obtain rfl := ge_len hb hi
      refine hQ (h0.set l (.own g 100 2 cap ((fillR (markAccount k) xs xs.length).map accountC))) _ _ ?_; refine GC.now (ret_m (by simp only [go_sem, Try.f52, hA, e1, e5, hall, hl]; exact _root_.id rfl) (by simp only [go_sem]) (by simp) (by first | exact hwf | exact wf_set hwf (by simp only [go_sem, hA, e1, e5, hall, hl]) | exact wf_set2 hwf (by simp only [go_sem, hA, e1, e5, hall, hl]) (by simp only [go_sem, hA, e1, e5, hall, hl]) | (simp only [go_sem]; done)) (by first | exact ⟨_, _root_.id rfl⟩ | exact ⟨[], (List.append_nil _).symm⟩) ?_) <;> simp only [go_sem, hA, e1, e5, hall, hl]
      rw [fill_all]
      exact hk
    have hi := lt_len hb
    have hw := wrap_nat i (by omega)
    have hil : (i : Int) < ((xs.length : Nat) : Int) := Int.ofNat_lt.2 hi
    have hg0 : (xs)[i]? = some ((xs)[i]) := List.getElem?_eq_getElem (by omega)
    simp only [go_sem, hb, hA, e1, e5, hall, hl, hg0]
    try simp only [go_sem, hA, e1, e5, hall, hl, hil, hg0]
    have hold := fill_get (markAccount k) xs i
    rw [hg0] at hold
    have hself : ∀ x, ((fillR (markAccount k) xs i).set i x)[i]? = some x := set_at hold
    have hset : (fillR (markAccount k) xs i).set i ⟨k + 2 * i, k + 2 * i + 1⟩ = fillR (markAccount k) xs (i + 1) := fill_set (markAccount k) xs i hi _ rfl
    have w1 : wrap64 (k + 2 * (i : Int) + 1) = k + 2 * i + 1 := by unfold wrap64; omega
    have w2 : wrap64 (k + 2 * (i : Int) + 1 + 1) = k + 2 * ((i + 1 : Nat) : Int) := by unfold wrap64; omega
    (try simp only [go_sem, hA, e1, e5, hall, hl, hil, hg0, hold, hself, List.set_set, w1, w2]); repeat' (first | (with_reducible refine c_split (fun hb => ?_) (fun hb => ?_) <;> try simp only [go_sem, hb, hA, e1, e5, hall, hl, hil, hg0, hold, hself, List.set_set, w1, w2]) | (with_reducible refine w_split (fun hb => ?_) (fun hb => ?_) <;> try simp only [go_sem, hb, hA, e1, e5, hall, hl, hil, hg0, hold, hself, List.set_set, w1, w2]) | (fail))
    refine GC.now (hJ _ _ hi (by simp only [go_sem, hA, e1, e5, hall, hl]) ⟨?_, ?_, ?_⟩) <;> try simp only [go_sem, hA, e1, e5, hall, hl, hw, hset]
def markInstr (k : Int) (i : Nat) : Account := ⟨k + 2 * i, k + 2 * i + 1⟩
def marksInstr (k : Int) (n : Nat) : List Account := (List.range n).map (markInstr k)
theorem marksInstr_len (k : Int) (n : Nat) : (marksInstr k n).length = n := by simp [marksInstr]
theorem marksInstr_tk (k : Int) (n : Nat) : ((marksInstr k n).map accountC).take n = (marksInstr k n).map accountC := List.take_of_length_le (by simp [marksInstr])
theorem c_markInstrS (xs : List Account) (k : Int) (l g : Nat) (cap : Option Nat) (h0 : AH) (hl : h0[l]? = some (.own g 99 2 cap (xs.map accountC))) (hn : xs.length ≤ 1000000000) (hk0 : 0 ≤ k) (hk1 : k ≤ 1000000000000)
    (K : AV → AH → Prop) (hk : K (.one (.c (.int .i64 (k + 2 * xs.length)))) (h0.set l (.own g 99 2 cap ((marksInstr k xs.length).map accountC)))) : ACalls Try.prog 53 [.one (.sl l g 0 xs.length), (.one (.c (.int .i64 (k))))] h0 K := by
  have hall : ∀ o, (h0.set l o)[l]? = some o := set_at hl
  refine acall_m Try.f53.results.toList mixed Try.func53 rfl rfl (by kernel_rfl) ?_
  intro hwf Q hQ
  simp only [go_sem, hl]
  refine for_at (xs.length) [0] (fun i f h => f 1 = (.one (.c (.int .i64 (k + 2 * i)))) ∧ f 5 = (.one (.c (.int .i64 (i)))) ∧ h = h0.set l (.own g 99 2 cap ((fillR (markInstr k) xs i).map accountC))) (GC.now ?_) ?_
  · simp only [go_sem, nc_0, true_and, hall, hl]
    rw [fill_0, set_same hl]; simp
  · rintro i f h J hi hA ⟨e1, e5, rfl⟩ hJ
    simp only [go_sem, hall, hl] at hA
    simp only [go_sem, hA, e1, e5, hall, hl]
    refine c_split (fun hb => ?_) (fun hb => ?_)
    rotate_left
    · simp only [go_sem, hb, hA, e1, e5, hall, hl]
      obtain rfl := ge_len hb hi
      refine hQ (h0.set l (.own g 99 2 cap ((fillR (markInstr k) xs xs.length).map accountC))) _ _ ?_; refine GC.now (ret_m (by simp only [go_sem, Try.f53, hA, e1, e5, hall, hl]; exact _root_.id rfl) (by simp only [go_sem]) (by simp) (by first | exact hwf | exact wf_set hwf (by simp only [go_sem, hA, e1, e5, hall, hl]) | exact wf_set2 hwf (by simp only [go_sem, hA, e1, e5, hall, hl]) (by simp only [go_sem, hA, e1, e5, hall, hl]) | (simp only [go_sem]; done)) (by first | exact ⟨_, _root_.id rfl⟩ | exact ⟨[], (List.append_nil _).symm⟩) ?_) <;> simp only [go_sem, hA, e1, e5, hall, hl]
      rw [fill_all]
      exact hk
    have hi := lt_len hb
    have hw := wrap_nat i (by omega)
    have hil : (i : Int) < ((xs.length : Nat) : Int) := Int.ofNat_lt.2 hi
    have hg0 : (xs)[i]? = some ((xs)[i]) := List.getElem?_eq_getElem (by omega)
    simp only [go_sem, hb, hA, e1, e5, hall, hl, hg0]
    try simp only [go_sem, hA, e1, e5, hall, hl, hil, hg0]
    have hold := fill_get (markInstr k) xs i
    rw [hg0] at hold
    have hself : ∀ x, ((fillR (markInstr k) xs i).set i x)[i]? = some x := set_at hold
    have hset : (fillR (markInstr k) xs i).set i ⟨k + 2 * i, k + 2 * i + 1⟩ = fillR (markInstr k) xs (i + 1) := fill_set (markInstr k) xs i hi _ rfl
    have w1 : wrap64 (k + 2 * (i : Int) + 1) = k + 2 * i + 1 := by unfold wrap64; omega
    have w2 : wrap64 (k + 2 * (i : Int) + 1 + 1) = k + 2 * ((i + 1 : Nat) : Int) := by unfold wrap64; omega
    (try simp only [go_sem, hA, e1, e5, hall, hl, hil, hg0, hold, hself, List.set_set, w1, w2]); repeat' (first | (with_reducible refine c_split (fun hb => ?_) (fun hb => ?_) <;> try simp only [go_sem, hb, hA, e1, e5, hall, hl, hil, hg0, hold, hself, List.set_set, w1, w2]) | (with_reducible refine w_split (fun hb => ?_) (fun hb => ?_) <;> try simp only [go_sem, hb, hA, e1, e5, hall, hl, hil, hg0, hold, hself, List.set_set, w1, w2]) | (fail))
    refine GC.now (hJ _ _ hi (by simp only [go_sem, hA, e1, e5, hall, hl]) ⟨?_, ?_, ?_⟩) <;> try simp only [go_sem, hA, e1, e5, hall, hl, hw, hset]
def markBal (k : Int) (i : Nat) : Bal := ⟨k + 3 * i, k + 3 * i + 1, k + 3 * i + 2⟩
def marksBal (k : Int) (n : Nat) : List Bal := (List.range n).map (markBal k)
theorem marksBal_len (k : Int) (n : Nat) : (marksBal k n).length = n := by simp [marksBal]
theorem marksBal_tk (k : Int) (n : Nat) : ((marksBal k n).map balC).take n = (marksBal k n).map balC := List.take_of_length_le (by simp [marksBal])
theorem c_markBalS (xs : List Bal) (k : Int) (l g : Nat) (cap : Option Nat) (h0 : AH) (hl : h0[l]? = some (.own g 62 3 cap (xs.map balC))) (hn : xs.length ≤ 1000000000) (hk0 : 0 ≤ k) (hk1 : k ≤ 1000000000000)
    (K : AV → AH → Prop) (hk : K (.one (.c (.int .i64 (k + 3 * xs.length)))) (h0.set l (.own g 62 3 cap ((marksBal k xs.length).map balC)))) : ACalls Try.prog 54 [.one (.sl l g 0 xs.length), (.one (.c (.int .i64 (k))))] h0 K := by
  have hall : ∀ o, (h0.set l o)[l]? = some o := set_at hl
  refine acall_m Try.f54.results.toList mixed Try.func54 rfl rfl (by kernel_rfl) ?_
  intro hwf Q hQ
  simp only [go_sem, hl]
  refine for_at (xs.length) [0] (fun i f h => f 1 = (.one (.c (.int .i64 (k + 3 * i)))) ∧ f 5 = (.one (.c (.int .i64 (i)))) ∧ h = h0.set l (.own g 62 3 cap ((fillR (markBal k) xs i).map balC))) (GC.now ?_) ?_
  · simp only [go_sem, nc_0, true_and, hall, hl]
    rw [fill_0, set_same hl]; simp
  · rintro i f h J hi hA ⟨e1, e5, rfl⟩ hJ
    simp only [go_sem, hall, hl] at hA
    simp only [go_sem, hA, e1, e5, hall, hl]
    refine c_split (fun hb => ?_) (fun hb => ?_)
    rotate_left
    · simp only [go_sem, hb, hA, e1, e5, hall, hl]
      obtain rfl := ge_len hb hi
      refine hQ (h0.set l (.own g 62 3 cap ((fillR (markBal k) xs xs.length).map balC))) _ _ ?_; refine GC.now (ret_m (by simp only [go_sem, Try.f54, hA, e1, e5, hall, hl]; exact _root_.id rfl) (by simp only [go_sem]) (by simp) (by first | exact hwf | exact wf_set hwf (by simp only [go_sem, hA, e1, e5, hall, hl]) | exact wf_set2 hwf (by simp only [go_sem, hA, e1, e5, hall, hl]) (by simp only [go_sem, hA, e1, e5, hall, hl]) | (simp only [go_sem]; done)) (by first | exact ⟨_, _root_.id rfl⟩ | exact ⟨[], (List.append_nil _).symm⟩) ?_) <;> simp only [go_sem, hA, e1, e5, hall, hl]
      rw [fill_all]
      exact hk
    have hi := lt_len hb
    have hw := wrap_nat i (by omega)
    have hil : (i : Int) < ((xs.length : Nat) : Int) := Int.ofNat_lt.2 hi
    have hg0 : (xs)[i]? = some ((xs)[i]) := List.getElem?_eq_getElem (by omega)
    simp only [go_sem, hb, hA, e1, e5, hall, hl, hg0]
    try simp only [go_sem, hA, e1, e5, hall, hl, hil, hg0]
    have hold := fill_get (markBal k) xs i
    rw [hg0] at hold
    have hself : ∀ x, ((fillR (markBal k) xs i).set i x)[i]? = some x := set_at hold
    have hset : (fillR (markBal k) xs i).set i ⟨k + 3 * i, k + 3 * i + 1, k + 3 * i + 2⟩ = fillR (markBal k) xs (i + 1) := fill_set (markBal k) xs i hi _ rfl
    have w1 : wrap64 (k + 3 * (i : Int) + 1) = k + 3 * i + 1 := by unfold wrap64; omega
    have w2 : wrap64 (k + 3 * (i : Int) + 1 + 1) = k + 3 * i + 2 := by unfold wrap64; omega
    have w3 : wrap64 (k + 3 * (i : Int) + 2 + 1) = k + 3 * ((i + 1 : Nat) : Int) := by unfold wrap64; omega
    (try simp only [go_sem, hA, e1, e5, hall, hl, hil, hg0, hold, hself, List.set_set, w1, w2, w3]); repeat' (first | (with_reducible refine c_split (fun hb => ?_) (fun hb => ?_) <;> try simp only [go_sem, hb, hA, e1, e5, hall, hl, hil, hg0, hold, hself, List.set_set, w1, w2, w3]) | (with_reducible refine w_split (fun hb => ?_) (fun hb => ?_) <;> try simp only [go_sem, hb, hA, e1, e5, hall, hl, hil, hg0, hold, hself, List.set_set, w1, w2, w3]) | (fail))
    refine GC.now (hJ _ _ hi (by simp only [go_sem, hA, e1, e5, hall, hl]) ⟨?_, ?_, ?_⟩) <;> try simp only [go_sem, hA, e1, e5, hall, hl, hw, hset]
def markLot (k : Int) (i : Nat) : Lot := ⟨k + 5 * i, k + 5 * i + 1, k + 5 * i + 2, k + 5 * i + 3, k + 5 * i + 4⟩
def marksLot (k : Int) (n : Nat) : List Lot := (List.range n).map (markLot k)
theorem marksLot_len (k : Int) (n : Nat) : (marksLot k n).length = n := by simp [marksLot]
theorem marksLot_tk (k : Int) (n : Nat) : ((marksLot k n).map lotC).take n = (marksLot k n).map lotC := List.take_of_length_le (by simp [marksLot])
theorem c_markLotS (xs : List Lot) (k : Int) (l g : Nat) (cap : Option Nat) (h0 : AH) (hl : h0[l]? = some (.own g 108 5 cap (xs.map lotC))) (hn : xs.length ≤ 1000000000) (hk0 : 0 ≤ k) (hk1 : k ≤ 1000000000000)
    (K : AV → AH → Prop) (hk : K (.one (.c (.int .i64 (k + 5 * xs.length)))) (h0.set l (.own g 108 5 cap ((marksLot k xs.length).map lotC)))) : ACalls Try.prog 55 [.one (.sl l g 0 xs.length), (.one (.c (.int .i64 (k))))] h0 K := by
  have hall : ∀ o, (h0.set l o)[l]? = some o := set_at hl
  refine acall_m Try.f55.results.toList mixed Try.func55 rfl rfl (by kernel_rfl) ?_
  intro hwf Q hQ
  simp only [go_sem, hl]
  refine for_at (xs.length) [0] (fun i f h => f 1 = (.one (.c (.int .i64 (k + 5 * i)))) ∧ f 5 = (.one (.c (.int .i64 (i)))) ∧ h = h0.set l (.own g 108 5 cap ((fillR (markLot k) xs i).map lotC))) (GC.now ?_) ?_
  · simp only [go_sem, nc_0, true_and, hall, hl]
    rw [fill_0, set_same hl]; simp
  · rintro i f h J hi hA ⟨e1, e5, rfl⟩ hJ
    simp only [go_sem, hall, hl] at hA
    simp only [go_sem, hA, e1, e5, hall, hl]
    refine c_split (fun hb => ?_) (fun hb => ?_)
    rotate_left
    · simp only [go_sem, hb, hA, e1, e5, hall, hl]
      obtain rfl := ge_len hb hi
      refine hQ (h0.set l (.own g 108 5 cap ((fillR (markLot k) xs xs.length).map lotC))) _ _ ?_; refine GC.now (ret_m (by simp only [go_sem, Try.f55, hA, e1, e5, hall, hl]; exact _root_.id rfl) (by simp only [go_sem]) (by simp) (by first | exact hwf | exact wf_set hwf (by simp only [go_sem, hA, e1, e5, hall, hl]) | exact wf_set2 hwf (by simp only [go_sem, hA, e1, e5, hall, hl]) (by simp only [go_sem, hA, e1, e5, hall, hl]) | (simp only [go_sem]; done)) (by first | exact ⟨_, _root_.id rfl⟩ | exact ⟨[], (List.append_nil _).symm⟩) ?_) <;> simp only [go_sem, hA, e1, e5, hall, hl]
      rw [fill_all]
      exact hk
    have hi := lt_len hb
    have hw := wrap_nat i (by omega)
    have hil : (i : Int) < ((xs.length : Nat) : Int) := Int.ofNat_lt.2 hi
    have hg0 : (xs)[i]? = some ((xs)[i]) := List.getElem?_eq_getElem (by omega)
    simp only [go_sem, hb, hA, e1, e5, hall, hl, hg0]
    try simp only [go_sem, hA, e1, e5, hall, hl, hil, hg0]
    have hold := fill_get (markLot k) xs i
    rw [hg0] at hold
    have hself : ∀ x, ((fillR (markLot k) xs i).set i x)[i]? = some x := set_at hold
    have hset : (fillR (markLot k) xs i).set i ⟨k + 5 * i, k + 5 * i + 1, k + 5 * i + 2, k + 5 * i + 3, k + 5 * i + 4⟩ = fillR (markLot k) xs (i + 1) := fill_set (markLot k) xs i hi _ rfl
    have w1 : wrap64 (k + 5 * (i : Int) + 1) = k + 5 * i + 1 := by unfold wrap64; omega
    have w2 : wrap64 (k + 5 * (i : Int) + 1 + 1) = k + 5 * i + 2 := by unfold wrap64; omega
    have w3 : wrap64 (k + 5 * (i : Int) + 2 + 1) = k + 5 * i + 3 := by unfold wrap64; omega
    have w4 : wrap64 (k + 5 * (i : Int) + 3 + 1) = k + 5 * i + 4 := by unfold wrap64; omega
    have w5 : wrap64 (k + 5 * (i : Int) + 4 + 1) = k + 5 * ((i + 1 : Nat) : Int) := by unfold wrap64; omega
    (try simp only [go_sem, hA, e1, e5, hall, hl, hil, hg0, hold, hself, List.set_set, w1, w2, w3, w4, w5]); repeat' (first | (with_reducible refine c_split (fun hb => ?_) (fun hb => ?_) <;> try simp only [go_sem, hb, hA, e1, e5, hall, hl, hil, hg0, hold, hself, List.set_set, w1, w2, w3, w4, w5]) | (with_reducible refine w_split (fun hb => ?_) (fun hb => ?_) <;> try simp only [go_sem, hb, hA, e1, e5, hall, hl, hil, hg0, hold, hself, List.set_set, w1, w2, w3, w4, w5]) | (fail))
    refine GC.now (hJ _ _ hi (by simp only [go_sem, hA, e1, e5, hall, hl]) ⟨?_, ?_, ?_⟩) <;> try simp only [go_sem, hA, e1, e5, hall, hl, hw, hset]
def markTrade (k : Int) (i : Nat) : Trade := ⟨k + 8 * i, k + 8 * i + 1, k + 8 * i + 2, k + 8 * i + 3, k + 8 * i + 4, k + 8 * i + 5, k + 8 * i + 6, k + 8 * i + 7⟩
def marksTrade (k : Int) (n : Nat) : List Trade := (List.range n).map (markTrade k)
theorem marksTrade_len (k : Int) (n : Nat) : (marksTrade k n).length = n := by simp [marksTrade]
theorem marksTrade_tk (k : Int) (n : Nat) : ((marksTrade k n).map tradeC).take n = (marksTrade k n).map tradeC := List.take_of_length_le (by simp [marksTrade])
theorem c_markTradeS (xs : List Trade) (k : Int) (l g : Nat) (cap : Option Nat) (h0 : AH) (hl : h0[l]? = some (.own g 76 8 cap (xs.map tradeC))) (hn : xs.length ≤ 1000000000) (hk0 : 0 ≤ k) (hk1 : k ≤ 1000000000000)
    (K : AV → AH → Prop) (hk : K (.one (.c (.int .i64 (k + 8 * xs.length)))) (h0.set l (.own g 76 8 cap ((marksTrade k xs.length).map tradeC)))) : ACalls Try.prog 56 [.one (.sl l g 0 xs.length), (.one (.c (.int .i64 (k))))] h0 K := by
  have hall : ∀ o, (h0.set l o)[l]? = some o := set_at hl
  refine acall_m Try.f56.results.toList mixed Try.func56 rfl rfl (by kernel_rfl) ?_
  intro hwf Q hQ
  simp only [go_sem, hl]
  refine for_at (xs.length) [0] (fun i f h => f 1 = (.one (.c (.int .i64 (k + 8 * i)))) ∧ f 5 = (.one (.c (.int .i64 (i)))) ∧ h = h0.set l (.own g 76 8 cap ((fillR (markTrade k) xs i).map tradeC))) (GC.now ?_) ?_
  · simp only [go_sem, nc_0, true_and, hall, hl]
    rw [fill_0, set_same hl]; simp
  · rintro i f h J hi hA ⟨e1, e5, rfl⟩ hJ
    simp only [go_sem, hall, hl] at hA
    simp only [go_sem, hA, e1, e5, hall, hl]
    refine c_split (fun hb => ?_) (fun hb => ?_)
    rotate_left
    · simp only [go_sem, hb, hA, e1, e5, hall, hl]
      obtain rfl := ge_len hb hi
      refine hQ (h0.set l (.own g 76 8 cap ((fillR (markTrade k) xs xs.length).map tradeC))) _ _ ?_; refine GC.now (ret_m (by simp only [go_sem, Try.f56, hA, e1, e5, hall, hl]; exact _root_.id rfl) (by simp only [go_sem]) (by simp) (by first | exact hwf | exact wf_set hwf (by simp only [go_sem, hA, e1, e5, hall, hl]) | exact wf_set2 hwf (by simp only [go_sem, hA, e1, e5, hall, hl]) (by simp only [go_sem, hA, e1, e5, hall, hl]) | (simp only [go_sem]; done)) (by first | exact ⟨_, _root_.id rfl⟩ | exact ⟨[], (List.append_nil _).symm⟩) ?_) <;> simp only [go_sem, hA, e1, e5, hall, hl]
      rw [fill_all]
      exact hk
    have hi := lt_len hb
    have hw := wrap_nat i (by omega)
    have hil : (i : Int) < ((xs.length : Nat) : Int) := Int.ofNat_lt.2 hi
    have hg0 : (xs)[i]? = some ((xs)[i]) := List.getElem?_eq_getElem (by omega)
    simp only [go_sem, hb, hA, e1, e5, hall, hl, hg0]
    try simp only [go_sem, hA, e1, e5, hall, hl, hil, hg0]
    have hold := fill_get (markTrade k) xs i
    rw [hg0] at hold
    have hself : ∀ x, ((fillR (markTrade k) xs i).set i x)[i]? = some x := set_at hold
    have hset : (fillR (markTrade k) xs i).set i ⟨k + 8 * i, k + 8 * i + 1, k + 8 * i + 2, k + 8 * i + 3, k + 8 * i + 4, k + 8 * i + 5, k + 8 * i + 6, k + 8 * i + 7⟩ = fillR (markTrade k) xs (i + 1) := fill_set (markTrade k) xs i hi _ rfl
    have w1 : wrap64 (k + 8 * (i : Int) + 1) = k + 8 * i + 1 := by unfold wrap64; omega
    have w2 : wrap64 (k + 8 * (i : Int) + 1 + 1) = k + 8 * i + 2 := by unfold wrap64; omega
    have w3 : wrap64 (k + 8 * (i : Int) + 2 + 1) = k + 8 * i + 3 := by unfold wrap64; omega
    have w4 : wrap64 (k + 8 * (i : Int) + 3 + 1) = k + 8 * i + 4 := by unfold wrap64; omega
    have w5 : wrap64 (k + 8 * (i : Int) + 4 + 1) = k + 8 * i + 5 := by unfold wrap64; omega
    have w6 : wrap64 (k + 8 * (i : Int) + 5 + 1) = k + 8 * i + 6 := by unfold wrap64; omega
    have w7 : wrap64 (k + 8 * (i : Int) + 6 + 1) = k + 8 * i + 7 := by unfold wrap64; omega
    have w8 : wrap64 (k + 8 * (i : Int) + 7 + 1) = k + 8 * ((i + 1 : Nat) : Int) := by unfold wrap64; omega
    (try simp only [go_sem, hA, e1, e5, hall, hl, hil, hg0, hold, hself, List.set_set, w1, w2, w3, w4, w5, w6, w7, w8]); repeat' (first | (with_reducible refine c_split (fun hb => ?_) (fun hb => ?_) <;> try simp only [go_sem, hb, hA, e1, e5, hall, hl, hil, hg0, hold, hself, List.set_set, w1, w2, w3, w4, w5, w6, w7, w8]) | (with_reducible refine w_split (fun hb => ?_) (fun hb => ?_) <;> try simp only [go_sem, hb, hA, e1, e5, hall, hl, hil, hg0, hold, hself, List.set_set, w1, w2, w3, w4, w5, w6, w7, w8]) | (fail))
    refine GC.now (hJ _ _ hi (by simp only [go_sem, hA, e1, e5, hall, hl]) ⟨?_, ?_, ?_⟩) <;> try simp only [go_sem, hA, e1, e5, hall, hl, hw, hset]
def markN (b : Books) (k : Int) : Int := k + 2 * b.accounts.length + 2 * b.instrs.length + 3 * b.bals.length + 5 * b.lots.length + 8 * b.trades.length
theorem app_new {h : AH} {n : Nat} (e : h.length = n) (x : AO) (r : AH) : (h ++ x :: r)[n]? = some x := by subst e; simp
theorem wf_at {h : AH} {n l : Nat} {o : AO} (hw : h.all (ltO n) = true) (ho : ltO n o = true) : (h.set l o).all (ltO n) = true := by
  rw [List.all_eq_true]
  intro x hx
  rcases List.mem_or_eq_of_mem_set hx with hx | rfl
  · exact (List.all_eq_true.1 hw) x hx
  · exact ho
theorem set_other {h : AH} {a b : Nat} {o : AO} {x : Option AO} (hne : a ≠ b) (h1 : h[b]? = x) : (h.set a o)[b]? = x := by rw [List.getElem?_set_ne hne]; exact h1
theorem c_markBooks (b : Books) (hs : Small b) (k : Int) (l0 l1 l2 l3 l4 g0 g1 g2 g3 g4 : Nat) (c0 c1 c2 c3 c4 : Option Nat) (h0 : AH) (e0 : h0[l0]? = some (.own g0 100 2 c0 (b.accounts.map accountC))) (e1 : h0[l1]? = some (.own g1 99 2 c1 (b.instrs.map accountC))) (e2 : h0[l2]? = some (.own g2 62 3 c2 (b.bals.map balC))) (e3 : h0[l3]? = some (.own g3 108 5 c3 (b.lots.map lotC))) (e4 : h0[l4]? = some (.own g4 76 8 c4 (b.trades.map tradeC))) (d01 : l0 ≠ l1) (d02 : l0 ≠ l2) (d03 : l0 ≠ l3) (d04 : l0 ≠ l4) (d12 : l1 ≠ l2) (d13 : l1 ≠ l3) (d14 : l1 ≠ l4) (d23 : l2 ≠ l3) (d24 : l2 ≠ l4) (d34 : l3 ≠ l4) (hk0 : 0 ≤ k) (hk1 : k ≤ 1000000000)
    (K : AV → AH → Prop) (hk : K (.one (.c (.int .i64 (markN b k)))) (((((h0.set l0 (.own g0 100 2 c0 ((marksAccount k b.accounts.length).map accountC))).set l1 (.own g1 99 2 c1 ((marksInstr (k + 2 * b.accounts.length) b.instrs.length).map accountC))).set l2 (.own g2 62 3 c2 ((marksBal ((k + 2 * b.accounts.length) + 2 * b.instrs.length) b.bals.length).map balC))).set l3 (.own g3 108 5 c3 ((marksLot (((k + 2 * b.accounts.length) + 2 * b.instrs.length) + 3 * b.bals.length) b.lots.length).map lotC))).set l4 (.own g4 76 8 c4 ((marksTrade ((((k + 2 * b.accounts.length) + 2 * b.instrs.length) + 3 * b.bals.length) + 5 * b.lots.length) b.trades.length).map tradeC)))) : ACalls Try.prog 17 [.agg [.sl l0 g0 0 b.accounts.length, .sl l1 g1 0 b.instrs.length, .sl l2 g2 0 b.bals.length, .sl l3 g3 0 b.lots.length, .sl l4 g4 0 b.trades.length, .c (.int .i64 (b.lot))], (.one (.c (.int .i64 (k))))] h0 K := by
  have t0 := (List.getElem?_eq_some_iff.1 e0).1
  have t1 := (List.getElem?_eq_some_iff.1 e1).1
  have t2 := (List.getElem?_eq_some_iff.1 e2).1
  have t3 := (List.getElem?_eq_some_iff.1 e3).1
  have t4 := (List.getElem?_eq_some_iff.1 e4).1
  have n0 := hs.ha
  have n1 := hs.hi
  have n2 := hs.hb
  have n3 := hs.hl
  have n4 := hs.ht
  refine acall_m Try.f17.results.toList mixed Try.func17 rfl rfl (by kernel_rfl) ?_
  intro hwf Q hQ
  simp only [go_sem, e0, e1, e2, e3, e4]
  have r0 : h0[l0]? = some (.own g0 100 2 c0 (b.accounts.map accountC)) := e0
  have s0 : l0 < h0.length := (List.getElem?_eq_some_iff.1 r0).1
  refine call_h (c_markAccountS b.accounts k l0 g0 c0 _ (h_old _ r0) n0 (by omega) (by omega) _ ?_)
  simp only [go_sem, List.set_append_left _ _ s0]
  have w1 := fun x r => app_new (h := (h0.set l0 (.own g0 100 2 c0 ((marksAccount k b.accounts.length).map accountC)))) (n := h0.length) (by simp only [List.length_set]) x r
  (try simp only [go_sem, w1]); repeat' (first | (with_reducible refine c_split (fun hb => ?_) (fun hb => ?_) <;> try simp only [go_sem, hb, w1]) | (with_reducible refine w_split (fun hb => ?_) (fun hb => ?_) <;> try simp only [go_sem, hb, w1]) | (fail))
  have r1 : (h0.set l0 (.own g0 100 2 c0 ((marksAccount k b.accounts.length).map accountC)))[l1]? = some (.own g1 99 2 c1 (b.instrs.map accountC)) := (set_other d01 e1)
  have s1 : l1 < (h0.set l0 (.own g0 100 2 c0 ((marksAccount k b.accounts.length).map accountC))).length := (List.getElem?_eq_some_iff.1 r1).1
  refine call_h (c_markInstrS b.instrs (k + 2 * b.accounts.length) l1 g1 c1 _ (h_old _ r1) n1 (by omega) (by omega) _ ?_)
  simp only [go_sem, List.set_append_left _ _ s1]
  have w2 := fun x r => app_new (h := ((h0.set l0 (.own g0 100 2 c0 ((marksAccount k b.accounts.length).map accountC))).set l1 (.own g1 99 2 c1 ((marksInstr (k + 2 * b.accounts.length) b.instrs.length).map accountC)))) (n := h0.length) (by simp only [List.length_set]) x r
  (try simp only [go_sem, w2]); repeat' (first | (with_reducible refine c_split (fun hb => ?_) (fun hb => ?_) <;> try simp only [go_sem, hb, w2]) | (with_reducible refine w_split (fun hb => ?_) (fun hb => ?_) <;> try simp only [go_sem, hb, w2]) | (fail))
  have r2 : ((h0.set l0 (.own g0 100 2 c0 ((marksAccount k b.accounts.length).map accountC))).set l1 (.own g1 99 2 c1 ((marksInstr (k + 2 * b.accounts.length) b.instrs.length).map accountC)))[l2]? = some (.own g2 62 3 c2 (b.bals.map balC)) := (set_other d12 (set_other d02 e2))
  have s2 : l2 < ((h0.set l0 (.own g0 100 2 c0 ((marksAccount k b.accounts.length).map accountC))).set l1 (.own g1 99 2 c1 ((marksInstr (k + 2 * b.accounts.length) b.instrs.length).map accountC))).length := (List.getElem?_eq_some_iff.1 r2).1
  refine call_h (c_markBalS b.bals ((k + 2 * b.accounts.length) + 2 * b.instrs.length) l2 g2 c2 _ (h_old _ r2) n2 (by omega) (by omega) _ ?_)
  simp only [go_sem, List.set_append_left _ _ s2]
  have w3 := fun x r => app_new (h := (((h0.set l0 (.own g0 100 2 c0 ((marksAccount k b.accounts.length).map accountC))).set l1 (.own g1 99 2 c1 ((marksInstr (k + 2 * b.accounts.length) b.instrs.length).map accountC))).set l2 (.own g2 62 3 c2 ((marksBal ((k + 2 * b.accounts.length) + 2 * b.instrs.length) b.bals.length).map balC)))) (n := h0.length) (by simp only [List.length_set]) x r
  (try simp only [go_sem, w3]); repeat' (first | (with_reducible refine c_split (fun hb => ?_) (fun hb => ?_) <;> try simp only [go_sem, hb, w3]) | (with_reducible refine w_split (fun hb => ?_) (fun hb => ?_) <;> try simp only [go_sem, hb, w3]) | (fail))
  have r3 : (((h0.set l0 (.own g0 100 2 c0 ((marksAccount k b.accounts.length).map accountC))).set l1 (.own g1 99 2 c1 ((marksInstr (k + 2 * b.accounts.length) b.instrs.length).map accountC))).set l2 (.own g2 62 3 c2 ((marksBal ((k + 2 * b.accounts.length) + 2 * b.instrs.length) b.bals.length).map balC)))[l3]? = some (.own g3 108 5 c3 (b.lots.map lotC)) := (set_other d23 (set_other d13 (set_other d03 e3)))
  have s3 : l3 < (((h0.set l0 (.own g0 100 2 c0 ((marksAccount k b.accounts.length).map accountC))).set l1 (.own g1 99 2 c1 ((marksInstr (k + 2 * b.accounts.length) b.instrs.length).map accountC))).set l2 (.own g2 62 3 c2 ((marksBal ((k + 2 * b.accounts.length) + 2 * b.instrs.length) b.bals.length).map balC))).length := (List.getElem?_eq_some_iff.1 r3).1
  refine call_h (c_markLotS b.lots (((k + 2 * b.accounts.length) + 2 * b.instrs.length) + 3 * b.bals.length) l3 g3 c3 _ (h_old _ r3) n3 (by omega) (by omega) _ ?_)
  simp only [go_sem, List.set_append_left _ _ s3]
  have w4 := fun x r => app_new (h := ((((h0.set l0 (.own g0 100 2 c0 ((marksAccount k b.accounts.length).map accountC))).set l1 (.own g1 99 2 c1 ((marksInstr (k + 2 * b.accounts.length) b.instrs.length).map accountC))).set l2 (.own g2 62 3 c2 ((marksBal ((k + 2 * b.accounts.length) + 2 * b.instrs.length) b.bals.length).map balC))).set l3 (.own g3 108 5 c3 ((marksLot (((k + 2 * b.accounts.length) + 2 * b.instrs.length) + 3 * b.bals.length) b.lots.length).map lotC)))) (n := h0.length) (by simp only [List.length_set]) x r
  (try simp only [go_sem, w4]); repeat' (first | (with_reducible refine c_split (fun hb => ?_) (fun hb => ?_) <;> try simp only [go_sem, hb, w4]) | (with_reducible refine w_split (fun hb => ?_) (fun hb => ?_) <;> try simp only [go_sem, hb, w4]) | (fail))
  have r4 : ((((h0.set l0 (.own g0 100 2 c0 ((marksAccount k b.accounts.length).map accountC))).set l1 (.own g1 99 2 c1 ((marksInstr (k + 2 * b.accounts.length) b.instrs.length).map accountC))).set l2 (.own g2 62 3 c2 ((marksBal ((k + 2 * b.accounts.length) + 2 * b.instrs.length) b.bals.length).map balC))).set l3 (.own g3 108 5 c3 ((marksLot (((k + 2 * b.accounts.length) + 2 * b.instrs.length) + 3 * b.bals.length) b.lots.length).map lotC)))[l4]? = some (.own g4 76 8 c4 (b.trades.map tradeC)) := (set_other d34 (set_other d24 (set_other d14 (set_other d04 e4))))
  have s4 : l4 < ((((h0.set l0 (.own g0 100 2 c0 ((marksAccount k b.accounts.length).map accountC))).set l1 (.own g1 99 2 c1 ((marksInstr (k + 2 * b.accounts.length) b.instrs.length).map accountC))).set l2 (.own g2 62 3 c2 ((marksBal ((k + 2 * b.accounts.length) + 2 * b.instrs.length) b.bals.length).map balC))).set l3 (.own g3 108 5 c3 ((marksLot (((k + 2 * b.accounts.length) + 2 * b.instrs.length) + 3 * b.bals.length) b.lots.length).map lotC))).length := (List.getElem?_eq_some_iff.1 r4).1
  refine call_h (c_markTradeS b.trades ((((k + 2 * b.accounts.length) + 2 * b.instrs.length) + 3 * b.bals.length) + 5 * b.lots.length) l4 g4 c4 _ (h_old _ r4) n4 (by omega) (by omega) _ ?_)
  simp only [go_sem, List.set_append_left _ _ s4]
  have hwf : (((((h0.set l0 (.own g0 100 2 c0 ((marksAccount k b.accounts.length).map accountC))).set l1 (.own g1 99 2 c1 ((marksInstr (k + 2 * b.accounts.length) b.instrs.length).map accountC))).set l2 (.own g2 62 3 c2 ((marksBal ((k + 2 * b.accounts.length) + 2 * b.instrs.length) b.bals.length).map balC))).set l3 (.own g3 108 5 c3 ((marksLot (((k + 2 * b.accounts.length) + 2 * b.instrs.length) + 3 * b.bals.length) b.lots.length).map lotC))).set l4 (.own g4 76 8 c4 ((marksTrade ((((k + 2 * b.accounts.length) + 2 * b.instrs.length) + 3 * b.bals.length) + 5 * b.lots.length) b.trades.length).map tradeC))).all (ltO h0.length) = true := (wf_at (wf_at (wf_at (wf_at (wf_at hwf (by simp only [go_sem])) (by simp only [go_sem])) (by simp only [go_sem])) (by simp only [go_sem])) (by simp only [go_sem]))
  refine hQ ((((((h0.set l0 (.own g0 100 2 c0 ((marksAccount k b.accounts.length).map accountC))).set l1 (.own g1 99 2 c1 ((marksInstr (k + 2 * b.accounts.length) b.instrs.length).map accountC))).set l2 (.own g2 62 3 c2 ((marksBal ((k + 2 * b.accounts.length) + 2 * b.instrs.length) b.bals.length).map balC))).set l3 (.own g3 108 5 c3 ((marksLot (((k + 2 * b.accounts.length) + 2 * b.instrs.length) + 3 * b.bals.length) b.lots.length).map lotC))).set l4 (.own g4 76 8 c4 ((marksTrade ((((k + 2 * b.accounts.length) + 2 * b.instrs.length) + 3 * b.bals.length) + 5 * b.lots.length) b.trades.length).map tradeC)))) _ _ ?_; refine GC.now (ret_m (by simp only [go_sem, Try.f17]; exact _root_.id rfl) (by simp only [go_sem]) (by simp) (by first | exact hwf | exact wf_set hwf (by simp only [go_sem]) | exact wf_set2 hwf (by simp only [go_sem]) (by simp only [go_sem]) | (simp only [go_sem]; done)) (by first | exact ⟨_, _root_.id rfl⟩ | exact ⟨[], (List.append_nil _).symm⟩) ?_) <;> simp only [go_sem]
  exact hk
end Go.Proofs.Ytedkpjaojdkpcaa
