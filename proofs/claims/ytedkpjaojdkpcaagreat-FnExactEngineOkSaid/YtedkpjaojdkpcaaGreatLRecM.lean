/- RecM: the records of books marked, and found as they were marked. Conditions: none. -/
import Derived.Test.YtedkpjaojdkpcaaGreatLG
import Derived.Test.YtedkpjaojdkpcaaGreatLT
import Derived.Test.YtedkpjaojdkpcaaGreatLBooksLaw
namespace Go.Proofs.YtedkpjaojdkpcaaGreat
open Go.BL Go.RowKit
set_option linter.unusedVariables false
set_option linter.unusedSimpArgs false
set_option maxRecDepth 100000
attribute [local go_sem] accountC balC lotC tradeC booksC booksA
def markAccount (k : Int) (i : Nat) : Account := ⟨k + 2 * i, k + 2 * i + 1⟩
def marksAccount (k : Int) (n : Nat) : List Account := (List.range n).map (markAccount k)
theorem marksAccount_len (k : Int) (n : Nat) : (marksAccount k n).length = n := by simp [marksAccount]
theorem marksAccount_tk (k : Int) (n : Nat) : ((marksAccount k n).map accountC).take n = (marksAccount k n).map accountC := List.take_of_length_le (by simp [marksAccount])
def markInstr (k : Int) (i : Nat) : Account := ⟨k + 2 * i, k + 2 * i + 1⟩
def marksInstr (k : Int) (n : Nat) : List Account := (List.range n).map (markInstr k)
theorem marksInstr_len (k : Int) (n : Nat) : (marksInstr k n).length = n := by simp [marksInstr]
theorem marksInstr_tk (k : Int) (n : Nat) : ((marksInstr k n).map accountC).take n = (marksInstr k n).map accountC := List.take_of_length_le (by simp [marksInstr])
def markBal (k : Int) (i : Nat) : Bal := ⟨k + 3 * i, k + 3 * i + 1, k + 3 * i + 2⟩
def marksBal (k : Int) (n : Nat) : List Bal := (List.range n).map (markBal k)
theorem marksBal_len (k : Int) (n : Nat) : (marksBal k n).length = n := by simp [marksBal]
theorem marksBal_tk (k : Int) (n : Nat) : ((marksBal k n).map balC).take n = (marksBal k n).map balC := List.take_of_length_le (by simp [marksBal])
def markLot (k : Int) (i : Nat) : Lot := ⟨k + 5 * i, k + 5 * i + 1, k + 5 * i + 2, k + 5 * i + 3, k + 5 * i + 4⟩
def marksLot (k : Int) (n : Nat) : List Lot := (List.range n).map (markLot k)
theorem marksLot_len (k : Int) (n : Nat) : (marksLot k n).length = n := by simp [marksLot]
theorem marksLot_tk (k : Int) (n : Nat) : ((marksLot k n).map lotC).take n = (marksLot k n).map lotC := List.take_of_length_le (by simp [marksLot])
def markTrade (k : Int) (i : Nat) : Trade := ⟨k + 8 * i, k + 8 * i + 1, k + 8 * i + 2, k + 8 * i + 3, k + 8 * i + 4, k + 8 * i + 5, k + 8 * i + 6, k + 8 * i + 7⟩
def marksTrade (k : Int) (n : Nat) : List Trade := (List.range n).map (markTrade k)
theorem marksTrade_len (k : Int) (n : Nat) : (marksTrade k n).length = n := by simp [marksTrade]
theorem marksTrade_tk (k : Int) (n : Nat) : ((marksTrade k n).map tradeC).take n = (marksTrade k n).map tradeC := List.take_of_length_le (by simp [marksTrade])
def markN (b : Books) (k : Int) : Int := k + 2 * b.accounts.length + 2 * b.instrs.length + 3 * b.bals.length + 5 * b.lots.length + 8 * b.trades.length
theorem app_new {h : AH} {n : Nat} (e : h.length = n) (x : AO) (r : AH) : (h ++ x :: r)[n]? = some x := by subst e; simp
theorem wf_at {h : AH} {n l : Nat} {o : AO} (hw : h.all (ltO n) = true) (ho : ltO n o = true) : (h.set l o).all (ltO n) = true := by
  rw [List.all_eq_true]
  intro x hx
  rcases List.mem_or_eq_of_mem_set hx with hx | rfl
  · exact (List.all_eq_true.1 hw) x hx
  · exact ho
theorem set_other {h : AH} {a b : Nat} {o : AO} {x : Option AO} (hne : a ≠ b) (h1 : h[b]? = x) : (h.set a o)[b]? = x := by rw [List.getElem?_set_ne hne]; exact h1
end Go.Proofs.YtedkpjaojdkpcaaGreat
