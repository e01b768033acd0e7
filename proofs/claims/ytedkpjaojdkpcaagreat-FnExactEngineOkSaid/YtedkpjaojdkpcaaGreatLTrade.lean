/- Trade: a trade by its number, and the word that is told of it. Conditions: none. -/
import Derived.Test.YtedkpjaojdkpcaaGreatLG
import Derived.Test.YtedkpjaojdkpcaaGreatLT
import Derived.Test.YtedkpjaojdkpcaaGreatLBooksLaw
namespace Go.Proofs.YtedkpjaojdkpcaaGreat
open Go.BL Go.RowKit
set_option linter.unusedVariables false
set_option linter.unusedSimpArgs false
set_option maxRecDepth 100000
attribute [local go_sem] accountC balC lotC tradeC booksC booksA
theorem booksOk_parts {b : Books} (h : booksOk b = true) : accountsOk b.accounts = true ∧ instrsOk b.instrs = true ∧ balsOk b.bals = true ∧ lotsOk b.lots = true ∧ tradesOk b.trades = true := by
  simp only [booksOk, listsOk, Bool.and_eq_true] at h
  obtain ⟨⟨⟨⟨⟨⟨⟨⟨h1, h2⟩, h3⟩, h4⟩, h5⟩, _⟩, _⟩, _⟩, _⟩ := h
  exact ⟨h1, h2, h3, h4, h5⟩
theorem m1_neg : decide ((-1 : Int) < 0) = true := rfl
def zeroT : Trade := ⟨0, 0, 0, 0, 0, 0, 0, 0⟩
def trIs (no : Int) (t : Trade) : Bool := t.no == no
def tradeR (b : Books) (no : Int) : Option Trade := if booksOk b = true then b.trades.find? (trIs no) else none
def tradeV : Option Trade → AV
  | some t => .tup [.agg (tradeC t), (.one (.c (.bool (true))))]
  | none => .tup [.agg (tradeC zeroT), (.one (.c (.bool (false))))]
theorem findO_cases {α : Type} (p : α → Bool) (xs : List α) : (∃ (k : Nat) (hk : k < xs.length), findG p xs = k ∧ xs.find? p = some xs[k]) ∨ findG p xs = -1 ∧ xs.find? p = none := by
  cases h : xs.findIdx? p with
  | none =>
    refine .inr ⟨by rw [findG, h], ?_⟩
    rw [List.findIdx?_eq_none_iff] at h
    exact List.find?_eq_none.2 fun x hx => by rw [h x hx]; decide
  | some k =>
    have h2 := List.findIdx?_eq_some_iff_getElem.1 h
    obtain ⟨hk, hp, hj⟩ := h2
    refine .inl ⟨k, hk, by rw [findG, h], ?_⟩
    exact find_at (fun j _ hjk => by have := hj j hjk; simpa using this) hk hp
theorem tradeR_ok {b : Books} {no : Int} {t : Trade} (h : tradeR b no = some t) : booksOk b = true ∧ trP t = true ∧ t ∈ b.trades ∧ t.no = no := by
  unfold tradeR at h
  split at h
  · rename_i hok
    have hm := List.mem_of_find?_eq_some h
    refine ⟨hok, okL_p (booksOk_parts hok).2.2.2.2 hm, hm, ?_⟩
    have := List.find?_some h
    simpa [trIs] using this
  · cases h
theorem trP_state {t : Trade} (h : trP t = true) : t.state = 1 ∨ t.state = 2 ∨ t.state = 3 := by
  simp only [trP, Bool.and_eq_true] at h
  have := of_decide_eq_true h.2
  omega
def wordT (s : Int) : ByteArray := if s = 1 then ⟨#[111, 112, 101, 110]⟩ else if s = 2 then ⟨#[100, 111, 110, 101]⟩ else ⟨#[103, 111, 110, 101]⟩
def showT (b : Books) (no : Int) : ByteArray := match tradeR b no with | some t => wordT t.state | none => ⟨#[110, 111, 110, 101]⟩
theorem ix0_1 : ((0 : Int) ≤ 1) = True := eq_true (by decide)
theorem ix4_1 : ((1 : Int) < ((4 : Nat) : Int)) = True := eq_true (by decide)
theorem nat_1 : Int.toNat 1 = 1 := rfl
theorem l4_1 {α : Type} (a b c d : α) : [a, b, c, d][1]? = some b := rfl
theorem ix0_2 : ((0 : Int) ≤ 2) = True := eq_true (by decide)
theorem ix4_2 : ((2 : Int) < ((4 : Nat) : Int)) = True := eq_true (by decide)
theorem nat_2 : Int.toNat 2 = 2 := rfl
theorem l4_2 {α : Type} (a b c d : α) : [a, b, c, d][2]? = some c := rfl
theorem ix0_3 : ((0 : Int) ≤ 3) = True := eq_true (by decide)
theorem ix4_3 : ((3 : Int) < ((4 : Nat) : Int)) = True := eq_true (by decide)
theorem nat_3 : Int.toNat 3 = 3 := rfl
theorem l4_3 {α : Type} (a b c d : α) : [a, b, c, d][3]? = some d := rfl
end Go.Proofs.YtedkpjaojdkpcaaGreat
