/- Find: the place of a file, as the program and as the specification finds it. Conditions: none. -/
import Derived.Test.YtaahlnjldenhpaaDoorLG
import Derived.Test.YtaahlnjldenhpaaDoorLT
import Derived.Test.YtaahlnjldenhpaaDoorLFiles
namespace Go.Proofs.YtaahlnjldenhpaaDoor
open Go.BL Go.RowKit
set_option linter.unusedVariables false
set_option linter.unusedSimpArgs false
set_option maxRecDepth 100000
attribute [local go_sem] fileC diskC fileC_len
def findG {α : Type} (p : α → Bool) (fs : List α) : Int := match fs.findIdx? p with | some i => (i : Int) | none => -1
theorem findG_at {α : Type} {p : α → Bool} {fs : List α} {i : Nat} (hi : i < fs.length) (h1 : ∀ j (hj : j < i), p (fs[j]'(Nat.lt_trans hj hi)) = false) (h2 : p fs[i] = true) : findG p fs = i := by
  have : fs.findIdx? p = some i := by
    rw [List.findIdx?_eq_some_iff_getElem]
    exact ⟨hi, h2, fun j hj => by simp [h1 j hj]⟩
  simp [findG, this]
theorem findG_none {α : Type} {p : α → Bool} {fs : List α} (h1 : ∀ j (hj : j < fs.length), p fs[j] = false) : findG p fs = -1 := by
  have : fs.findIdx? p = none := by
    rw [List.findIdx?_eq_none_iff]
    intro x hx
    obtain ⟨j, hj, rfl⟩ := List.mem_iff_getElem.1 hx
    exact h1 j hj
  simp [findG, this]
/-- Nothing found in the first i. -/
def noneTo {α : Type} (p : α → Bool) (xs : List α) (i : Nat) : Prop := ∀ j (hj : j < xs.length), j < i → p xs[j] = false
theorem noneTo_0 {α : Type} (p : α → Bool) (xs : List α) : noneTo p xs 0 := fun j hj h => absurd h (Nat.not_lt_zero j)
theorem noneTo_s {α : Type} {p : α → Bool} {xs : List α} {i : Nat} (h : noneTo p xs i) (hi : i < xs.length) (hp : p xs[i] = false) : noneTo p xs (i + 1) := fun j hj hji => by
  rcases Nat.lt_or_ge j i with h' | h'
  · exact h j hj h'
  · obtain rfl : j = i := by omega
    exact hp
theorem findG_of {α : Type} {p : α → Bool} {xs : List α} {i : Nat} (h : noneTo p xs i) (hi : i < xs.length) (hp : p xs[i] = true) : findG p xs = i := findG_at hi (fun j hj => h j _ hj) hp
theorem findG_no {α : Type} {p : α → Bool} {xs : List α} (h : noneTo p xs xs.length) : findG p xs = -1 := findG_none fun j hj => h j hj hj
end Go.Proofs.YtaahlnjldenhpaaDoor
