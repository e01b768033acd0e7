/- Clear: a disk cleared of its segments but some, as the program and as the specification does it. Conditions: none. -/
import Derived.Test.YtedkpjaojdkpcaaLG
import Derived.Test.YtedkpjaojdkpcaaLT
import Derived.Test.YtedkpjaojdkpcaaLRows
namespace Go.Proofs.Ytedkpjaojdkpcaa
open Go.BL Go.RowKit
set_option linter.unusedVariables false
set_option linter.unusedSimpArgs false
set_option maxRecDepth 100000
attribute [local go_sem] fileC diskC fileC_len intC
/-- A closure that tells 'p' of a file, on any heap that keeps what it holds. -/
def CloB (g : Nat) (caps : List Nat) (h0 : AH) (p : File → Bool) : Prop := ∀ (h1 : AH) (x : File) (K' : AV → AH → Prop), (∀ c ∈ caps, h1[c]? = h0[c]?) → K' (.one (.c (.bool (p x)))) h1 → callA Try.prog g ([.agg (fileC x)] ++ caps.map fun l => .one (.pt l 0 0 0)) h1 K'
theorem findG_cases {α : Type} (p : α → Bool) (xs : List α) : (findG p xs = -1 ∧ xs.filter (fun x => !p x) = xs) ∨ ∃ (i : Nat) (hi : i < xs.length), findG p xs = i ∧ p xs[i] = true ∧ (xs.take (i + 1)).filter (fun x => !p x) = xs.take i := by
  unfold findG
  cases hf : xs.findIdx? p with
  | none =>
    rw [List.findIdx?_eq_none_iff] at hf
    exact .inl ⟨rfl, List.filter_eq_self.2 fun x hx => by simp [hf x hx]⟩
  | some i =>
    rw [List.findIdx?_eq_some_iff_getElem] at hf
    obtain ⟨hi, h1, h2⟩ := hf
    refine .inr ⟨i, hi, rfl, h1, ?_⟩
    rw [List.take_succ_eq_append_getElem hi, List.filter_append, List.filter_eq_self.2]
    · simp [h1]
    · intro x hx
      obtain ⟨j, hj, rfl⟩ := List.mem_iff_getElem.1 hx
      simp only [List.length_take] at hj
      have := h2 j (by omega)
      simpa using this
theorem del_arith {a m j n : Nat} (h : a + 1 + m = j) (hj : j < n) (hn : n ≤ 1000000000) : a < 9223372036854775807 ∧ j < 9223372036854775807 ∧ (a : Int) < (n : Int) ∧ n - (j + 1) < n - j ∧ j + 1 ≤ n ∧ a + 1 + 1 + m = j + 1 ∧ a + 1 + (m + 1) = j + 1 := by omega
theorem set_mid {α : Type} (A : List α) (m : α) (B : List α) (x : α) : (A ++ m :: B).set A.length x = A ++ x :: B := by
  rw [List.set_append_right _ _ (Nat.le_refl _), Nat.sub_self]; rfl
theorem findG_mem (xs : List Int) (v : Int) : decide (0 ≤ findG (fun x => v == x) xs) = decide (v ∈ xs) := by
  unfold findG
  cases hf : xs.findIdx? (fun x => v == x) with
  | none =>
    rw [List.findIdx?_eq_none_iff] at hf
    have : ¬ v ∈ xs := fun hm => by have := hf v hm; simp at this
    simp [this]
  | some i =>
    rw [List.findIdx?_eq_some_iff_getElem] at hf
    obtain ⟨hi, h1, _⟩ := hf
    have : v ∈ xs := by rw [eq_of_beq h1]; exact List.getElem_mem hi
    simp [this]
/-- A segment that isn't kept. -/
def goneP (keep : List Int) (f : File) : Bool := decide (0 ≤ f.name ∧ f.name ≤ 19) && !decide (f.name ∈ keep)
def clearFiles (keep : List Int) (fs : List File) : List File := fs.filter fun f => !goneP keep f
def clearDisk (d : Disk) (keep : List Int) : Disk := if diskOk d = true ∧ keep.length ≤ 20 then ⟨d.room, clearFiles keep d.files⟩ else ⟨0, []⟩
theorem take_filter {α : Type} (p : α → Bool) (xs : List α) (i : Nat) (hi : i < xs.length) : (xs.take (i + 1)).filter p = (xs.take i).filter p ++ (if p xs[i] = true then [xs[i]] else []) := by
  rw [List.take_succ_eq_append_getElem hi, List.filter_append]
  cases h : p xs[i] <;> simp [h]
end Go.Proofs.Ytedkpjaojdkpcaa
