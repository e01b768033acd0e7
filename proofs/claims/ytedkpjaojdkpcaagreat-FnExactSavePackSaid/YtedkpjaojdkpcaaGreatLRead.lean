/- Read: a file's bytes, and sealed bytes laid open. Conditions: none. -/
import Derived.Test.YtedkpjaojdkpcaaGreatLG
import Derived.Test.YtedkpjaojdkpcaaGreatLT
import Derived.Test.YtedkpjaojdkpcaaGreatLNums
namespace Go.Proofs.YtedkpjaojdkpcaaGreat
open Go.BL Go.RowKit
set_option linter.unusedVariables false
set_option linter.unusedSimpArgs false
set_option maxRecDepth 100000
attribute [local go_sem] fileC diskC fileC_len byteC
def readA (d : Disk) (name : Int) : Option ByteArray := if diskOk d = true then (d.files[(findG (fun f => f.name == name) d.files).toNat]?).bind fun f => if 0 ≤ findG (fun f => f.name == name) d.files then some (f.safe ++ f.late) else none else none
def readR : Option ByteArray → AV
  | some s => .tup [(.one (.c (.string (s)))), (.one (.c (.bool (true))))]
  | none => .tup [(.one (.c (.string (⟨#[]⟩)))), (.one (.c (.bool (false))))]
theorem findG_lt {α : Type} (p : α → Bool) (xs : List α) (h : 0 ≤ findG p xs) : ∃ (i : Nat) (hi : i < xs.length), findG p xs = i ∧ p xs[i] = true := by
  unfold findG at *
  cases hf : xs.findIdx? p with
  | none => rw [hf] at h; simp at h
  | some i =>
    rw [List.findIdx?_eq_some_iff_getElem] at hf
    obtain ⟨hi, h1, _⟩ := hf
    exact ⟨i, hi, rfl, h1⟩
def SmallF (fs : List File) : Prop := ∀ f ∈ fs, f.safe.size ≤ 1000000000000000 ∧ f.late.size ≤ 1000000000000000
theorem u8_ext {a b : UInt8} (h : (a.toNat : Int) = (b.toNat : Int)) : a = b := UInt8.toNat_inj.1 (Int.ofNat_inj.1 h)
end Go.Proofs.YtedkpjaojdkpcaaGreat
