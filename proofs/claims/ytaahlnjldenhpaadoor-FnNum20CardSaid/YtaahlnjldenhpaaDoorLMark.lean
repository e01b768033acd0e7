/- Mark: what the laws' own functions over disks compute: copies, sizes, comparisons, marks. Conditions: none. -/
import Derived.Test.YtaahlnjldenhpaaDoorLG
import Derived.Test.YtaahlnjldenhpaaDoorLT
import Derived.Test.YtaahlnjldenhpaaDoorLSegs
namespace Go.Proofs.YtaahlnjldenhpaaDoor
open Go.BL Go.RowKit
set_option linter.unusedVariables false
set_option linter.unusedSimpArgs false
set_option maxRecDepth 100000
attribute [local go_sem] fileC diskC fileC_len
/-- The digits of a number, in front of what stands. -/
def digitsOf : Nat → Int → ByteArray → ByteArray
  | 0, _, out => out
  | n + 1, cur, out => if 0 < cur then digitsOf n (cur / 10) (strOf [IntKind.wrap .u8 (wrap64 (48 + cur.tmod 10))] ++ out) else out
def markS (k : Int) : ByteArray := if k ≤ 0 then ⟨#[109, 48]⟩ else ⟨#[109]⟩ ++ digitsOf (k.toNat + 1) k ⟨#[]⟩
def SizedF (fs : List File) : Prop := ∀ f ∈ fs, f.safe.size ≤ 1000000000000000 ∧ f.late.size ≤ 1000000000000000
theorem roomTo_nonneg (fs : List File) : ∀ i, 0 ≤ roomTo fs i
  | 0 => by simp [roomTo]
  | i + 1 => by
    have := roomTo_nonneg fs i
    rw [roomTo]
    split
    · rename_i f _
      exact Int.add_nonneg this (Int.add_nonneg (Int.natCast_nonneg _) (Int.natCast_nonneg _))
    · omega
def markF (k : Int) (i : Nat) : File := ⟨k + 3 * i, markS (k + 3 * i + 1), markS (k + 3 * i + 2)⟩
def marksF (k : Int) (n : Nat) : List File := (List.range n).map (markF k)
theorem marksF_len (k : Int) (n : Nat) : (marksF k n).length = n := by simp [marksF]
theorem marksF_tk (k : Int) (n : Nat) : ((marksF k n).map fileC).take n = (marksF k n).map fileC := List.take_of_length_le (by simp [marksF])
end Go.Proofs.YtaahlnjldenhpaaDoor
