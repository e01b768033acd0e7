/- LawRead: the law over SegRead answers true. Conditions: none. -/
import Derived.Test.YtaahlnjldenhpaaLG
import Derived.Test.YtaahlnjldenhpaaLT
import Derived.Test.YtaahlnjldenhpaaLSegRead
import Derived.Test.YtaahlnjldenhpaaLMark
namespace Go.Proofs.Ytaahlnjldenhpaa
open Go.BL Go.RowKit
set_option linter.unusedVariables false
set_option linter.unusedSimpArgs false
set_option maxRecDepth 100000
attribute [local go_sem] diskC
theorem roomTo_mono (fs : List File) : ∀ {i j : Nat}, i ≤ j → roomTo fs i ≤ roomTo fs j := fun {i j} h => by
  induction j with
  | zero => rw [show i = 0 by omega]; exact Int.le_refl _
  | succ j ih =>
    rcases Nat.lt_or_ge i (j + 1) with h' | h'
    · refine Int.le_trans (ih (by omega)) ?_
      rw [roomTo]
      split
      · exact Int.le_add_of_nonneg_right (Int.add_nonneg (Int.natCast_nonneg _) (Int.natCast_nonneg _))
      · exact Int.le_add_of_nonneg_right (Int.le_refl _)
    · rw [show i = j + 1 by omega]; exact Int.le_refl _
theorem room_file {fs : List File} {i : Nat} {f : File} (h : fs[i]? = some f) : (f.safe.size : Int) + f.late.size ≤ roomTo fs fs.length := by
  obtain ⟨hi, e⟩ := List.getElem?_eq_some_iff.1 h
  have h1 := roomTo_succ fs i hi
  have h2 := roomTo_mono fs (show i + 1 ≤ fs.length by omega)
  have h3 := roomTo_nonneg fs i
  rw [e] at h1
  omega
theorem read_room {d : Disk} {name : Int} {s : ByteArray} (h : readA d name = some s) : (s.size : Int) ≤ roomTo d.files d.files.length := by
  unfold readA at h
  split at h
  · obtain ⟨f, hf, h2⟩ := Option.bind_eq_some_iff.1 h
    split at h2
    · cases h2
      rw [ByteArray.size_append]
      exact room_file hf
    · cases h2
  · cases h
theorem segGo_len (bs : List UInt8) : ∀ k a, (segGo bs k a).1.length ≤ k
  | 0, a => by simp [segGo]
  | k + 1, a => by
    rw [segGo]
    split
    · have := segGo_len bs k (openS bs a).2.1
      simp; omega
    · simp
theorem segRd_len (d : Disk) (seg : Int) : (segRd d seg).1.length ≤ 6 := by
  unfold segRd
  split
  · split
    · exact segGo_len _ _ _
    · simp
  · simp
end Go.Proofs.Ytaahlnjldenhpaa
