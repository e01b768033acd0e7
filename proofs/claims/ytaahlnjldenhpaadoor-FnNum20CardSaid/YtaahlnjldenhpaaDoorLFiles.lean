/- Files: what functions over a disk's files compute. Conditions: none. -/
import Derived.Test.YtaahlnjldenhpaaDoorLG
import Derived.Test.YtaahlnjldenhpaaDoorLT
import Derived.Test.YtaahlnjldenhpaaDoorLDeed
namespace Go.Proofs.YtaahlnjldenhpaaDoor
open Go.BL Go.RowKit
set_option linter.unusedVariables false
set_option linter.unusedSimpArgs false
set_option maxRecDepth 100000
structure File where
  name : Int
  safe : ByteArray
  late : ByteArray
structure Disk where
  room : Int
  files : List File
def fileC (f : File) : List CV := [.c (.int .i64 (f.name)), .c (.string (f.safe)), .c (.string (f.late))]
attribute [local go_sem] fileC
def diskC (d : Disk) : List CV := [.c (.int .i64 (d.room)), .im (d.files.map fileC)]
attribute [local go_sem] diskC
theorem fileC_len (f : File) : (fileC f).length = 3 := rfl
attribute [local go_sem] fileC_len
theorem fileC_cl (x : File) : (fileC x).all clB = true := by first | rfl | (cases x; rfl)
theorem fileC_st (x : File) : (fileC x).all stB = true := by first | rfl | (cases x; rfl)
theorem fileC_clE (xs : List (File)) : clE (xs.map fileC) = true := clE_map _ _ fileC_cl
theorem fileC_stL (xs : List (File)) : stL (xs.map fileC) = true := stL_map _ _ fileC_st
theorem fileC_ltE (n : Nat) (xs : List (File)) : ltE n (xs.map fileC) = true := lte_cl _ _ (fileC_clE xs)
theorem fileC_clz (xs : List (File)) : (xs.map fileC).map (List.map clz) = xs.map fileC := clz_E _ (fileC_clE xs)
theorem fileC_shV (n : Nat) (xs : List (File)) : (xs.map fileC).map (List.map (shV n)) = xs.map fileC := shV_E _ _ (fileC_clE xs)
theorem fileC_snoc (xs : List (File)) (n : Int) (a b : ByteArray) : xs.map fileC ++ [[.c (.int .i64 (n)), .c (.string (a)), .c (.string (b))]] = (xs ++ [(⟨n, a, b⟩ : File)]).map fileC := by rw [List.map_append]; rfl
theorem fileC_set (xs : List (File)) (q : Nat) (n : Int) (a b : ByteArray) : (xs.map fileC).set q [.c (.int .i64 (n)), .c (.string (a)), .c (.string (b))] = (xs.set q (⟨n, a, b⟩ : File)).map fileC := by rw [List.map_set]; rfl
theorem fileC_rep (q : Nat) (n : Int) (a b : ByteArray) : List.replicate q [.c (.int .i64 (n)), .c (.string (a)), .c (.string (b))] = (List.replicate q (⟨n, a, b⟩ : File)).map fileC := map_rep _ _ _ _ rfl
theorem fileC_tk (xs : List (File)) : (xs.map fileC).take xs.length = xs.map fileC := List.take_of_length_le (by simp)
theorem fileC_ks (xs : List (File)) : ksB (3) (xs.map fileC) = true := by simp [ksB, fileC]
theorem fileC_fr (xs : List (File)) : freeE (xs.map fileC) = true := fee_map _ _ (fun x => by first | rfl | (cases x; rfl))
attribute [go_sem] fileC_cl fileC_st fileC_clE fileC_stL fileC_ltE fileC_clz fileC_shV fileC_snoc fileC_ks fileC_tk fileC_fr fileC_set fileC_rep
def roomTo (fs : List File) : Nat → Int
  | 0 => 0
  | i + 1 => roomTo fs i + (match fs[i]? with | some f => (f.safe.size : Int) + f.late.size | none => 0)
theorem roomTo_succ (fs : List File) (i : Nat) (hi : i < fs.length) : roomTo fs (i + 1) = roomTo fs i + ((fs[i].safe.size : Int) + fs[i].late.size) := by simp [roomTo, hi]
def rowOk (fs : List File) (i : Nat) : Bool := match fs[i]? with
  | some f => decide ((0 : Int) ≤ f.name ∧ f.name ≤ 21) && (match i with | 0 => true | j + 1 => match fs[j]? with | some g => decide (g.name < f.name) | none => false)
  | none => false
def rowsTo (fs : List File) : Nat → Bool
  | 0 => true
  | i + 1 => rowsTo fs i && rowOk fs i
theorem rowsTo_false (fs : List File) (i : Nat) (hi : rowOk fs i = false) : ∀ n, i < n → rowsTo fs n = false
  | n + 1, h => by
    rw [rowsTo]
    rcases Nat.lt_or_ge i n with h' | h'
    · rw [rowsTo_false fs i hi n h', Bool.false_and]
    · obtain rfl : i = n := by omega
      rw [hi, Bool.and_false]
theorem rowOk_0 (fs : List File) (hi : 0 < fs.length) : rowOk fs 0 = decide ((0 : Int) ≤ fs[0].name ∧ fs[0].name ≤ 21) := by simp [rowOk, hi]
theorem rowOk_s (fs : List File) (j : Nat) (hi : j + 1 < fs.length) : rowOk fs (j + 1) = (decide ((0 : Int) ≤ fs[j + 1].name ∧ fs[j + 1].name ≤ 21) && decide (fs[j].name < fs[j + 1].name)) := by
  have : j < fs.length := by omega
  simp [rowOk, hi, this]
def diskOk (d : Disk) : Bool := rowsTo d.files d.files.length && decide (0 ≤ d.room ∧ d.room ≤ 60000) && decide (wrap64 (roomTo d.files d.files.length) ≤ d.room)
theorem rows_name (fs : List File) : ∀ (i : Nat) (hi : i < fs.length), rowsTo fs (i + 1) = true → (i : Int) ≤ fs[i].name ∧ fs[i].name ≤ 21
  | 0, hi, h => by
    rw [rowsTo, Bool.and_eq_true, rowOk_0 fs hi] at h
    have := of_decide_eq_true h.2
    omega
  | i + 1, hi, h => by
    rw [rowsTo, Bool.and_eq_true, rowOk_s fs i hi, Bool.and_eq_true] at h
    have h1 := of_decide_eq_true h.2.1
    have h2 := of_decide_eq_true h.2.2
    have h3 := rows_name fs i (by omega) h.1
    omega
theorem rows_len {fs : List File} (h : rowsTo fs fs.length = true) : fs.length ≤ 22 := by
  rcases Nat.eq_zero_or_pos fs.length with h0 | h0
  · omega
  · have := rows_name fs (fs.length - 1) (by omega) (by rw [show fs.length - 1 + 1 = fs.length by omega]; exact h)
    omega
theorem disk_long {d : Disk} (h : 22 < d.files.length) : diskOk d = false := by
  have : rowsTo d.files d.files.length = false := by
    cases hh : rowsTo d.files d.files.length
    · rfl
    · have := rows_len hh; omega
  simp [diskOk, this]
theorem disk_len {d : Disk} (h : diskOk d = true) : d.files.length ≤ 22 := by
  rcases Nat.lt_or_ge 22 d.files.length with q | q
  · rw [disk_long q] at h; cases h
  · exact q
end Go.Proofs.YtaahlnjldenhpaaDoor
