/- Files: what functions over a disk's files compute. Conditions: none. -/
import Derived.Test.YtedkpjaojdkpcaaGreatLG
import Derived.Test.YtedkpjaojdkpcaaGreatLT
import Derived.Test.YtedkpjaojdkpcaaGreatLDeed
namespace Go.Proofs.YtedkpjaojdkpcaaGreat
open Go.BL Go.RowKit
set_option linter.unusedVariables false
set_option linter.unusedSimpArgs false
set_option maxRecDepth 100000
structure File where
  name : Int
  safe : ByteArray
  late : ByteArray
structure Disk where
  room : Int
  files : List File
def fileC (f : File) : List CV := [.c (.int .i64 (f.name)), .c (.string (f.safe)), .c (.string (f.late))]
attribute [local go_sem] fileC
def diskC (d : Disk) : List CV := [.c (.int .i64 (d.room)), .im (d.files.map fileC)]
attribute [local go_sem] diskC
theorem fileC_len (f : File) : (fileC f).length = 3 := rfl
attribute [local go_sem] fileC_len
theorem fileC_cl (x : File) : (fileC x).all clB = true := by first | rfl | (cases x; rfl)
theorem fileC_st (x : File) : (fileC x).all stB = true := by first | rfl | (cases x; rfl)
theorem fileC_clE (xs : List (File)) : clE (xs.map fileC) = true := clE_map _ _ fileC_cl
theorem fileC_stL (xs : List (File)) : stL (xs.map fileC) = true := stL_map _ _ fileC_st
theorem fileC_ltE (n : Nat) (xs : List (File)) : ltE n (xs.map fileC) = true := lte_cl _ _ (fileC_clE xs)
theorem fileC_clz (xs : List (File)) : (xs.map fileC).map (List.map clz) = xs.map fileC := clz_E _ (fileC_clE xs)
theorem fileC_shV (n : Nat) (xs : List (File)) : (xs.map fileC).map (List.map (shV n)) = xs.map fileC := shV_E _ _ (fileC_clE xs)
theorem fileC_snoc (xs : List (File)) (n : Int) (a b : ByteArray) : xs.map fileC ++ [[.c (.int .i64 (n)), .c (.string (a)), .c (.string (b))]] = (xs ++ [(⟨n, a, b⟩ : File)]).map fileC := by rw [List.map_append]; rfl
theorem fileC_set (xs : List (File)) (q : Nat) (n : Int) (a b : ByteArray) : (xs.map fileC).set q [.c (.int .i64 (n)), .c (.string (a)), .c (.string (b))] = (xs.set q (⟨n, a, b⟩ : File)).map fileC := by rw [List.map_set]; rfl
theorem fileC_rep (q : Nat) (n : Int) (a b : ByteArray) : List.replicate q [.c (.int .i64 (n)), .c (.string (a)), .c (.string (b))] = (List.replicate q (⟨n, a, b⟩ : File)).map fileC := map_rep _ _ _ _ rfl
theorem fileC_tk (xs : List (File)) : (xs.map fileC).take xs.length = xs.map fileC := List.take_of_length_le (by simp)
theorem fileC_ks (xs : List (File)) : ksB (3) (xs.map fileC) = true := by simp [ksB, fileC]
theorem fileC_fr (xs : List (File)) : freeE (xs.map fileC) = true := fee_map _ _ (fun x => by first | rfl | (cases x; rfl))
attribute [go_sem] fileC_cl fileC_st fileC_clE fileC_stL fileC_ltE fileC_clz fileC_shV fileC_snoc fileC_ks fileC_tk fileC_fr fileC_set fileC_rep
def roomTo (fs : List File) : Nat → Int
  | 0 => 0
  | i + 1 => roomTo fs i + (match fs[i]? with | some f => (f.safe.size : Int) + f.late.size | none => 0)
theorem roomTo_succ (fs : List File) (i : Nat) (hi : i < fs.length) : roomTo fs (i + 1) = roomTo fs i + ((fs[i].safe.size : Int) + fs[i].late.size) := by simp [roomTo, hi]
theorem c_isFile (n : Int) (K : AV → AH → Prop) (hk : K (.one (.c (.bool (decide (0 ≤ n ∧ n ≤ 21))))) []) : ACalls Tryz.prog 73 [(.one (.c (.int .i64 (n))))] [] K := by
  refine acall_c Tryz.f73.results.toList mixed Tryz.func73 rfl rfl (by kernel_rfl) ?_
  intro Q hQ hQO
  simp only [go_sem]
  (try simp only [go_sem]); repeat' (first | (with_reducible refine c_split (fun hb => ?_) (fun hb => ?_) <;> try simp only [go_sem, hb]) | (with_reducible refine w_split (fun hb => ?_) (fun hb => ?_) <;> try simp only [go_sem, hb]) | (refine call_c (c_in _ _ _ _ ?_) <;> try simp only [go_sem]) | (with_reducible refine hQ _ _ ?_ <;> simp only [Tryz.f73, go_sem]))
  exact hk
theorem c_l14Name (n : Int) (K : AV → AH → Prop) (hk : K (.one (.c (.bool (decide (0 ≤ n ∧ n ≤ 21))))) []) : ACalls Tryz.prog 62 [(.one (.c (.int .i64 (n))))] [] K := by
  refine acall_c Tryz.f62.results.toList mixed Tryz.func62 rfl rfl (by kernel_rfl) ?_
  intro Q hQ hQO
  simp only [go_sem]
  (try simp only [go_sem]); repeat' (first | (with_reducible refine c_split (fun hb => ?_) (fun hb => ?_) <;> try simp only [go_sem, hb]) | (with_reducible refine w_split (fun hb => ?_) (fun hb => ?_) <;> try simp only [go_sem, hb]) | (refine call_c (c_l1In _ _ _ _ ?_) <;> try simp only [go_sem]) | (with_reducible refine hQ _ _ ?_ <;> simp only [Tryz.f62, go_sem]))
  exact hk
theorem c_usedRoom (d : Disk) (hn : d.files.length ≤ 1000000000) (K : AV → AH → Prop) (hk : K (.one (.c (.int .i64 (wrap64 (roomTo d.files d.files.length))))) []) : ACalls Tryz.prog 74 [.agg (diskC d)] [] K := by
  refine acall_c Tryz.f74.results.toList mixed Tryz.func74 rfl rfl (by kernel_rfl) ?_
  intro Q hQ hQO
  simp only [go_sem]
  refine for_at (d.files.length) [7, 8] (fun i f h => f 9 = (.one (.c (.int .i64 (i)))) ∧ f 3 = (.one (.c (.int .i64 (wrap64 (roomTo d.files i))))) ∧ h = [.own 0 55 2 (some 1) [diskC d]]) (GC.now ?_) ?_
  · simp only [go_sem, nc_0, true_and]
    simp [roomTo, wrap64]
  · rintro i f h J hi hA ⟨e9, e3, rfl⟩ hJ
    simp only [go_sem] at hA
    simp only [go_sem, hA, e9, e3]
    refine c_split (fun hb => ?_) (fun hb => ?_)
    rotate_left
    · simp only [go_sem, hb, hA, e9, e3]
      obtain rfl := ge_len hb hi
      (try simp only [go_sem, hA, e9, e3]); repeat' (first | (with_reducible refine c_split (fun hb => ?_) (fun hb => ?_) <;> try simp only [go_sem, hb, hA, e9, e3]) | (with_reducible refine w_split (fun hb => ?_) (fun hb => ?_) <;> try simp only [go_sem, hb, hA, e9, e3]) | (with_reducible refine hQ _ _ ?_ <;> simp only [Tryz.f74, go_sem, hA, e9, e3]))
      exact hk
    have hi := lt_len hb
    have hw := wrap_nat i (by omega)
    have hil : (i : Int) < ((d.files.length : Nat) : Int) := Int.ofNat_lt.2 hi
    have hg0 : (d.files)[i]? = some ((d.files)[i]) := List.getElem?_eq_getElem (by omega)
    simp only [go_sem, hb, hA, e9, e3, hg0]
    try simp only [go_sem, hA, e9, e3, hil, hg0]
    refine gc_trim 1 (by decide) (by simp only [go_sem]) (by simp only [go_sem]) (hJ _ _ hi (by simp only [go_sem, hA, e9, e3]) ⟨?_, ?_, ?_⟩) <;> try simp only [go_sem, hA, e9, e3, hw, roomTo_succ _ _ hi]
    congr 3; unfold wrap64; omega
theorem c_l14Size (d : Disk) (hn : d.files.length ≤ 1000000000) (K : AV → AH → Prop) (hk : K (.one (.c (.int .i64 (wrap64 (roomTo d.files d.files.length))))) []) : ACalls Tryz.prog 61 [.agg (diskC d)] [] K := by
  refine acall_c Tryz.f61.results.toList mixed Tryz.func61 rfl rfl (by kernel_rfl) ?_
  intro Q hQ hQO
  simp only [go_sem]
  refine for_at (d.files.length) [1] (fun i f h => f 4 = (.one (.c (.int .i64 (i)))) ∧ f 3 = (.one (.c (.int .i64 (wrap64 (roomTo d.files i))))) ∧ h = [.own 0 55 2 (some 1) [diskC d]]) (GC.now ?_) ?_
  · simp only [go_sem, nc_0, true_and]
    simp [roomTo, wrap64]
  · rintro i f h J hi hA ⟨e4, e3, rfl⟩ hJ
    simp only [go_sem] at hA
    simp only [go_sem, hA, e4, e3]
    refine c_split (fun hb => ?_) (fun hb => ?_)
    rotate_left
    · simp only [go_sem, hb, hA, e4, e3]
      obtain rfl := ge_len hb hi
      (try simp only [go_sem, hA, e4, e3]); repeat' (first | (with_reducible refine c_split (fun hb => ?_) (fun hb => ?_) <;> try simp only [go_sem, hb, hA, e4, e3]) | (with_reducible refine w_split (fun hb => ?_) (fun hb => ?_) <;> try simp only [go_sem, hb, hA, e4, e3]) | (with_reducible refine tw_split (fun hb => ?_) (fun hb => ?_) <;> try simp only [go_sem, hb, hA, e4, e3]) | (with_reducible refine draw_at 0 12 (by with_unfolding_all rfl) [(0, true, true), (1, true, true), (2, true, true), (3, true, false), (4, true, true), (5, true, false), (6, true, false), (7, true, false), (8, true, false), (9, true, false), (10, true, false), (11, false, false), (12, false, false), (13, false, false), (14, false, false), (15, false, false), (16, false, false), (17, false, true)] (by kernel_rfl) ?_ <;> try simp only [go_sem, hA, e4, e3]) | (with_reducible refine hQ _ _ ?_ <;> simp only [Tryz.f61, go_sem, hA, e4, e3]))
      exact hk
    have hi := lt_len hb
    have hw := wrap_nat i (by omega)
    have hil : (i : Int) < ((d.files.length : Nat) : Int) := Int.ofNat_lt.2 hi
    have hg0 : (d.files)[i]? = some ((d.files)[i]) := List.getElem?_eq_getElem (by omega)
    simp only [go_sem, hb, hA, e4, e3, hg0]
    try simp only [go_sem, hA, e4, e3, hil, hg0]
    first | (with_reducible refine draw_at 0 12 (by with_unfolding_all rfl) [(0, true, true), (1, true, true), (2, true, true), (3, true, false), (4, true, true), (5, true, false), (6, true, false), (7, true, false), (8, true, false), (9, true, false), (10, true, false), (11, false, false), (12, false, false), (13, false, false), (14, false, false), (15, false, false), (16, false, false), (17, false, true)] (by kernel_rfl) ?_)
    simp only [go_sem, hA, e4, e3, hil, hg0]
    refine gc_trim 1 (by decide) (by simp only [go_sem]) (by simp only [go_sem]) (hJ _ _ hi (by simp only [go_sem, hA, e4, e3]) ⟨?_, ?_, ?_⟩) <;> try simp only [go_sem, hA, e4, e3, hw, roomTo_succ _ _ hi]
    congr 3; unfold wrap64; omega
def rowOk (fs : List File) (i : Nat) : Bool := match fs[i]? with
  | some f => decide ((0 : Int) ≤ f.name ∧ f.name ≤ 21) && (match i with | 0 => true | j + 1 => match fs[j]? with | some g => decide (g.name < f.name) | none => false)
  | none => false
def rowsTo (fs : List File) : Nat → Bool
  | 0 => true
  | i + 1 => rowsTo fs i && rowOk fs i
theorem rowsTo_false (fs : List File) (i : Nat) (hi : rowOk fs i = false) : ∀ n, i < n → rowsTo fs n = false
  | n + 1, h => by
    rw [rowsTo]
    rcases Nat.lt_or_ge i n with h' | h'
    · rw [rowsTo_false fs i hi n h', Bool.false_and]
    · obtain rfl : i = n := by omega
      rw [hi, Bool.and_false]
theorem rowOk_0 (fs : List File) (hi : 0 < fs.length) : rowOk fs 0 = decide ((0 : Int) ≤ fs[0].name ∧ fs[0].name ≤ 21) := by simp [rowOk, hi]
theorem rowOk_s (fs : List File) (j : Nat) (hi : j + 1 < fs.length) : rowOk fs (j + 1) = (decide ((0 : Int) ≤ fs[j + 1].name ∧ fs[j + 1].name ≤ 21) && decide (fs[j].name < fs[j + 1].name)) := by
  have : j < fs.length := by omega
  simp [rowOk, hi, this]
def diskOk (d : Disk) : Bool := rowsTo d.files d.files.length && decide (0 ≤ d.room ∧ d.room ≤ 60000) && decide (wrap64 (roomTo d.files d.files.length) ≤ d.room)
theorem c_impl_DiskOk (d : Disk) (hn : d.files.length ≤ 1000000000) (K : AV → AH → Prop) (hk : K (.one (.c (.bool (diskOk d)))) []) : ACalls Tryz.prog 32 [.agg (diskC d)] [] K := by
  refine acall_c Tryz.f32.results.toList mixed Tryz.func32 rfl rfl (by kernel_rfl) ?_
  intro Q hQ hQO
  simp only [go_sem]
  refine for_at (d.files.length) [1, 6, 7] (fun i f h => f 8 = (.one (.c (.int .i64 (i)))) ∧ h = [.own 0 55 2 (some 1) [diskC d]] ∧ rowsTo d.files i = true) (GC.now ?_) ?_
  · simp only [go_sem, nc_0, true_and]
    simp [rowsTo]
  · rintro i f h J hi hA ⟨e8, rfl, hP⟩ hJ
    simp only [go_sem] at hA
    simp only [go_sem, hA, e8]
    refine c_split (fun hb => ?_) (fun hb => ?_)
    rotate_left
    · simp only [go_sem, hb, hA, e8]
      obtain rfl := ge_len hb hi
      (try simp only [go_sem, hA, e8]); repeat' (first | (with_reducible refine c_split (fun hb => ?_) (fun hb => ?_) <;> try simp only [go_sem, hb, hA, e8]) | (with_reducible refine w_split (fun hb => ?_) (fun hb => ?_) <;> try simp only [go_sem, hb, hA, e8]) | (with_reducible refine tw_split (fun hb => ?_) (fun hb => ?_) <;> try simp only [go_sem, hb, hA, e8]) | (with_reducible refine draw_at 0 13 (by with_unfolding_all rfl) [(0, false, true), (1, false, true), (2, false, true), (3, false, true), (4, false, true), (5, false, true), (6, false, true), (7, false, true), (8, true, true), (9, true, true), (10, true, false), (11, true, false), (12, true, true), (13, true, false), (14, true, false), (15, false, false), (16, false, false), (17, false, false), (18, false, false), (19, false, false)] (by kernel_rfl) ?_ <;> try simp only [go_sem, hA, e8]) | (with_reducible refine draw_at 0 34 (by with_unfolding_all rfl) [(0, false, true), (1, false, true), (2, false, true), (3, false, true), (4, true, true), (6, true, false), (7, true, false), (5, false, false), (8, false, false), (9, false, false), (10, false, true)] (by kernel_rfl) ?_ <;> try simp only [go_sem, hA, e8]) | (refine call_c (c_in _ _ _ _ ?_) <;> try simp only [go_sem, hA, e8]) | (refine call_c (c_usedRoom d hn _ ?_) <;> try simp only [go_sem, hA, e8]) | (with_reducible refine hQ _ _ ?_ <;> simp only [Tryz.f32, go_sem, hA, e8]))
      all_goals (refine kB hk ?_; simp only [diskOk, hP, Bool.true_and]; simp_all <;> omega)
    have hi := lt_len hb
    have hw := wrap_nat i (by omega)
    have hil : (i : Int) < ((d.files.length : Nat) : Int) := Int.ofNat_lt.2 hi
    have hg0 : (d.files)[i]? = some ((d.files)[i]) := List.getElem?_eq_getElem (by omega)
    simp only [go_sem, hb, hA, e8, hg0]
    try simp only [go_sem, hA, e8, hil, hg0]
    rcases i with _ | j
    · have g0 : decide ((0 : Int) < ((0 : Nat) : Int)) = false := by decide
      (try simp only [go_sem, hA, e8, hil, hg0, g0]); repeat' (first | (with_reducible refine c_split (fun hb => ?_) (fun hb => ?_) <;> try simp only [go_sem, hb, hA, e8, hil, hg0, g0]) | (with_reducible refine w_split (fun hb => ?_) (fun hb => ?_) <;> try simp only [go_sem, hb, hA, e8, hil, hg0, g0]) | (with_reducible refine tw_split (fun hb => ?_) (fun hb => ?_) <;> try simp only [go_sem, hb, hA, e8, hil, hg0, g0]) | (with_reducible refine draw_at 0 13 (by with_unfolding_all rfl) [(0, false, true), (1, false, true), (2, false, true), (3, false, true), (4, false, true), (5, false, true), (6, false, true), (7, false, true), (8, true, true), (9, true, true), (10, true, false), (11, true, false), (12, true, true), (13, true, false), (14, true, false), (15, false, false), (16, false, false), (17, false, false), (18, false, false), (19, false, false)] (by kernel_rfl) ?_ <;> try simp only [go_sem, hA, e8, hil, hg0, g0]) | (with_reducible refine draw_at 0 34 (by with_unfolding_all rfl) [(0, false, true), (1, false, true), (2, false, true), (3, false, true), (4, true, true), (6, true, false), (7, true, false), (5, false, false), (8, false, false), (9, false, false), (10, false, true)] (by kernel_rfl) ?_ <;> try simp only [go_sem, hA, e8, hil, hg0, g0]) | (refine call_c (c_isFile _ _ ?_) <;> try simp only [go_sem, hA, e8, hil, hg0, g0]) | (with_reducible refine hQ _ _ ?_ <;> simp only [Tryz.f32, go_sem, hA, e8, hil, hg0, g0]))
      · refine kB hk ?_
        rw [diskOk, rowsTo_false d.files 0 (by rw [rowOk_0 _ hi]; simpa only [Bool.not_eq_true'] using hb) _ hi]; rfl
      · refine gc_trim 1 (by decide) (by simp only [go_sem]) (by simp only [go_sem]) (hJ _ _ hi (by simp only [go_sem, hA, e8]) ⟨?_, ?_, ?_⟩) <;> try simp only [go_sem, hA, e8, hw]
        rw [rowsTo, rowOk_0 _ hi]; simpa [rowsTo] using hb
    · have hj : j < d.files.length := by omega
      have hgj : d.files[j]? = some d.files[j] := List.getElem?_eq_getElem hj
      have g1 : decide ((0 : Int) < ((j + 1 : Nat) : Int)) = true := decide_eq_true (by omega)
      have g2 : wrap64 (((j + 1 : Nat) : Int) - 1) = (j : Int) := by unfold wrap64; omega
      (try simp only [go_sem, hA, e8, hil, hg0, g1, g2, hgj]); repeat' (first | (with_reducible refine c_split (fun hb => ?_) (fun hb => ?_) <;> try simp only [go_sem, hb, hA, e8, hil, hg0, g1, g2, hgj]) | (with_reducible refine w_split (fun hb => ?_) (fun hb => ?_) <;> try simp only [go_sem, hb, hA, e8, hil, hg0, g1, g2, hgj]) | (with_reducible refine tw_split (fun hb => ?_) (fun hb => ?_) <;> try simp only [go_sem, hb, hA, e8, hil, hg0, g1, g2, hgj]) | (with_reducible refine draw_at 0 13 (by with_unfolding_all rfl) [(0, false, true), (1, false, true), (2, false, true), (3, false, true), (4, false, true), (5, false, true), (6, false, true), (7, false, true), (8, true, true), (9, true, true), (10, true, false), (11, true, false), (12, true, true), (13, true, false), (14, true, false), (15, false, false), (16, false, false), (17, false, false), (18, false, false), (19, false, false)] (by kernel_rfl) ?_ <;> try simp only [go_sem, hA, e8, hil, hg0, g1, g2, hgj]) | (with_reducible refine draw_at 0 34 (by with_unfolding_all rfl) [(0, false, true), (1, false, true), (2, false, true), (3, false, true), (4, true, true), (6, true, false), (7, true, false), (5, false, false), (8, false, false), (9, false, false), (10, false, true)] (by kernel_rfl) ?_ <;> try simp only [go_sem, hA, e8, hil, hg0, g1, g2, hgj]) | (refine call_c (c_isFile _ _ ?_) <;> try simp only [go_sem, hA, e8, hil, hg0, g1, g2, hgj]) | (with_reducible refine hQ _ _ ?_ <;> simp only [Tryz.f32, go_sem, hA, e8, hil, hg0, g1, g2, hgj]))
      · refine kB hk ?_
        rw [diskOk, rowsTo_false d.files (j + 1) (by rw [rowOk_s _ j hi]; simp_all <;> omega) _ hi]; rfl
      · refine kB hk ?_
        have := of_decide_eq_true hb
        rw [diskOk, rowsTo_false d.files (j + 1) (by rw [rowOk_s _ j hi, decide_eq_false (p := d.files[j].name < d.files[j + 1].name) (by omega), Bool.and_false]) _ hi]; rfl
      · rename_i hb2
        refine gc_trim 1 (by decide) (by simp only [go_sem]) (by simp only [go_sem]) (hJ _ _ hi (by simp only [go_sem, hA, e8]) ⟨?_, ?_, ?_⟩) <;> try simp only [go_sem, hA, e8, hw]
        have := of_decide_eq_false hb
        rw [rowsTo, hP, rowOk_s _ j hi, decide_eq_true (p := d.files[j].name < d.files[j + 1].name) (by omega), Bool.and_true]
        simpa using hb2
theorem rows_name (fs : List File) : ∀ (i : Nat) (hi : i < fs.length), rowsTo fs (i + 1) = true → (i : Int) ≤ fs[i].name ∧ fs[i].name ≤ 21
  | 0, hi, h => by
    rw [rowsTo, Bool.and_eq_true, rowOk_0 fs hi] at h
    have := of_decide_eq_true h.2
    omega
  | i + 1, hi, h => by
    rw [rowsTo, Bool.and_eq_true, rowOk_s fs i hi, Bool.and_eq_true] at h
    have h1 := of_decide_eq_true h.2.1
    have h2 := of_decide_eq_true h.2.2
    have h3 := rows_name fs i (by omega) h.1
    omega
theorem rows_len {fs : List File} (h : rowsTo fs fs.length = true) : fs.length ≤ 22 := by
  rcases Nat.eq_zero_or_pos fs.length with h0 | h0
  · omega
  · have := rows_name fs (fs.length - 1) (by omega) (by rw [show fs.length - 1 + 1 = fs.length by omega]; exact h)
    omega
theorem disk_long {d : Disk} (h : 22 < d.files.length) : diskOk d = false := by
  have : rowsTo d.files d.files.length = false := by
    cases hh : rowsTo d.files d.files.length
    · rfl
    · have := rows_len hh; omega
  simp [diskOk, this]
theorem disk_len {d : Disk} (h : diskOk d = true) : d.files.length ≤ 22 := by
  rcases Nat.lt_or_ge 22 d.files.length with q | q
  · rw [disk_long q] at h; cases h
  · exact q
theorem c_spec_DiskOk (d : Disk) (hn : d.files.length ≤ 1000000000) (K : AV → AH → Prop) (hk : K (.one (.c (.bool (diskOk d)))) []) : ACalls Tryz.prog 27 [.agg (diskC d)] [] K := by
  refine acall_c Tryz.f27.results.toList mixed Tryz.func27 rfl rfl (by kernel_rfl) ?_
  intro Q hQ hQO
  simp only [go_sem]
  (try simp only [go_sem]); repeat' (first | (with_reducible refine c_split (fun hb => ?_) (fun hb => ?_) <;> try simp only [go_sem, hb]) | (with_reducible refine w_split (fun hb => ?_) (fun hb => ?_) <;> try simp only [go_sem, hb]) | (with_reducible refine tw_split (fun hb => ?_) (fun hb => ?_) <;> try simp only [go_sem, hb]) | (with_reducible refine draw_at 0 4 (by with_unfolding_all rfl) [(0, false, true), (1, false, true), (2, false, true), (3, false, true), (4, false, true), (5, false, true), (6, false, true), (7, false, true), (8, false, true), (9, false, true), (10, false, true), (11, true, true), (13, true, false), (14, true, false), (12, false, false), (15, false, false), (16, false, false)] (by kernel_rfl) ?_ <;> try simp only [go_sem]) | (with_reducible refine draw_at 0 28 (by with_unfolding_all rfl) [(0, true, true), (1, true, true), (2, false, false), (3, false, true), (4, false, true), (5, false, true), (6, false, true), (7, false, true), (8, false, true), (9, false, true), (10, false, true), (11, false, true), (12, true, true), (13, true, true), (14, true, false), (15, true, false), (16, true, false), (17, true, false), (18, true, false), (19, true, false), (20, true, false), (21, false, false), (22, false, false), (23, false, false), (24, false, false), (25, false, false), (26, false, false), (27, false, false)] (by kernel_rfl) ?_ <;> try simp only [go_sem]) | (refine call_c (c_l1In _ _ _ _ ?_) <;> try simp only [go_sem]) | (refine call_c (c_l14Size d hn _ ?_) <;> try simp only [go_sem]) | (with_reducible refine hQ _ _ ?_ <;> simp only [Tryz.f27, go_sem]))
  · rw [show diskOk d = false from by simp only [diskOk]; simp at hb; simp [hb]; intros; omega] at hk
    exact hk
  · rw [disk_long (by have := of_decide_eq_true hb; omega)] at hk
    exact hk
  · rw [show diskOk d = false from by simp only [diskOk]; have := of_decide_eq_true hb; simp; intros; omega] at hk
    exact hk
  rename_i hb1 hb2
  refine for_at (d.files.length) [1] (fun i f h => f 3 = (.one (.c (.int .i64 (i)))) ∧ h = [.own 0 55 2 (some 1) [diskC d]] ∧ rowsTo d.files i = true) (GC.now ?_) ?_
  · simp only [go_sem, nc_0, true_and]
    rfl
  · rintro i f h J hi hA ⟨e3, rfl, hP⟩ hJ
    simp only [go_sem] at hA
    simp only [go_sem, hA, e3]
    refine c_split (fun hb => ?_) (fun hb => ?_)
    rotate_left
    · simp only [go_sem, hb, hA, e3]
      obtain rfl := ge_len hb hi
      (try simp only [go_sem, hA, e3]); repeat' (first | (with_reducible refine c_split (fun hb => ?_) (fun hb => ?_) <;> try simp only [go_sem, hb, hA, e3]) | (with_reducible refine w_split (fun hb => ?_) (fun hb => ?_) <;> try simp only [go_sem, hb, hA, e3]) | (with_reducible refine tw_split (fun hb => ?_) (fun hb => ?_) <;> try simp only [go_sem, hb, hA, e3]) | (with_reducible refine draw_at 0 4 (by with_unfolding_all rfl) [(0, false, true), (1, false, true), (2, false, true), (3, false, true), (4, false, true), (5, false, true), (6, false, true), (7, false, true), (8, false, true), (9, false, true), (10, false, true), (11, true, true), (13, true, false), (14, true, false), (12, false, false), (15, false, false), (16, false, false)] (by kernel_rfl) ?_ <;> try simp only [go_sem, hA, e3]) | (with_reducible refine draw_at 0 28 (by with_unfolding_all rfl) [(0, true, true), (1, true, true), (2, false, false), (3, false, true), (4, false, true), (5, false, true), (6, false, true), (7, false, true), (8, false, true), (9, false, true), (10, false, true), (11, false, true), (12, true, true), (13, true, true), (14, true, false), (15, true, false), (16, true, false), (17, true, false), (18, true, false), (19, true, false), (20, true, false), (21, false, false), (22, false, false), (23, false, false), (24, false, false), (25, false, false), (26, false, false), (27, false, false)] (by kernel_rfl) ?_ <;> try simp only [go_sem, hA, e3]) | (with_reducible refine hQ _ _ ?_ <;> simp only [Tryz.f27, go_sem, hA, e3]))
      refine kB hk ?_
      have := of_decide_eq_false ‹decide (_ < wrap64 _) = false›
      have h2 : 0 ≤ d.room ∧ d.room ≤ 60000 := by simpa using hb1
      simp only [diskOk, hP, h2]; simp; omega
    have hi := lt_len hb
    have hw := wrap_nat i (by omega)
    have hil : (i : Int) < ((d.files.length : Nat) : Int) := Int.ofNat_lt.2 hi
    have hg0 : (d.files)[i]? = some ((d.files)[i]) := List.getElem?_eq_getElem (by omega)
    simp only [go_sem, hb, hA, e3, hg0]
    try simp only [go_sem, hA, e3, hil, hg0]
    rcases i with _ | j
    · have g0 : decide ((0 : Int) < ((0 : Nat) : Int)) = false := by decide
      (try simp only [go_sem, hA, e3, hil, hg0, g0]); repeat' (first | (with_reducible refine c_split (fun hb => ?_) (fun hb => ?_) <;> try simp only [go_sem, hb, hA, e3, hil, hg0, g0]) | (with_reducible refine w_split (fun hb => ?_) (fun hb => ?_) <;> try simp only [go_sem, hb, hA, e3, hil, hg0, g0]) | (with_reducible refine tw_split (fun hb => ?_) (fun hb => ?_) <;> try simp only [go_sem, hb, hA, e3, hil, hg0, g0]) | (with_reducible refine draw_at 0 4 (by with_unfolding_all rfl) [(0, false, true), (1, false, true), (2, false, true), (3, false, true), (4, false, true), (5, false, true), (6, false, true), (7, false, true), (8, false, true), (9, false, true), (10, false, true), (11, true, true), (13, true, false), (14, true, false), (12, false, false), (15, false, false), (16, false, false)] (by kernel_rfl) ?_ <;> try simp only [go_sem, hA, e3, hil, hg0, g0]) | (with_reducible refine draw_at 0 28 (by with_unfolding_all rfl) [(0, true, true), (1, true, true), (2, false, false), (3, false, true), (4, false, true), (5, false, true), (6, false, true), (7, false, true), (8, false, true), (9, false, true), (10, false, true), (11, false, true), (12, true, true), (13, true, true), (14, true, false), (15, true, false), (16, true, false), (17, true, false), (18, true, false), (19, true, false), (20, true, false), (21, false, false), (22, false, false), (23, false, false), (24, false, false), (25, false, false), (26, false, false), (27, false, false)] (by kernel_rfl) ?_ <;> try simp only [go_sem, hA, e3, hil, hg0, g0]) | (refine call_c (c_l14Name _ _ ?_) <;> try simp only [go_sem, hA, e3, hil, hg0, g0]) | (with_reducible refine hQ _ _ ?_ <;> simp only [Tryz.f27, go_sem, hA, e3, hil, hg0, g0]))
      · refine kB hk ?_
        rw [diskOk, rowsTo_false d.files 0 (by rw [rowOk_0 _ hi]; simpa only [Bool.not_eq_true'] using hb) _ hi]; rfl
      · refine gc_trim 1 (by decide) (by simp only [go_sem]) (by simp only [go_sem]) (hJ _ _ hi (by simp only [go_sem, hA, e3]) ⟨?_, ?_, ?_⟩) <;> try simp only [go_sem, hA, e3, hw]
        rw [rowsTo, rowOk_0 _ hi]; simpa [rowsTo] using hb
    · have hj : j < d.files.length := by omega
      have hgj : d.files[j]? = some d.files[j] := List.getElem?_eq_getElem hj
      have g1 : decide ((0 : Int) < ((j + 1 : Nat) : Int)) = true := decide_eq_true (by omega)
      have g2 : wrap64 (((j + 1 : Nat) : Int) - 1) = (j : Int) := by unfold wrap64; omega
      (try simp only [go_sem, hA, e3, hil, hg0, g1, g2, hgj]); repeat' (first | (with_reducible refine c_split (fun hb => ?_) (fun hb => ?_) <;> try simp only [go_sem, hb, hA, e3, hil, hg0, g1, g2, hgj]) | (with_reducible refine w_split (fun hb => ?_) (fun hb => ?_) <;> try simp only [go_sem, hb, hA, e3, hil, hg0, g1, g2, hgj]) | (with_reducible refine tw_split (fun hb => ?_) (fun hb => ?_) <;> try simp only [go_sem, hb, hA, e3, hil, hg0, g1, g2, hgj]) | (with_reducible refine draw_at 0 4 (by with_unfolding_all rfl) [(0, false, true), (1, false, true), (2, false, true), (3, false, true), (4, false, true), (5, false, true), (6, false, true), (7, false, true), (8, false, true), (9, false, true), (10, false, true), (11, true, true), (13, true, false), (14, true, false), (12, false, false), (15, false, false), (16, false, false)] (by kernel_rfl) ?_ <;> try simp only [go_sem, hA, e3, hil, hg0, g1, g2, hgj]) | (with_reducible refine draw_at 0 28 (by with_unfolding_all rfl) [(0, true, true), (1, true, true), (2, false, false), (3, false, true), (4, false, true), (5, false, true), (6, false, true), (7, false, true), (8, false, true), (9, false, true), (10, false, true), (11, false, true), (12, true, true), (13, true, true), (14, true, false), (15, true, false), (16, true, false), (17, true, false), (18, true, false), (19, true, false), (20, true, false), (21, false, false), (22, false, false), (23, false, false), (24, false, false), (25, false, false), (26, false, false), (27, false, false)] (by kernel_rfl) ?_ <;> try simp only [go_sem, hA, e3, hil, hg0, g1, g2, hgj]) | (refine call_c (c_l14Name _ _ ?_) <;> try simp only [go_sem, hA, e3, hil, hg0, g1, g2, hgj]) | (with_reducible refine hQ _ _ ?_ <;> simp only [Tryz.f27, go_sem, hA, e3, hil, hg0, g1, g2, hgj]))
      · refine kB hk ?_
        rw [diskOk, rowsTo_false d.files (j + 1) (by rw [rowOk_s _ j hi]; simp_all <;> omega) _ hi]; rfl
      · refine kB hk ?_
        have := of_decide_eq_true hb
        rw [diskOk, rowsTo_false d.files (j + 1) (by rw [rowOk_s _ j hi, decide_eq_false (p := d.files[j].name < d.files[j + 1].name) (by omega), Bool.and_false]) _ hi]; rfl
      · rename_i hb2
        refine gc_trim 1 (by decide) (by simp only [go_sem]) (by simp only [go_sem]) (hJ _ _ hi (by simp only [go_sem, hA, e3]) ⟨?_, ?_, ?_⟩) <;> try simp only [go_sem, hA, e3, hw]
        have := of_decide_eq_false hb
        rw [rowsTo, hP, rowOk_s _ j hi, decide_eq_true (p := d.files[j].name < d.files[j + 1].name) (by omega), Bool.and_true]
        simpa using hb2
end Go.Proofs.YtedkpjaojdkpcaaGreat
