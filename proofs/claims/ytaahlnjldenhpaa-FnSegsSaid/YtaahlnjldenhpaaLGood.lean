/- Good: disks that are right stay right; what is read of them. Conditions: none. -/
import Derived.Test.YtaahlnjldenhpaaLG
import Derived.Test.YtaahlnjldenhpaaLT
import Derived.Test.YtaahlnjldenhpaaLMove
namespace Go.Proofs.Ytaahlnjldenhpaa
open Go.BL Go.RowKit
set_option linter.unusedVariables false
set_option linter.unusedSimpArgs false
set_option maxRecDepth 100000

def sizeF (f : File) : Nat := f.safe.size + f.late.size
def total (fs : List File) : Nat := (fs.map sizeF).sum
theorem total_cons (f : File) (fs : List File) : total (f :: fs) = sizeF f + total fs := rfl
theorem total_app (xs ys : List File) : total (xs ++ ys) = total xs + total ys := by simp [total]
theorem room_take (fs : List File) : ∀ i, i ≤ fs.length → roomTo fs i = (total (fs.take i) : Int)
  | 0, _ => by simp [roomTo, total]
  | i + 1, hi => by
    rw [roomTo_succ fs i (by omega), room_take fs i (by omega), List.take_succ_eq_append_getElem (by omega), total_app]
    simp [total, sizeF]
theorem room_total (fs : List File) : roomTo fs fs.length = (total fs : Int) := by rw [room_take fs _ (Nat.le_refl _), List.take_length]
theorem size_total {fs : List File} {f : File} (h : f ∈ fs) : sizeF f ≤ total fs := by
  induction fs with
  | nil => cases h
  | cons g r ih =>
    rw [total_cons]
    rcases List.mem_cons.1 h with rfl | h
    · omega
    · have := ih h; omega
def Good (d : Disk) : Prop := (∀ f ∈ d.files, 0 ≤ f.name ∧ f.name ≤ 21) ∧ SortedF d.files ∧ 0 ≤ d.room ∧ d.room ≤ 60000 ∧ (total d.files : Int) ≤ d.room
theorem rows_of {fs : List File} (h1 : ∀ f ∈ fs, 0 ≤ f.name ∧ f.name ≤ 21) (h2 : SortedF fs) : ∀ n, n ≤ fs.length → rowsTo fs n = true
  | 0, _ => rfl
  | n + 1, hn => by
    rw [rowsTo, rows_of h1 h2 n (by omega), Bool.true_and]
    cases n with
    | zero => rw [rowOk_0 fs (by omega)]; exact decide_eq_true (h1 _ (List.getElem_mem _))
    | succ j =>
      rw [rowOk_s fs j (by omega), Bool.and_eq_true]
      exact ⟨decide_eq_true (h1 _ (List.getElem_mem _)), decide_eq_true ((List.pairwise_iff_getElem.1 h2) j (j + 1) (by omega) (by omega) (by omega))⟩
theorem good_ok {d : Disk} (h : Good d) : diskOk d = true := by
  obtain ⟨h1, h2, h3, h4, h5⟩ := h
  have hw : wrap64 (roomTo d.files d.files.length) = (total d.files : Int) := by rw [room_total]; unfold wrap64; omega
  simp only [diskOk, Bool.and_eq_true, rows_of h1 h2 _ (Nat.le_refl _), hw, true_and]
  exact ⟨decide_eq_true ⟨h3, h4⟩, decide_eq_true h5⟩
theorem good_of {d : Disk} (hz : SmallF d.files) (h : diskOk d = true) : Good d := by
  obtain ⟨h1, h2, h3, h4⟩ := disk_room hz h
  rw [room_total] at h2
  refine ⟨fun f hf => ?_, disk_sorted h, h3, h4, h2⟩
  obtain ⟨i, hi, e⟩ := List.mem_iff_getElem.1 hf
  have hr := rows_to (disk_rows h) hi
  subst e
  cases i with
  | zero => rw [rowOk_0 _ hi] at hr; exact of_decide_eq_true hr
  | succ j => rw [rowOk_s _ j hi, Bool.and_eq_true] at hr; exact of_decide_eq_true hr.1
theorem good_size {d : Disk} (h : Good d) : ∀ f ∈ d.files, f.safe.size ≤ 60000 ∧ f.late.size ≤ 60000 := fun f hf => by
  have h1 := size_total hf
  have h2 := h.2.2.2.2
  have h3 := h.2.2.2.1
  rw [sizeF] at h1
  omega
theorem good_small {d : Disk} (h : Good d) : SmallF d.files := fun f hf => by have := good_size h f hf; omega
theorem good_len {d : Disk} (h : Good d) : d.files.length ≤ 22 := disk_len (good_ok h)
theorem good_empty (room : Int) (h1 : 0 ≤ room) (h2 : room ≤ 60000) : Good ⟨room, []⟩ := ⟨fun f hf => (List.not_mem_nil hf).elim, List.Pairwise.nil, h1, h2, by simpa [total] using h1⟩
theorem less_total_le (fs : List File) (name : Int) : total (lessF fs name) ≤ total fs := by
  induction fs with
  | nil => exact Nat.le_refl _
  | cons g r ih =>
    rw [lessF, List.filter_cons]
    split
    · rw [total_cons, total_cons]; have : total (r.filter fun f => !(f.name == name)) ≤ total r := ih; omega
    · rw [total_cons]; have : total (r.filter fun f => !(f.name == name)) ≤ total r := ih; omega
theorem less_total {fs : List File} {name : Int} {f : File} (h : fs.find? (fun g => g.name == name) = some f) : total (lessF fs name) + sizeF f ≤ total fs := by
  induction fs with
  | nil => cases h
  | cons g r ih =>
    rw [List.find?_cons] at h
    rw [lessF, List.filter_cons, total_cons]
    cases hg : g.name == name with
    | true =>
      rw [hg] at h
      cases h
      simp only [Bool.not_true, Bool.false_eq_true, if_false]
      have := less_total_le r name
      rw [lessF] at this; omega
    | false =>
      rw [hg] at h
      simp only [Bool.not_false, if_true, total_cons]
      have := ih h
      rw [lessF] at this; omega
theorem total_put (fs : List File) (f : File) : total (putF fs f) = total (lessF fs f.name) + sizeF f := by
  have key : total (fs.filter fun g => decide (g.name < f.name)) + total (fs.filter fun g => decide (f.name < g.name)) = total (lessF fs f.name) := by
    induction fs with
    | nil => rfl
    | cons g r ih =>
      rw [lessF] at ih ⊢
      simp only [List.filter_cons]
      rcases Int.lt_trichotomy g.name f.name with h | h | h
      · have h1 : ¬ f.name < g.name := by omega
        have h2 : (g.name == f.name) = false := by simp; omega
        simp only [h, h1, h2, decide_true, decide_false, Bool.not_false, if_true, Bool.false_eq_true, if_false, total_cons]; omega
      · have h1 : ¬ f.name < g.name := by omega
        have h3 : ¬ g.name < f.name := by omega
        have h2 : (g.name == f.name) = true := by simp; omega
        simp only [h3, h1, h2, decide_false, Bool.not_true, Bool.false_eq_true, if_false]; omega
      · have h1 : ¬ g.name < f.name := by omega
        have h2 : (g.name == f.name) = false := by simp; omega
        simp only [h, h1, h2, decide_true, decide_false, Bool.not_false, if_true, Bool.false_eq_true, if_false, total_cons]; omega
  rw [putF, total_app, total_cons, ← key]; omega
theorem sorted_put {fs : List File} (f : File) (h : SortedF fs) : SortedF (putF fs f) := by
  rw [SortedF, putF, List.pairwise_append]
  refine ⟨List.Pairwise.sublist List.filter_sublist h, List.pairwise_cons.2 ⟨fun g hg => of_decide_eq_true (List.mem_filter.1 hg).2, List.Pairwise.sublist List.filter_sublist h⟩, fun a ha b hb => ?_⟩
  have h1 := of_decide_eq_true (List.mem_filter.1 ha).2
  rcases List.mem_cons.1 hb with rfl | hb
  · exact h1
  · have h2 := of_decide_eq_true (List.mem_filter.1 hb).2
    omega
theorem putF_mem2 {fs : List File} {f g : File} (h : g ∈ putF fs f) : g = f ∨ g ∈ fs := by
  simp only [putF, List.mem_append, List.mem_cons, List.mem_filter] at h
  rcases h with h | h | h
  · exact .inr h.1
  · exact .inl h
  · exact .inr h.1
theorem good_put {d : Disk} (h : Good d) {f : File} (hf : 0 ≤ f.name ∧ f.name ≤ 21) (hs : ((total (lessF d.files f.name) + sizeF f : Nat) : Int) ≤ d.room) : Good ⟨d.room, putF d.files f⟩ := by
  obtain ⟨h1, h2, h3, h4, h5⟩ := h
  refine ⟨fun g hg => ?_, sorted_put f h2, h3, h4, by rw [total_put]; exact hs⟩
  rcases putF_mem2 hg with rfl | hg
  · exact hf
  · exact h1 g hg
theorem good_less {d : Disk} (h : Good d) (name : Int) : Good ⟨d.room, lessF d.files name⟩ := by
  obtain ⟨h1, h2, h3, h4, h5⟩ := h
  have := less_total_le d.files name
  exact ⟨fun g hg => h1 g (less_mem hg), less_sorted name h2, h3, h4, by show ((total (lessF d.files name) : Nat) : Int) ≤ d.room; omega⟩
theorem find_put (fs : List File) (f : File) (n : Int) : (putF fs f).find? (fun g => g.name == n) = if n = f.name then some f else fs.find? (fun g => g.name == n) := by
  have hf : ∀ (p : File → Bool), (∀ g : File, g.name = n → p g = true) → (fs.filter p).find? (fun g => g.name == n) = fs.find? (fun g => g.name == n) := fun p hp => by
    rw [List.find?_filter]
    congr 1
    funext g
    by_cases e : g.name = n
    · simp [hp g e, e]
    · simp [e]
  have hno : ∀ (p : File → Bool), (∀ g : File, g.name = n → p g = false) → (fs.filter p).find? (fun g => g.name == n) = none := fun p hp => by
    rw [List.find?_eq_none]
    intro g hg
    have := (List.mem_filter.1 hg).2
    by_cases e : g.name = n
    · rw [hp g e] at this; cases this
    · simpa using e
  rw [putF, List.find?_append, List.find?_cons]
  rcases Int.lt_trichotomy n f.name with h | h | h
  · rw [if_neg (by omega), hf _ (fun g e => decide_eq_true (by omega)), hno _ (fun g e => decide_eq_false (by omega))]
    have : (f.name == n) = false := by simp; omega
    rw [this]
    cases fs.find? (fun g => g.name == n) <;> rfl
  · rw [if_pos h, hno _ (fun g e => decide_eq_false (by omega))]
    have : (f.name == n) = true := by simp; omega
    rw [this]; rfl
  · rw [if_neg (by omega), hno _ (fun g e => decide_eq_false (by omega)), hf _ (fun g e => decide_eq_true (by omega))]
    have : (f.name == n) = false := by simp; omega
    rw [this]; rfl
theorem find_less (fs : List File) (name n : Int) : (lessF fs name).find? (fun g => g.name == n) = if n = name then none else fs.find? (fun g => g.name == n) := by
  rw [lessF]
  split
  · rename_i e
    rw [List.find?_eq_none]
    intro g hg
    have := (List.mem_filter.1 hg).2
    simpa [e] using this
  · rename_i e
    rw [List.find?_filter]
    congr 1
    funext g
    by_cases e2 : g.name = n
    · have : ¬ g.name = name := by omega
      simp [e2, e]
    · simp [e2]
theorem read_ok {d : Disk} (h : diskOk d = true) (name : Int) : readA d name = (d.files.find? (fun g => g.name == name)).map fun f => f.safe ++ f.late := by
  rcases findG_find (fun f => f.name == name) d.files with ⟨h1, h2⟩ | ⟨i, hi, h1, h3, h2⟩
  · rw [readA_no h1, h2]; rfl
  · rw [readA_at hi h h1, h2]; rfl
theorem add_facts (fs : List File) (name : Int) (s : ByteArray) : (addF fs name s).name = name ∧ total (lessF fs name) + sizeF (addF fs name s) ≤ total fs + s.size := by
  unfold addF
  split
  · rename_i f hf
    have hn : f.name = name := by simpa using List.find?_some hf
    have := less_total hf
    refine ⟨hn, ?_⟩
    simp only [sizeF, ByteArray.size_append] at this ⊢
    omega
  · have := less_total_le fs name
    refine ⟨rfl, ?_⟩
    have h0 : (⟨#[]⟩ : ByteArray).size = 0 := rfl
    simp only [sizeF, ByteArray.size_append, h0]
    omega
theorem good_app {d : Disk} (h : Good d) (name : Int) (s : ByteArray) (hc : (appR d name s).2 ≠ 1) : Good (appR d name s).1 := by
  unfold appR at hc ⊢
  split at hc
  · rename_i ok
    rw [if_pos ok]
    split
    · exact h
    · rename_i hr
      rw [room_total] at hr
      obtain ⟨h1, h2⟩ := add_facts d.files name s
      refine good_put h (by rw [h1]; exact ok.2) ?_
      rw [h1]; omega
  · exact absurd rfl hc
theorem good_sync {d : Disk} (h : Good d) (name : Int) (hc : (syncR d name).2 ≠ 1) : Good (syncR d name).1 := by
  unfold syncR at hc ⊢
  split at hc
  · rename_i ok
    rw [if_pos ok]
    cases hf : d.files.find? (fun f => f.name == name) with
    | none => exact h
    | some f =>
      have := less_total hf
      have h5 := h.2.2.2.2
      have h0 : (⟨#[]⟩ : ByteArray).size = 0 := rfl
      refine good_put h ok.2 ?_
      simp only [sizeF, ByteArray.size_append, h0] at this ⊢
      omega
  · exact absurd rfl hc
theorem good_cut {d : Disk} (h : Good d) (name n : Int) (hc : (cutR d name n).2 ≠ 1) : Good (cutR d name n).1 := by
  unfold cutR at hc ⊢
  split at hc
  · rename_i ok
    rw [if_pos ok]
    cases hf : d.files.find? (fun f => f.name == name) with
    | none => exact h
    | some f =>
      simp only
      split
      · have := less_total hf
        have h5 := h.2.2.2.2
        have h0 : (⟨#[]⟩ : ByteArray).size = 0 := rfl
        refine good_put h ok.2 ?_
        simp only [sizeF, ByteArray.size_extract, ByteArray.size_append, h0] at this ⊢
        omega
      · exact h
  · exact absurd rfl hc
theorem good_drop {d : Disk} (h : Good d) (name : Int) (hc : (dropR d name).2 ≠ 1) : Good (dropR d name).1 := by
  unfold dropR at hc ⊢
  split at hc
  · rename_i ok
    rw [if_pos ok]
    split
    · exact good_less h name
    · exact h
  · exact absurd rfl hc
theorem less_twice (fs : List File) (a b : Int) : total (lessF (lessF fs a) b) ≤ total (lessF fs a) := less_total_le _ _
theorem good_move {d : Disk} (h : Good d) (a b : Int) (hc : (moveR d a b).2 ≠ 1) : Good (moveR d a b).1 := by
  unfold moveR at hc ⊢
  split at hc
  · rename_i ok
    rw [if_pos ok]
    cases hf : d.files.find? (fun f => f.name == a) with
    | none => exact h
    | some f =>
      have h1 := less_total hf
      have h2 := less_twice d.files a b
      have h5 := h.2.2.2.2
      refine good_put (good_less h a) (f := ⟨b, f.safe, f.late⟩) ok.2.2.1 ?_
      simp only [sizeF] at h1 ⊢
      omega
  · exact absurd rfl hc
end Go.Proofs.Ytaahlnjldenhpaa
