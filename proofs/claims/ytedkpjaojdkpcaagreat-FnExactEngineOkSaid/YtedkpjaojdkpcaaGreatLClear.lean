/- Clear: a disk cleared of its segments but some, as the program and as the specification does it. Conditions: none. -/
import Derived.Test.YtedkpjaojdkpcaaGreatLG
import Derived.Test.YtedkpjaojdkpcaaGreatLT
import Derived.Test.YtedkpjaojdkpcaaGreatLRows
namespace Go.Proofs.YtedkpjaojdkpcaaGreat
open Go.BL Go.RowKit
set_option linter.unusedVariables false
set_option linter.unusedSimpArgs false
set_option maxRecDepth 100000
attribute [local go_sem] fileC diskC fileC_len intC
/-- A closure that tells 'p' of a file, on any heap that keeps what it holds. -/
def CloB (g : Nat) (caps : List Nat) (h0 : AH) (p : File → Bool) : Prop := ∀ (h1 : AH) (x : File) (K' : AV → AH → Prop), (∀ c ∈ caps, h1[c]? = h0[c]?) → K' (.one (.c (.bool (p x)))) h1 → callA Tryz.prog g ([.agg (fileC x)] ++ caps.map fun l => .one (.pt l 0 0 0)) h1 K'
theorem c_IndexFunc_sl (xs : List File) (l g : Nat) (cap : Option Nat) (gf : Nat) (caps : List Nat) (p : File → Bool) (h0 : AH) (hl : h0[l]? = some (.own g 73 3 cap (xs.map fileC))) (hn : xs.length ≤ 1000000000) (hp : CloB gf caps h0 p)
    (K : AV → AH → Prop) (hk : K (.one (.c (.int .i64 (findG p xs)))) h0) : ACalls Tryz.prog 88 [.one (.sl l g 0 xs.length), .one (.clo gf caps)] h0 K := by
  refine acall_m Tryz.f88.results.toList mixed Tryz.func88 rfl rfl (by kernel_rfl) ?_
  intro hwf Q hQ
  simp only [go_sem, hl, ca_clos]
  refine for_at (xs.length) [0, 1, 7] (fun i f h => f 8 = (.one (.c (.int .i64 (i)))) ∧ f 7 = (.one (.c (.int .i64 (xs.length)))) ∧ h = h0 ∧ noneTo p xs i) (GC.now ?_) ?_
  · simp only [go_sem, nc_0, true_and, hl, ca_clos]
    exact noneTo_0 p xs
  · rintro i f h J hi hA ⟨e8, e7, rfl, hP⟩ hJ
    simp only [go_sem, hl, ca_clos] at hA
    simp only [go_sem, hA, e8, e7, hl, ca_clos]
    refine c_split (fun hb => ?_) (fun hb => ?_)
    rotate_left
    · simp only [go_sem, hb, hA, e8, e7, hl, ca_clos]
      obtain rfl := ge_len hb hi
      refine hQ (h) _ _ ?_; refine GC.now (ret_m (by simp only [go_sem, Tryz.f88, hA, e8, e7, hl, ca_clos]; exact _root_.id rfl) (by simp only [go_sem]) (by simp) (by first | exact hwf | exact wf_set hwf (by simp only [go_sem, hA, e8, e7, hl, ca_clos]) | exact wf_set2 hwf (by simp only [go_sem, hA, e8, e7, hl, ca_clos]) (by simp only [go_sem, hA, e8, e7, hl, ca_clos]) | (simp only [go_sem]; done)) (by first | exact ⟨_, _root_.id rfl⟩ | exact ⟨[], (List.append_nil _).symm⟩) ?_) <;> simp only [go_sem, hA, e8, e7, hl, ca_clos]
      rw [findG_no hP] at hk
      exact hk
    have hi := lt_len hb
    have hw := wrap_nat i (by omega)
    have hil : (i : Int) < ((xs.length : Nat) : Int) := Int.ofNat_lt.2 hi
    have hg0 : (xs)[i]? = some ((xs)[i]) := List.getElem?_eq_getElem (by omega)
    simp only [go_sem, hb, hA, e8, e7, hl, ca_clos, hg0]
    try simp only [go_sem, hA, e8, e7, hl, ca_clos, hil, hg0]
    refine hp _ _ _ (fun _ _ => rfl) ?_
    simp only [go_sem, hA, e8, e7, hl, ca_clos, hil, hg0]
    (try simp only [go_sem, hA, e8, e7, hl, ca_clos, hil, hg0]); repeat' (first | (with_reducible refine c_split (fun hb => ?_) (fun hb => ?_) <;> try simp only [go_sem, hb, hA, e8, e7, hl, ca_clos, hil, hg0]) | (with_reducible refine w_split (fun hb => ?_) (fun hb => ?_) <;> try simp only [go_sem, hb, hA, e8, e7, hl, ca_clos, hil, hg0]) | (fail))
    · refine hQ (h) _ _ ?_; refine GC.now (ret_m (by simp only [go_sem, Tryz.f88, hA, e8, e7, hl, ca_clos, hil, hg0]; exact _root_.id rfl) (by simp only [go_sem]) (by simp) (by first | exact hwf | exact wf_set hwf (by simp only [go_sem, hA, e8, e7, hl, ca_clos, hil, hg0]) | exact wf_set2 hwf (by simp only [go_sem, hA, e8, e7, hl, ca_clos, hil, hg0]) (by simp only [go_sem, hA, e8, e7, hl, ca_clos, hil, hg0]) | (simp only [go_sem]; done)) (by first | exact ⟨_, _root_.id rfl⟩ | exact ⟨[], (List.append_nil _).symm⟩) ?_) <;> simp only [go_sem, hA, e8, e7, hl, ca_clos, hil, hg0]
      rw [findG_of hP hi hb] at hk
      exact hk
    · refine GC.now (hJ _ _ hi (by simp only [go_sem, hA, e8, e7, hl, ca_clos]) ⟨?_, ?_, ?_, ?_⟩) <;> try simp only [go_sem, hA, e8, e7, hl, ca_clos, hw]
      exact noneTo_s hP hi hb
theorem findG_cases {α : Type} (p : α → Bool) (xs : List α) : (findG p xs = -1 ∧ xs.filter (fun x => !p x) = xs) ∨ ∃ (i : Nat) (hi : i < xs.length), findG p xs = i ∧ p xs[i] = true ∧ (xs.take (i + 1)).filter (fun x => !p x) = xs.take i := by
  unfold findG
  cases hf : xs.findIdx? p with
  | none =>
    rw [List.findIdx?_eq_none_iff] at hf
    exact .inl ⟨rfl, List.filter_eq_self.2 fun x hx => by simp [hf x hx]⟩
  | some i =>
    rw [List.findIdx?_eq_some_iff_getElem] at hf
    obtain ⟨hi, h1, h2⟩ := hf
    refine .inr ⟨i, hi, rfl, h1, ?_⟩
    rw [List.take_succ_eq_append_getElem hi, List.filter_append, List.filter_eq_self.2]
    · simp [h1]
    · intro x hx
      obtain ⟨j, hj, rfl⟩ := List.mem_iff_getElem.1 hx
      simp only [List.length_take] at hj
      have := h2 j (by omega)
      simpa using this
theorem del_arith {a m j n : Nat} (h : a + 1 + m = j) (hj : j < n) (hn : n ≤ 1000000000) : a < 9223372036854775807 ∧ j < 9223372036854775807 ∧ (a : Int) < (n : Int) ∧ n - (j + 1) < n - j ∧ j + 1 ≤ n ∧ a + 1 + 1 + m = j + 1 ∧ a + 1 + (m + 1) = j + 1 := by omega
theorem set_mid {α : Type} (A : List α) (m : α) (B : List α) (x : α) : (A ++ m :: B).set A.length x = A ++ x :: B := by
  rw [List.set_append_right _ _ (Nat.le_refl _), Nat.sub_self]; rfl
theorem findG_mem (xs : List Int) (v : Int) : decide (0 ≤ findG (fun x => v == x) xs) = decide (v ∈ xs) := by
  unfold findG
  cases hf : xs.findIdx? (fun x => v == x) with
  | none =>
    rw [List.findIdx?_eq_none_iff] at hf
    have : ¬ v ∈ xs := fun hm => by have := hf v hm; simp at this
    simp [this]
  | some i =>
    rw [List.findIdx?_eq_some_iff_getElem] at hf
    obtain ⟨hi, h1, _⟩ := hf
    have : v ∈ xs := by rw [eq_of_beq h1]; exact List.getElem_mem hi
    simp [this]
/-- A segment that isn't kept. -/
def goneP (keep : List Int) (f : File) : Bool := decide (0 ≤ f.name ∧ f.name ≤ 19) && !decide (f.name ∈ keep)
def clearFiles (keep : List Int) (fs : List File) : List File := fs.filter fun f => !goneP keep f
def clearDisk (d : Disk) (keep : List Int) : Disk := if diskOk d = true ∧ keep.length ≤ 20 then ⟨d.room, clearFiles keep d.files⟩ else ⟨0, []⟩
theorem take_filter {α : Type} (p : α → Bool) (xs : List α) (i : Nat) (hi : i < xs.length) : (xs.take (i + 1)).filter p = (xs.take i).filter p ++ (if p xs[i] = true then [xs[i]] else []) := by
  rw [List.take_succ_eq_append_getElem hi, List.filter_append]
  cases h : p xs[i] <;> simp [h]
end Go.Proofs.YtedkpjaojdkpcaaGreat
