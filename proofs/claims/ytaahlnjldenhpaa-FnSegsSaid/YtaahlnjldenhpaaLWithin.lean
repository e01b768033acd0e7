/- Within: the laws' own small functions (within, at), and what clearing a disk and a row of segments comes to. Conditions: none. -/
import Derived.Test.YtaahlnjldenhpaaLG
import Derived.Test.YtaahlnjldenhpaaLT
import Derived.Test.YtaahlnjldenhpaaLLawFiles
namespace Go.Proofs.Ytaahlnjldenhpaa
open Go.BL Go.RowKit
set_option linter.unusedVariables false
set_option linter.unusedSimpArgs false
set_option maxRecDepth 100000
attribute [local go_sem] intC byteC fileC diskC fileC_len
theorem c_within (xs : List Int) (v : Int) (hn : xs.length ≤ 1000000000) (K : AV → AH → Prop) (hk : K (.one (.c (.bool (decide (v ∈ xs))))) []) : ACalls Try.prog 11 [(.one (.im (xs.map intC))), (.one (.c (.int .i64 (v))))] [] K := by
  refine acall_c Try.f11.results.toList mixed Try.func11 rfl rfl (by kernel_rfl) ?_
  intro Q hQ hQO
  simp only [go_sem]
  refine for_at (xs.length) [0, 1] (fun i f h => f 5 = (.one (.c (.int .i64 (i)))) ∧ h = [] ∧ noneTo (fun x => x == v) xs i) (GC.now ?_) ?_
  · simp only [go_sem, nc_0, true_and]
    exact noneTo_0 _ _
  · rintro i f h J hi hA ⟨e5, rfl, hP⟩ hJ
    simp only [go_sem] at hA
    simp only [go_sem, hA, e5]
    refine c_split (fun hb => ?_) (fun hb => ?_)
    rotate_left
    · simp only [go_sem, hb, hA, e5]
      obtain rfl := ge_len hb hi
      (try simp only [go_sem, hA, e5]); repeat' (first | (with_reducible refine c_split (fun hb => ?_) (fun hb => ?_) <;> try simp only [go_sem, hb, hA, e5]) | (with_reducible refine w_split (fun hb => ?_) (fun hb => ?_) <;> try simp only [go_sem, hb, hA, e5]) | (with_reducible refine hQ _ _ ?_ <;> simp only [Try.f11, go_sem, hA, e5]))
      refine kB hk (decide_eq_false ?_).symm
      intro hm
      obtain ⟨j, hj, e⟩ := List.mem_iff_getElem.1 hm
      have := hP j hj hj
      simp [e] at this
    have hi := lt_len hb
    have hw := wrap_nat i (by omega)
    have hil : (i : Int) < ((xs.length : Nat) : Int) := Int.ofNat_lt.2 hi
    have hg0 : (xs)[i]? = some ((xs)[i]) := List.getElem?_eq_getElem (by omega)
    simp only [go_sem, hb, hA, e5, hg0]
    try simp only [go_sem, hA, e5, hil, hg0]
    (try simp only [go_sem, hA, e5, hil, hg0]); repeat' (first | (with_reducible refine c_split (fun hb => ?_) (fun hb => ?_) <;> try simp only [go_sem, hb, hA, e5, hil, hg0]) | (with_reducible refine w_split (fun hb => ?_) (fun hb => ?_) <;> try simp only [go_sem, hb, hA, e5, hil, hg0]) | (with_reducible refine hQ _ _ ?_ <;> simp only [Try.f11, go_sem, hA, e5, hil, hg0]))
    · refine kB hk (decide_eq_true ?_).symm
      have := eq_of_beq hb
      exact this ▸ List.getElem_mem hi
    · refine GC.now (hJ _ _ hi (by simp only [go_sem, hA, e5]) ⟨?_, ?_, ?_⟩) <;> try simp only [go_sem, hA, e5, hw]
      exact noneTo_s hP hi hb
theorem at_arith (i n : Nat) (hi : i ≤ 1000000) (hn : n ≤ 1000000000) : wrap64 (wrap64 ((i : Int) * 7) + (n : Int)) = ((i * 7 + n : Nat) : Int) := by
  unfold wrap64; omega
theorem at_mod (m : Nat) : ((m : Int)).tmod 256 = ((m % 256 : Nat) : Int) := by rw [Int.tmod_eq_emod_of_nonneg (by omega)]; rfl
theorem c_at (b : List UInt8) (i : Nat) (hi : i ≤ 1000000) (hn : b.length ≤ 1000000000) (K : AV → AH → Prop) (hk : ∀ v : Nat, v < 256 → K (.one (.c (.int .i64 ((v : Int))))) []) : ACalls Try.prog 12 [(.one (.im (b.map byteC))), (.one (.c (.int .i64 ((i : Int)))))] [] K := by
  have h256 : (256 : Int) ≠ 0 := by decide
  refine acall_c Try.f12.results.toList mixed Try.func12 rfl rfl (by kernel_rfl) ?_
  intro Q hQ hQO
  simp only [go_sem]
  (try simp only [go_sem]); repeat' (first | (with_reducible refine c_split (fun hb => ?_) (fun hb => ?_) <;> try simp only [go_sem, hb]) | (with_reducible refine w_split (fun hb => ?_) (fun hb => ?_) <;> try simp only [go_sem, hb]) | (fail))
  · have hi2 : i < b.length := Int.ofNat_lt.1 (of_decide_eq_true hb)
    have hg := List.getElem?_eq_getElem hi2
    (try simp only [go_sem, hg, u8_wrap]); repeat' (first | (with_reducible refine c_split (fun hb => ?_) (fun hb => ?_) <;> try simp only [go_sem, hb, hg, u8_wrap]) | (with_reducible refine w_split (fun hb => ?_) (fun hb => ?_) <;> try simp only [go_sem, hb, hg, u8_wrap]) | (with_reducible refine hQ _ _ ?_ <;> simp only [Try.f12, go_sem, hg, u8_wrap]))
    exact hk _ (UInt8.toNat_lt _)
  · (try simp only [go_sem, h256, b_rem, at_arith i b.length hi hn, at_mod]); repeat' (first | (with_reducible refine c_split (fun hb => ?_) (fun hb => ?_) <;> try simp only [go_sem, hb, h256, b_rem, at_arith i b.length hi hn, at_mod]) | (with_reducible refine w_split (fun hb => ?_) (fun hb => ?_) <;> try simp only [go_sem, hb, h256, b_rem, at_arith i b.length hi hn, at_mod]) | (with_reducible refine hQ _ _ ?_ <;> simp only [Try.f12, go_sem, h256, b_rem, at_arith i b.length hi hn, at_mod]))
    exact hk _ (Nat.mod_lt _ (by decide))
theorem find_filter {α : Type} (p q : α → Bool) (v : Bool) (h : ∀ f, q f = true → p f = v) : ∀ fs : List α, (fs.filter p).find? q = if v = true then fs.find? q else none
  | [] => by cases v <;> rfl
  | f :: r => by
    have ih := find_filter p q v h r
    rw [List.filter_cons]
    cases hq : q f with
    | true =>
      have := h f hq
      cases v
      · rw [if_neg (by rw [this]; decide), ih, if_neg (by decide), if_neg (by decide)]
      · rw [if_pos this, if_pos rfl, List.find?_cons, List.find?_cons, hq]
    | false =>
      split
      · rw [List.find?_cons, hq, ih, List.find?_cons, hq]
      · rw [ih, List.find?_cons, hq]
theorem total_filter (p : File → Bool) : ∀ fs : List File, total (fs.filter p) ≤ total fs
  | [] => Nat.le_refl _
  | f :: r => by
    have := total_filter p r
    rw [List.filter_cons]
    split
    · rw [total_cons, total_cons]; omega
    · rw [total_cons]; omega
theorem good_filter {d : Disk} (h : Good d) (p : File → Bool) : Good ⟨d.room, d.files.filter p⟩ :=
  ⟨fun f hf => h.1 f (List.mem_filter.1 hf).1, h.2.1.filter p, h.2.2.1, h.2.2.2.1, Int.le_trans (Int.ofNat_le.2 (total_filter p _)) h.2.2.2.2⟩
theorem clear_read {d : Disk} (h : Good d) (keep : List Int) (n : Int) (hn : 0 ≤ n) : readA ⟨d.room, clearFiles keep d.files⟩ n = if 20 ≤ n ∨ n ∈ keep then readA d n else none := by
  rw [clearFiles, read_ok (good_ok h), read_ok (good_ok (good_filter h _)), find_filter _ _ (decide (20 ≤ n ∨ n ∈ keep))]
  · by_cases hc : 20 ≤ n ∨ n ∈ keep
    · rw [if_pos hc, decide_eq_true hc, if_pos rfl]
    · rw [if_neg hc, decide_eq_false hc, if_neg (by decide)]; rfl
  · intro f hf
    have : f.name = n := eq_of_beq hf
    subst this
    by_cases h1 : f.name ∈ keep
    · rw [goneP, decide_eq_true h1, decide_eq_true (Or.inr h1)]; simp
    · rw [goneP, decide_eq_false h1]
      by_cases h2 : 20 ≤ f.name
      · rw [decide_eq_true (Or.inl h2), decide_eq_false (by omega)]; rfl
      · have h3 : ¬ (20 ≤ f.name ∨ f.name ∈ keep) := fun q => q.elim h2 h1
        have h4 : 0 ≤ f.name ∧ f.name ≤ 19 := ⟨hn, by omega⟩
        rw [decide_eq_false h3, decide_eq_true h4]; rfl
theorem after_mod (s : Nat) (hs : s < 20) : after (s : Int) = (((s + 1) % 20 : Nat) : Int) := by
  rw [after, wrap_id _ (by omega) (by omega), Int.tmod_eq_emod_of_nonneg (by omega)]; omega
theorem findG_some {α : Type} {p : α → Bool} {xs : List α} (h : 0 ≤ findG p xs) : ∃ x, xs.find? p = some x := by
  rcases findG_find p xs with ⟨e, _⟩ | ⟨i, hi, _, _, e⟩
  · omega
  · exact ⟨_, e⟩
theorem findG_nix {α : Type} {p : α → Bool} {xs : List α} (h : ¬ 0 ≤ findG p xs) : xs.find? p = none := by
  rcases findG_find p xs with ⟨_, e⟩ | ⟨i, hi, e1, _, e⟩
  · exact e
  · omega
theorem segs_law (fs : List File) : ∀ (k s : Nat), s < 20 → (segsFrom fs k s).length ≤ k ∧ (∀ (i : Nat) (hi : i < (segsFrom fs k s).length), (segsFrom fs k s)[i] = (((s + i) % 20 : Nat) : Int) ∧ ∃ f, fs.find? (fun f => f.name == (((s + i) % 20 : Nat) : Int)) = some f) ∧ ((segsFrom fs k s).length < k → fs.find? (fun f => f.name == (((s + (segsFrom fs k s).length) % 20 : Nat) : Int)) = none)
  | 0, s, _ => ⟨Nat.le_refl _, fun i hi => absurd hi (Nat.not_lt_zero i), fun h => absurd h (Nat.not_lt_zero _)⟩
  | k + 1, s, hs => by
    have hm : s % 20 = s := Nat.mod_eq_of_lt hs
    rw [segsFrom]
    split
    · rename_i h0
      have hlt : (s + 1) % 20 < 20 := Nat.mod_lt _ (by decide)
      have ih := segs_law fs k ((s + 1) % 20) hlt
      rw [after_mod s hs]
      generalize segsFrom fs k (((s + 1) % 20 : Nat) : Int) = r at *
      refine ⟨by simpa using ih.1, ?_, ?_⟩
      · intro i hi
        cases i with
        | zero => rw [Nat.add_zero, hm]; exact ⟨rfl, findG_some h0⟩
        | succ i =>
          have h2 : i < r.length := by simpa using hi
          have h3 := ih.2.1 i h2
          rw [show (s + (i + 1)) % 20 = ((s + 1) % 20 + i) % 20 by omega]
          exact ⟨by rw [List.getElem_cons_succ]; exact h3.1, h3.2⟩
      · intro hl
        have h2 : r.length < k := by simpa using hl
        have h3 := ih.2.2 h2
        rw [List.length_cons, show (s + (r.length + 1)) % 20 = ((s + 1) % 20 + r.length) % 20 by omega]
        exact h3
    · rename_i h0
      refine ⟨Nat.zero_le _, fun i hi => absurd hi (Nat.not_lt_zero i), fun _ => ?_⟩
      rw [List.length_nil, Nat.add_zero, hm]
      exact findG_nix h0
end Go.Proofs.Ytaahlnjldenhpaa
