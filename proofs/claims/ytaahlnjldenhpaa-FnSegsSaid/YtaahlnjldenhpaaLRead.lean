/- Read: a file's bytes, and sealed bytes laid open. Conditions: none. -/
import Derived.Test.YtaahlnjldenhpaaLG
import Derived.Test.YtaahlnjldenhpaaLT
import Derived.Test.YtaahlnjldenhpaaLNums
namespace Go.Proofs.Ytaahlnjldenhpaa
open Go.BL Go.RowKit
set_option linter.unusedVariables false
set_option linter.unusedSimpArgs false
set_option maxRecDepth 100000
attribute [local go_sem] fileC diskC fileC_len byteC
def readA (d : Disk) (name : Int) : Option ByteArray := if diskOk d = true then (d.files[(findG (fun f => f.name == name) d.files).toNat]?).bind fun f => if 0 ≤ findG (fun f => f.name == name) d.files then some (f.safe ++ f.late) else none else none
def readR : Option ByteArray → AV
  | some s => .tup [(.one (.c (.string (s)))), (.one (.c (.bool (true))))]
  | none => .tup [(.one (.c (.string (⟨#[]⟩)))), (.one (.c (.bool (false))))]
theorem findG_lt {α : Type} (p : α → Bool) (xs : List α) (h : 0 ≤ findG p xs) : ∃ (i : Nat) (hi : i < xs.length), findG p xs = i ∧ p xs[i] = true := by
  unfold findG at *
  cases hf : xs.findIdx? p with
  | none => rw [hf] at h; simp at h
  | some i =>
    rw [List.findIdx?_eq_some_iff_getElem] at hf
    obtain ⟨hi, h1, _⟩ := hf
    exact ⟨i, hi, rfl, h1⟩
def SmallF (fs : List File) : Prop := ∀ f ∈ fs, f.safe.size ≤ 1000000000000000 ∧ f.late.size ≤ 1000000000000000
theorem c_spec_DiskRead (d : Disk) (name : Int) (hn : d.files.length ≤ 1000000000) (hz : SmallF d.files) (K : AV → AH → Prop) (hk : K (readR (readA d name)) []) : ACalls Try.prog 9 [.agg (diskC d), (.one (.c (.int .i64 (name))))] [] K := by
  have go : ∀ q, findG (fun f => f.name == name) d.files = q → diskOk d = true → 0 ≤ q → ∃ (i : Nat) (hi : i < d.files.length), q = i ∧ readA d name = some (d.files[i].safe ++ d.files[i].late) ∧ d.files[i].safe.size + d.files[i].late.size ≤ 9223372036854775807 := fun q hq h1 h2 => by
    obtain ⟨i, hi, h3, _⟩ := findG_lt (fun f => f.name == name) d.files (hq ▸ h2)
    refine ⟨i, hi, hq ▸ h3, ?_, ?_⟩
    · simp [readA, h1, h3, hi]
    · have := hz _ (List.getElem_mem hi); omega
  have no1 : diskOk d = false → readA d name = none := fun h => by simp [readA, h]
  have no2 : ¬ 0 ≤ findG (fun f => f.name == name) d.files → readA d name = none := fun h => by
    simp only [readA]
    split
    · cases d.files[(findG (fun f => f.name == name) d.files).toNat]? <;> simp [h]
    · rfl
  generalize hq : findG (fun f => f.name == name) d.files = q at go no2
  refine acall_c Try.f9.results.toList mixed Try.func9 rfl rfl (by kernel_rfl) ?_
  intro Q hQ hQO
  simp only [go_sem]
  (try simp only [go_sem, hq]); repeat' (first | (with_reducible refine c_split (fun hb => ?_) (fun hb => ?_) <;> try simp only [go_sem, hb, hq]) | (with_reducible refine w_split (fun hb => ?_) (fun hb => ?_) <;> try simp only [go_sem, hb, hq]) | (with_reducible refine tw_split (fun hb => ?_) (fun hb => ?_) <;> try simp only [go_sem, hb, hq]) | (with_reducible refine draw_at 0 17 (by with_unfolding_all rfl) [(0, true, true), (1, true, true), (2, true, false), (3, true, true), (4, true, false), (5, true, false), (6, true, false), (7, true, false), (8, false, false), (9, false, false), (10, false, false), (11, false, false), (12, false, false), (13, false, true), (14, false, true)] (by kernel_rfl) ?_ <;> try simp only [go_sem, hq]) | (refine call_c (c_l14Find d name hn _ ?_) <;> try simp only [go_sem, hq]) | (refine call_c (c_spec_DiskOk d hn _ ?_) <;> try simp only [go_sem, hq]) | (fail))
  · (try simp only [go_sem]); repeat' (first | (with_reducible refine c_split (fun hb => ?_) (fun hb => ?_) <;> try simp only [go_sem, hb]) | (with_reducible refine w_split (fun hb => ?_) (fun hb => ?_) <;> try simp only [go_sem, hb]) | (with_reducible refine tw_split (fun hb => ?_) (fun hb => ?_) <;> try simp only [go_sem, hb]) | (with_reducible refine draw_at 0 17 (by with_unfolding_all rfl) [(0, true, true), (1, true, true), (2, true, false), (3, true, true), (4, true, false), (5, true, false), (6, true, false), (7, true, false), (8, false, false), (9, false, false), (10, false, false), (11, false, false), (12, false, false), (13, false, true), (14, false, true)] (by kernel_rfl) ?_ <;> try simp only [go_sem]) | (with_reducible refine hQ _ _ ?_ <;> simp only [Try.f9, go_sem]))
    rw [no1 (by simpa using hb)] at hk
    exact hk
  · (try simp only [go_sem]); repeat' (first | (with_reducible refine c_split (fun hb => ?_) (fun hb => ?_) <;> try simp only [go_sem, hb]) | (with_reducible refine w_split (fun hb => ?_) (fun hb => ?_) <;> try simp only [go_sem, hb]) | (with_reducible refine tw_split (fun hb => ?_) (fun hb => ?_) <;> try simp only [go_sem, hb]) | (with_reducible refine draw_at 0 17 (by with_unfolding_all rfl) [(0, true, true), (1, true, true), (2, true, false), (3, true, true), (4, true, false), (5, true, false), (6, true, false), (7, true, false), (8, false, false), (9, false, false), (10, false, false), (11, false, false), (12, false, false), (13, false, true), (14, false, true)] (by kernel_rfl) ?_ <;> try simp only [go_sem]) | (with_reducible refine hQ _ _ ?_ <;> simp only [Try.f9, go_sem]))
    rw [no2 (by have := of_decide_eq_true hb; omega)] at hk
    exact hk
  · rename_i hb1
    obtain ⟨i, hi, rfl, hr, hs⟩ := go q rfl (by simpa using hb1) (by have := of_decide_eq_false hb; omega)
    have hg : d.files[i]? = some d.files[i] := List.getElem?_eq_getElem hi
    (try simp only [go_sem, hg, hs, hq, Int.toNat_natCast]); repeat' (first | (with_reducible refine c_split (fun hb => ?_) (fun hb => ?_) <;> try simp only [go_sem, hb, hg, hs, hq, Int.toNat_natCast]) | (with_reducible refine w_split (fun hb => ?_) (fun hb => ?_) <;> try simp only [go_sem, hb, hg, hs, hq, Int.toNat_natCast]) | (with_reducible refine tw_split (fun hb => ?_) (fun hb => ?_) <;> try simp only [go_sem, hb, hg, hs, hq, Int.toNat_natCast]) | (with_reducible refine draw_at 0 17 (by with_unfolding_all rfl) [(0, true, true), (1, true, true), (2, true, false), (3, true, true), (4, true, false), (5, true, false), (6, true, false), (7, true, false), (8, false, false), (9, false, false), (10, false, false), (11, false, false), (12, false, false), (13, false, true), (14, false, true)] (by kernel_rfl) ?_ <;> try simp only [go_sem, hg, hs, hq, Int.toNat_natCast]) | (with_reducible refine hQ _ _ ?_ <;> simp only [Try.f9, go_sem, hg, hs, hq, Int.toNat_natCast]))
    rw [hr] at hk
    exact hk
theorem c_impl_DiskRead (d : Disk) (name : Int) (hn : d.files.length ≤ 1000000000) (hz : SmallF d.files) (K : AV → AH → Prop) (hk : K (readR (readA d name)) []) : ACalls Try.prog 10 [.agg (diskC d), (.one (.c (.int .i64 (name))))] [] K := by
  have go : ∀ q, findG (fun f => f.name == name) d.files = q → diskOk d = true → 0 ≤ q → ∃ (i : Nat) (hi : i < d.files.length), q = i ∧ readA d name = some (d.files[i].safe ++ d.files[i].late) ∧ d.files[i].safe.size + d.files[i].late.size ≤ 9223372036854775807 := fun q hq h1 h2 => by
    obtain ⟨i, hi, h3, _⟩ := findG_lt (fun f => f.name == name) d.files (hq ▸ h2)
    refine ⟨i, hi, hq ▸ h3, ?_, ?_⟩
    · simp [readA, h1, h3, hi]
    · have := hz _ (List.getElem_mem hi); omega
  have no1 : diskOk d = false → readA d name = none := fun h => by simp [readA, h]
  have no2 : ¬ 0 ≤ findG (fun f => f.name == name) d.files → readA d name = none := fun h => by
    simp only [readA]
    split
    · cases d.files[(findG (fun f => f.name == name) d.files).toNat]? <;> simp [h]
    · rfl
  generalize hq : findG (fun f => f.name == name) d.files = q at go no2
  refine acall_c Try.f10.results.toList mixed Try.func10 rfl rfl (by kernel_rfl) ?_
  intro Q hQ hQO
  simp only [go_sem]
  (try simp only [go_sem, hq]); repeat' (first | (with_reducible refine c_split (fun hb => ?_) (fun hb => ?_) <;> try simp only [go_sem, hb, hq]) | (with_reducible refine w_split (fun hb => ?_) (fun hb => ?_) <;> try simp only [go_sem, hb, hq]) | (with_reducible refine tw_split (fun hb => ?_) (fun hb => ?_) <;> try simp only [go_sem, hb, hq]) | (with_reducible refine draw_at 0 17 (by with_unfolding_all rfl) [(0, true, true), (1, true, true), (2, true, false), (3, true, true), (4, true, false), (5, true, false), (6, true, false), (7, true, false), (8, false, false), (9, false, false), (10, false, false), (11, false, false), (12, false, false), (13, false, true), (14, false, true)] (by kernel_rfl) ?_ <;> try simp only [go_sem, hq]) | (refine call_c (c_fileAt d name hn _ ?_) <;> try simp only [go_sem, hq]) | (refine call_c (c_impl_DiskOk d hn _ ?_) <;> try simp only [go_sem, hq]) | (fail))
  · (try simp only [go_sem]); repeat' (first | (with_reducible refine c_split (fun hb => ?_) (fun hb => ?_) <;> try simp only [go_sem, hb]) | (with_reducible refine w_split (fun hb => ?_) (fun hb => ?_) <;> try simp only [go_sem, hb]) | (with_reducible refine tw_split (fun hb => ?_) (fun hb => ?_) <;> try simp only [go_sem, hb]) | (with_reducible refine draw_at 0 17 (by with_unfolding_all rfl) [(0, true, true), (1, true, true), (2, true, false), (3, true, true), (4, true, false), (5, true, false), (6, true, false), (7, true, false), (8, false, false), (9, false, false), (10, false, false), (11, false, false), (12, false, false), (13, false, true), (14, false, true)] (by kernel_rfl) ?_ <;> try simp only [go_sem]) | (with_reducible refine hQ _ _ ?_ <;> simp only [Try.f10, go_sem]))
    rw [no2 (by have := of_decide_eq_true hb; omega)] at hk
    exact hk
  · (try simp only [go_sem]); repeat' (first | (with_reducible refine c_split (fun hb => ?_) (fun hb => ?_) <;> try simp only [go_sem, hb]) | (with_reducible refine w_split (fun hb => ?_) (fun hb => ?_) <;> try simp only [go_sem, hb]) | (with_reducible refine tw_split (fun hb => ?_) (fun hb => ?_) <;> try simp only [go_sem, hb]) | (with_reducible refine draw_at 0 17 (by with_unfolding_all rfl) [(0, true, true), (1, true, true), (2, true, false), (3, true, true), (4, true, false), (5, true, false), (6, true, false), (7, true, false), (8, false, false), (9, false, false), (10, false, false), (11, false, false), (12, false, false), (13, false, true), (14, false, true)] (by kernel_rfl) ?_ <;> try simp only [go_sem]) | (with_reducible refine hQ _ _ ?_ <;> simp only [Try.f10, go_sem]))
    rw [no1 (by simpa using hb)] at hk
    exact hk
  · rename_i hb1
    obtain ⟨i, hi, rfl, hr, hs⟩ := go q rfl (by simpa using hb) (by have := of_decide_eq_false hb1; omega)
    have hg : d.files[i]? = some d.files[i] := List.getElem?_eq_getElem hi
    (try simp only [go_sem, hg, hs, hq, Int.toNat_natCast]); repeat' (first | (with_reducible refine c_split (fun hb => ?_) (fun hb => ?_) <;> try simp only [go_sem, hb, hg, hs, hq, Int.toNat_natCast]) | (with_reducible refine w_split (fun hb => ?_) (fun hb => ?_) <;> try simp only [go_sem, hb, hg, hs, hq, Int.toNat_natCast]) | (with_reducible refine tw_split (fun hb => ?_) (fun hb => ?_) <;> try simp only [go_sem, hb, hg, hs, hq, Int.toNat_natCast]) | (with_reducible refine draw_at 0 17 (by with_unfolding_all rfl) [(0, true, true), (1, true, true), (2, true, false), (3, true, true), (4, true, false), (5, true, false), (6, true, false), (7, true, false), (8, false, false), (9, false, false), (10, false, false), (11, false, false), (12, false, false), (13, false, true), (14, false, true)] (by kernel_rfl) ?_ <;> try simp only [go_sem, hg, hs, hq, Int.toNat_natCast]) | (with_reducible refine hQ _ _ ?_ <;> simp only [Try.f10, go_sem, hg, hs, hq, Int.toNat_natCast]))
    rw [hr] at hk
    exact hk
theorem u8_ext {a b : UInt8} (h : (a.toNat : Int) = (b.toNat : Int)) : a = b := UInt8.toNat_inj.1 (Int.ofNat_inj.1 h)
theorem c_EqualBytes (xs ys : List UInt8) (hn : xs.length ≤ 1000000000000000) (K : AV → AH → Prop) (hk : K (.one (.c (.bool (decide (xs = ys))))) []) : ACalls Try.prog 68 [(.one (.im (xs.map byteC))), (.one (.im (ys.map byteC)))] [] K := by
  refine acall_c Try.f68.results.toList mixed Try.func68 rfl rfl (by kernel_rfl) ?_
  intro Q hQ hQO
  simp only [go_sem]
  refine c_split (fun hb => ?_) (fun hb => ?_) <;> simp only [go_sem, hb]
  · (try simp only [go_sem]); repeat' (first | (with_reducible refine c_split (fun hb => ?_) (fun hb => ?_) <;> try simp only [go_sem, hb]) | (with_reducible refine w_split (fun hb => ?_) (fun hb => ?_) <;> try simp only [go_sem, hb]) | (with_reducible refine tw_split (fun hb => ?_) (fun hb => ?_) <;> try simp only [go_sem, hb]) | (with_reducible refine draw_at 0 16 (by with_unfolding_all rfl) [(0, true, true), (1, true, true), (2, true, true), (3, true, true), (4, true, false), (5, false, false), (6, false, false), (7, false, false), (8, false, true)] (by kernel_rfl) ?_ <;> try simp only [go_sem]) | (with_reducible refine hQ _ _ ?_ <;> simp only [Try.f68, go_sem]))
    refine kB hk (decide_eq_false ?_).symm
    rintro rfl
    simp at hb
  have hlen : xs.length = ys.length := by simp at hb; omega
  refine for_at (xs.length) [0, 1, 12] (fun i f h => f 13 = (.one (.c (.int .i64 (i)))) ∧ f 12 = (.one (.c (.int .i64 (xs.length)))) ∧ h = [] ∧ xs.take i = ys.take i) (GC.now ?_) ?_
  · simp only [go_sem, nc_0, true_and]
  · rintro i f h J hi hA ⟨e13, e12, rfl, hP⟩ hJ
    simp only [go_sem] at hA
    simp only [go_sem, hA, e13, e12]
    refine c_split (fun hb => ?_) (fun hb => ?_)
    rotate_left
    · simp only [go_sem, hb, hA, e13, e12]
      obtain rfl := ge_len hb hi
      (try simp only [go_sem, hA, e13, e12]); repeat' (first | (with_reducible refine c_split (fun hb => ?_) (fun hb => ?_) <;> try simp only [go_sem, hb, hA, e13, e12]) | (with_reducible refine w_split (fun hb => ?_) (fun hb => ?_) <;> try simp only [go_sem, hb, hA, e13, e12]) | (with_reducible refine tw_split (fun hb => ?_) (fun hb => ?_) <;> try simp only [go_sem, hb, hA, e13, e12]) | (with_reducible refine draw_at 0 16 (by with_unfolding_all rfl) [(0, true, true), (1, true, true), (2, true, true), (3, true, true), (4, true, false), (5, false, false), (6, false, false), (7, false, false), (8, false, true)] (by kernel_rfl) ?_ <;> try simp only [go_sem, hA, e13, e12]) | (with_reducible refine hQ _ _ ?_ <;> simp only [Try.f68, go_sem, hA, e13, e12]))
      refine kB hk (decide_eq_true ?_).symm
      rw [List.take_length] at hP
      rw [hP, hlen, List.take_length]
    have hi := lt_len hb
    have hw := wrap_nat i (by omega)
    have hil : (i : Int) < ((xs.length : Nat) : Int) := Int.ofNat_lt.2 hi
    have hg0 : (xs)[i]? = some ((xs)[i]) := List.getElem?_eq_getElem (by omega)
    simp only [go_sem, hb, hA, e13, e12, hg0]
    try simp only [go_sem, hA, e13, e12, hil, hg0]
    have hi2 : i < ys.length := hlen ▸ hi
    have hg1 : ys[i]? = some ys[i] := List.getElem?_eq_getElem hi2
    (try simp only [go_sem, hA, e13, e12, hil, hg0, hg1]); repeat' (first | (with_reducible refine c_split (fun hb => ?_) (fun hb => ?_) <;> try simp only [go_sem, hb, hA, e13, e12, hil, hg0, hg1]) | (with_reducible refine w_split (fun hb => ?_) (fun hb => ?_) <;> try simp only [go_sem, hb, hA, e13, e12, hil, hg0, hg1]) | (with_reducible refine tw_split (fun hb => ?_) (fun hb => ?_) <;> try simp only [go_sem, hb, hA, e13, e12, hil, hg0, hg1]) | (with_reducible refine draw_at 0 16 (by with_unfolding_all rfl) [(0, true, true), (1, true, true), (2, true, true), (3, true, true), (4, true, false), (5, false, false), (6, false, false), (7, false, false), (8, false, true)] (by kernel_rfl) ?_ <;> try simp only [go_sem, hA, e13, e12, hil, hg0, hg1]) | (with_reducible refine hQ _ _ ?_ <;> simp only [Try.f68, go_sem, hA, e13, e12, hil, hg0, hg1]))
    · refine kB hk (decide_eq_false ?_).symm
      rintro rfl
      simp at hb
    · refine GC.now (hJ _ _ hi (by simp only [go_sem, hA, e13, e12]) ⟨?_, ?_, ?_, ?_⟩) <;> try simp only [go_sem, hA, e13, e12, hw]
      have he : xs[i] = ys[i] := u8_ext (by simpa using hb)
      rw [List.take_succ_eq_append_getElem hi, List.take_succ_eq_append_getElem hi2, hP, he]
theorem c_CloneBytes (bs : List UInt8) (hn : bs.length ≤ 1000000000000) (K : AV → AH → Prop) (hk : K (.one (.im (bs.map byteC))) []) : ACalls Try.prog 70 [(.one (.im (bs.map byteC)))] [] K := by
  refine acall_c Try.f70.results.toList mixed Try.func70 rfl rfl (by kernel_rfl) ?_
  intro Q hQ hQO
  simp only [go_sem]
  by_cases hf : bs = []
  · subst hf
    simp only [go_sem, nq_im0, nqG]
    intro b
    (try simp only [go_sem]); repeat' (first | (with_reducible refine c_split (fun hb => ?_) (fun hb => ?_) <;> try simp only [go_sem, hb]) | (with_reducible refine w_split (fun hb => ?_) (fun hb => ?_) <;> try simp only [go_sem, hb]) | (fail))
    · (try simp only [go_sem]); repeat' (first | (with_reducible refine c_split (fun hb => ?_) (fun hb => ?_) <;> try simp only [go_sem, hb]) | (with_reducible refine w_split (fun hb => ?_) (fun hb => ?_) <;> try simp only [go_sem, hb]) | (with_reducible refine hQ _ _ ?_ <;> simp only [Try.f70, go_sem]))
      exact hk
    · refine ap_end rfl rfl (by decide) ?_
      (try simp only [go_sem]); repeat' (first | (with_reducible refine c_split (fun hb => ?_) (fun hb => ?_) <;> try simp only [go_sem, hb]) | (with_reducible refine w_split (fun hb => ?_) (fun hb => ?_) <;> try simp only [go_sem, hb]) | (with_reducible refine hQ _ _ ?_ <;> simp only [Try.f70, go_sem]))
      exact hk
  · have hne : bs.map byteC ≠ [] := by simpa using hf
    (try simp only [go_sem, nq_im _ hne, nqG]); repeat' (first | (with_reducible refine c_split (fun hb => ?_) (fun hb => ?_) <;> try simp only [go_sem, hb, nq_im _ hne, nqG]) | (with_reducible refine w_split (fun hb => ?_) (fun hb => ?_) <;> try simp only [go_sem, hb, nq_im _ hne, nqG]) | (fail))
    refine ap_end rfl rfl (by simp; omega) ?_
    (try simp only [go_sem, Nat.zero_add]); repeat' (first | (with_reducible refine c_split (fun hb => ?_) (fun hb => ?_) <;> try simp only [go_sem, hb, Nat.zero_add]) | (with_reducible refine w_split (fun hb => ?_) (fun hb => ?_) <;> try simp only [go_sem, hb, Nat.zero_add]) | (with_reducible refine hQ _ _ ?_ <;> simp only [Try.f70, go_sem, Nat.zero_add]))
    exact hk
end Go.Proofs.Ytaahlnjldenhpaa
