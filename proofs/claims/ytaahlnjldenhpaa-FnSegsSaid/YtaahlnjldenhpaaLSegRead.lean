/- SegRead: the records of a segment, as the program and as the specification reads them. Conditions: none. -/
import Derived.Test.YtaahlnjldenhpaaLG
import Derived.Test.YtaahlnjldenhpaaLT
import Derived.Test.YtaahlnjldenhpaaLUnseal
import Derived.Test.YtaahlnjldenhpaaLRows
namespace Go.Proofs.Ytaahlnjldenhpaa
open Go.BL Go.RowKit
set_option linter.unusedVariables false
set_option linter.unusedSimpArgs false
set_option maxRecDepth 100000
attribute [local go_sem] fileC diskC fileC_len byteC strC
def bA (l : List UInt8) : ByteArray := ⟨l.toArray⟩
/-- The records from a place on, at most k of them, and the place behind them. -/
def segGo (bs : List UInt8) : Nat → Nat → List ByteArray × Nat
  | 0, a => ([], a)
  | k + 1, a => if (openS bs a).2.2 = 0 then (bA (openS bs a).1 :: (segGo bs k (openS bs a).2.1).1, (segGo bs k (openS bs a).2.1).2) else ([], a)
def segRd (d : Disk) (seg : Int) : List ByteArray × Nat := match readA d seg with
  | some s => if 0 ≤ seg ∧ seg ≤ 19 then segGo s.data.toList 6 0 else ([], 0)
  | none => ([], 0)
theorem seg_next {bs : List UInt8} {R : List ByteArray × Nat} {k a : Nat} {out : List ByteArray} (hk : out.length + k = 6) (h1 : R.1 = out ++ (segGo bs k a).1) (h2 : R.2 = (segGo bs k a).2) (h : out.length < 6) (h0 : (openS bs a).2.2 = 0) :
    ∃ k', k = k' + 1 ∧ (out ++ [bA (openS bs a).1]).length + k' = 6 ∧ R.1 = (out ++ [bA (openS bs a).1]) ++ (segGo bs k' (openS bs a).2.1).1 ∧ R.2 = (segGo bs k' (openS bs a).2.1).2 := by
  obtain ⟨k', rfl⟩ : ∃ q, k = q + 1 := ⟨k - 1, by omega⟩
  rw [segGo, if_pos h0] at h1 h2
  exact ⟨k', rfl, by simp; omega, by rw [h1]; simp, h2⟩
theorem seg_stop {bs : List UInt8} {R : List ByteArray × Nat} {k a : Nat} {out : List ByteArray} (h1 : R.1 = out ++ (segGo bs k a).1) (h2 : R.2 = (segGo bs k a).2) (h0 : ¬ (openS bs a).2.2 = 0) : R = (out, a) := by
  have : segGo bs k a = ([], a) := by cases k <;> simp [segGo, h0]
  rw [this] at h1 h2
  exact Prod.ext (h1.trans (List.append_nil _)) h2
theorem seg_full {bs : List UInt8} {R : List ByteArray × Nat} {k a : Nat} {out : List ByteArray} (hk : out.length + k = 6) (h1 : R.1 = out ++ (segGo bs k a).1) (h2 : R.2 = (segGo bs k a).2) (h : ¬ out.length < 6) : R = (out, a) := by
  obtain rfl : k = 0 := by omega
  rw [segGo] at h1 h2
  exact Prod.ext (h1.trans (List.append_nil _)) h2
theorem read_len {d : Disk} {name : Int} {s : ByteArray} (hz : SmallF d.files) (h : readA d name = some s) : s.size ≤ 2000000000000000 := by
  unfold readA at h
  split at h
  · obtain ⟨f, hf, h2⟩ := Option.bind_eq_some_iff.1 h
    split at h2
    · cases h2
      have := hz f (List.mem_of_getElem? hf)
      rw [ByteArray.size_append]; omega
    · cases h2
  · cases h
theorem c_impl_SegRead (d : Disk) (seg : Int) (hn : d.files.length ≤ 1000000000) (hz : SmallF d.files) (hb0 : ∀ s, readA d seg = some s → s.size ≤ 1000000000000) (K : AV → AH → Prop)
    (hk : K (.tup [.one (.sl 0 0 0 (segRd d seg).1.length), (.one (.c (.int .i64 (((segRd d seg).2 : Int)))))]) [.own 0 9 1 none ((segRd d seg).1.map strC)]) : ACalls Try.prog 18 [.agg (diskC d), (.one (.c (.int .i64 (seg))))] [] K := by
  refine acall_c Try.f18.results.toList mixed Try.func18 rfl rfl (by kernel_rfl) ?_
  intro Q hQ hQO
  simp only [go_sem]
  refine call_c (c_impl_DiskRead d seg hn hz _ ?_)
  cases hr : readA d seg with
  | none =>
    have he : segRd d seg = ([], 0) := by simp only [segRd, hr]
    rw [he] at hk
    simp only [readR, go_sem]
    (try simp only [go_sem]); repeat' (first | (with_reducible refine c_split (fun hb => ?_) (fun hb => ?_) <;> try simp only [go_sem, hb]) | (with_reducible refine w_split (fun hb => ?_) (fun hb => ?_) <;> try simp only [go_sem, hb]) | (fail))
    refine hQO [1] _ _ (GC.step (Ghost.nlr 4 (by simp only [go_sem]) 9 1) (GC.now ?_)) <;> simp only [Try.f18, go_sem, List.nodup_cons, List.nodup_nil, List.mem_cons, List.not_mem_nil, or_false, not_false_eq_true, List.idxOf?_cons, List.idxOf?_nil, Option.map_none]
    exact hk
  | some s =>
    simp only [readR, go_sem]
    (try simp only [go_sem]); repeat' (first | (with_reducible refine c_split (fun hb => ?_) (fun hb => ?_) <;> try simp only [go_sem, hb]) | (with_reducible refine w_split (fun hb => ?_) (fun hb => ?_) <;> try simp only [go_sem, hb]) | (refine call_c (c_isSeg _ _ ?_) <;> try simp only [go_sem]) | (fail))
    · have he : segRd d seg = ([], 0) := by simp only [segRd, hr]; rw [if_neg (of_decide_eq_false (by simpa only [Bool.not_eq_true'] using hb))]
      rw [he] at hk
      refine hQO [1] _ _ (GC.step (Ghost.nlr 4 (by simp only [go_sem]) 9 1) (GC.now ?_)) <;> simp only [Try.f18, go_sem, List.nodup_cons, List.nodup_nil, List.mem_cons, List.not_mem_nil, or_false, not_false_eq_true, List.idxOf?_cons, List.idxOf?_nil, Option.map_none]
      exact hk
    have hs := hb0 s hr
    have hs2 : s.data.toList.length ≤ 1000000000000 := hs
    have hsm : s.data.toList.length ≤ maxLen := Nat.le_trans hs2 (by decide)
    have hsl : s.size = s.data.toList.length := rfl
    have he : segRd d seg = segGo s.data.toList 6 0 := by simp only [segRd, hr]; rw [if_pos (by simpa using hb)]
    rw [he] at hk
    generalize hR : segGo s.data.toList 6 0 = R at *
    refine while_at (α := List ByteArray × Nat × Nat × Nat × Option Nat) (fun ⟨out, a, k, g, cap⟩ => k) [6] (fun ⟨out, a, k, g, cap⟩ f h => f 8 = .one (.sl 1 g 0 out.length) ∧ f 9 = (.one (.c (.int .i64 ((a : Int))))) ∧ h = [.own 0 26 2 (some 1) [diskC d], .own g 9 1 cap (out.map strC)] ∧ out.length + k = 6 ∧ R.1 = out ++ (segGo s.data.toList k a).1 ∧ R.2 = (segGo s.data.toList k a).2) ([], 0, 6, 0, some 0) (GC.now ?_) ?_
    · simp only [go_sem, nc_0, true_and]
      simp [hR]
    · rintro ⟨out, a, k, g, cap⟩ f h J hA ⟨e8, e9, rfl, hP⟩ hJ
      simp only [go_sem] at hA
      try dsimp only at hJ
      simp only [go_sem, hA, e8, e9]
      obtain ⟨hp1, hp2, hp3⟩ := hP
      (try simp only [go_sem, hA, e8, e9, hsl, hsm, bytesE_map, openR]); repeat' (first | (with_reducible refine c_split (fun hb => ?_) (fun hb => ?_) <;> try simp only [go_sem, hb, hA, e8, e9, hsl, hsm, bytesE_map, openR]) | (with_reducible refine w_split (fun hb => ?_) (fun hb => ?_) <;> try simp only [go_sem, hb, hA, e8, e9, hsl, hsm, bytesE_map, openR]) | (refine call_c (c_impl_Unseal s.data.toList _ hs2 _ ?_) <;> try simp only [go_sem, hA, e8, e9, hsl, hsm, bytesE_map, openR]) | (fail))
      · have hst := seg_stop hp2 hp3 (by simpa using hb)
        subst hst
        have htk : (List.map strC out).take out.length = List.map strC out := strC_tk out
        refine hQO [1] _ _ (GC.step (Ghost.cut (l := 1) rfl out.length) (GC.now ?_)) <;> simp only [Try.f18, go_sem, List.nodup_cons, List.nodup_nil, List.mem_cons, List.not_mem_nil, or_false, not_false_eq_true, List.idxOf?_cons, List.idxOf?_nil, Option.map_none, htk]
        exact hk
      · have hlt : out.length < 6 := by have := of_decide_eq_true ‹decide ((out.length : Int) < 6) = true›; omega
        obtain ⟨k', rfl, q1, q2, q3⟩ := seg_next hp1 hp2 hp3 hlt (by simpa using hb)
        have h0 : out.length = (out.map strC).length := by simp
        have hso : strOf (List.map (fun b => (b.toNat : Int)) (openS s.data.toList a).1) = bA (openS s.data.toList a).1 := so_map _
        simp only [bo_map, so_some, hso, true_and]
        refine ap_end rfl h0 (by simp; omega) ?_
        (try simp only [go_sem, hA, e8, e9]); repeat' (first | (with_reducible refine c_split (fun hb => ?_) (fun hb => ?_) <;> try simp only [go_sem, hb, hA, e8, e9]) | (with_reducible refine w_split (fun hb => ?_) (fun hb => ?_) <;> try simp only [go_sem, hb, hA, e8, e9]) | (fail))
        refine gc_trim 2 (by decide) (by simp only [go_sem]) (by simp only [go_sem]) (hJ (out ++ [bA (openS s.data.toList a).1], (openS s.data.toList a).2.1, k', g + 1, none) _ _ (by exact Nat.lt_succ_self _) (by simp only [go_sem, hA, e8, e9]) ⟨?_, ?_, ?_, ?_⟩) <;> try simp only [go_sem, hA, e8, e9]
        exact ⟨by simpa using q1, q2, q3⟩
      · have hst := seg_full hp1 hp2 hp3 (by have := of_decide_eq_false hb; omega)
        subst hst
        have htk : (List.map strC out).take out.length = List.map strC out := strC_tk out
        refine hQO [1] _ _ (GC.step (Ghost.cut (l := 1) rfl out.length) (GC.now ?_)) <;> simp only [Try.f18, go_sem, List.nodup_cons, List.nodup_nil, List.mem_cons, List.not_mem_nil, or_false, not_false_eq_true, List.idxOf?_cons, List.idxOf?_nil, Option.map_none, htk]
        exact hk
theorem seg_none {bs : List UInt8} {a : Nat} (h : bs.length ≤ a) : ¬ (openS bs a).2.2 = 0 := by
  have : getNum bs a = none := by rw [getNum, if_neg (by omega)]
  rw [openS, this]; simp
theorem c_spec_SegRead (d : Disk) (seg : Int) (hn : d.files.length ≤ 1000000000) (hz : SmallF d.files) (hb0 : ∀ s, readA d seg = some s → s.size ≤ 1000000000000) (K : AV → AH → Prop)
    (hk : K (.tup [(.one (.im ((segRd d seg).1.map strC))), (.one (.c (.int .i64 (((segRd d seg).2 : Int)))))]) []) : ACalls Try.prog 45 [.agg (diskC d), (.one (.c (.int .i64 (seg))))] [] K := by
  refine acall_c Try.f45.results.toList mixed Try.func45 rfl rfl (by kernel_rfl) ?_
  intro Q hQ hQO
  simp only [go_sem]
  refine call_c (c_spec_DiskRead d seg hn hz _ ?_)
  cases hr : readA d seg with
  | none =>
    have he : segRd d seg = ([], 0) := by simp only [segRd, hr]
    rw [he] at hk
    simp only [readR, go_sem]
    (try simp only [go_sem]); repeat' (first | (with_reducible refine c_split (fun hb => ?_) (fun hb => ?_) <;> try simp only [go_sem, hb]) | (with_reducible refine w_split (fun hb => ?_) (fun hb => ?_) <;> try simp only [go_sem, hb]) | (with_reducible refine hQ _ _ ?_ <;> simp only [Try.f45, go_sem]))
    exact hk
  | some s =>
    simp only [readR, go_sem]
    have hs := hb0 s hr
    have hs2 : s.data.toList.length ≤ 1000000000000 := hs
    have hsm : s.data.toList.length ≤ maxLen := Nat.le_trans hs2 (by decide)
    have hsl : s.size = s.data.toList.length := rfl
    (try simp only [go_sem, hsl, hsm, bytesE_map]); repeat' (first | (with_reducible refine c_split (fun hb => ?_) (fun hb => ?_) <;> try simp only [go_sem, hb, hsl, hsm, bytesE_map]) | (with_reducible refine w_split (fun hb => ?_) (fun hb => ?_) <;> try simp only [go_sem, hb, hsl, hsm, bytesE_map]) | (refine call_c (c_l15Seg _ _ ?_) <;> try simp only [go_sem, hsl, hsm, bytesE_map]) | (fail))
    · have he : segRd d seg = ([], 0) := by simp only [segRd, hr]; rw [if_neg (of_decide_eq_false (by simpa only [Bool.not_eq_true'] using hb))]
      rw [he] at hk
      (try simp only [go_sem]); repeat' (first | (with_reducible refine c_split (fun hb => ?_) (fun hb => ?_) <;> try simp only [go_sem, hb]) | (with_reducible refine w_split (fun hb => ?_) (fun hb => ?_) <;> try simp only [go_sem, hb]) | (with_reducible refine hQ _ _ ?_ <;> simp only [Try.f45, go_sem]))
      exact hk
    have he : segRd d seg = segGo s.data.toList 6 0 := by simp only [segRd, hr]; rw [if_pos (by simpa using hb)]
    rw [he] at hk
    generalize hR : segGo s.data.toList 6 0 = R at *
    refine while_at (α := List ByteArray × Nat × Nat × Nat × Option Nat) (fun ⟨out, a, k, g, cap⟩ => k) [9] (fun ⟨out, a, k, g, cap⟩ f h => f 6 = .one (.sl 1 g 0 out.length) ∧ f 10 = (.one (.c (.int .i64 ((a : Int))))) ∧ h = [.own 0 26 2 (some 1) [diskC d], .own g 9 1 cap (out.map strC), .ro 0 5 1 (s.data.toList.map byteC)] ∧ out.length + k = 6 ∧ R.1 = out ++ (segGo s.data.toList k a).1 ∧ R.2 = (segGo s.data.toList k a).2) ([], 0, 6, 0, some 0) (GC.step (Ghost.freeze [2]) (GC.now ?_)) ?_
    · simp only [go_sem, nc_0, true_and]
      simp [hR]
    · rintro ⟨out, a, k, g, cap⟩ f h J hA ⟨e6, e10, rfl, hP⟩ hJ
      simp only [go_sem] at hA
      try dsimp only at hJ
      simp only [go_sem, hA, e6, e10]
      obtain ⟨hp1, hp2, hp3⟩ := hP
      (try simp only [go_sem, hA, e6, e10, hsl, hsm, bytesE_map, openR, List.take_length]); repeat' (first | (with_reducible refine c_split (fun hb => ?_) (fun hb => ?_) <;> try simp only [go_sem, hb, hA, e6, e10, hsl, hsm, bytesE_map, openR, List.take_length]) | (with_reducible refine w_split (fun hb => ?_) (fun hb => ?_) <;> try simp only [go_sem, hb, hA, e6, e10, hsl, hsm, bytesE_map, openR, List.take_length]) | (refine call_c (c_spec_Unseal s.data.toList _ hs2 _ ?_) <;> try simp only [go_sem, hA, e6, e10, hsl, hsm, bytesE_map, openR, List.take_length]) | (fail))
      · have hst := seg_stop hp2 hp3 (by simpa using hb)
        subst hst
        (try simp only [go_sem, hA, e6, e10]); repeat' (first | (with_reducible refine c_split (fun hb => ?_) (fun hb => ?_) <;> try simp only [go_sem, hb, hA, e6, e10]) | (with_reducible refine w_split (fun hb => ?_) (fun hb => ?_) <;> try simp only [go_sem, hb, hA, e6, e10]) | (with_reducible refine hQ _ _ ?_ <;> simp only [Try.f45, go_sem, hA, e6, e10]))
        exact hk
      · have hlt : out.length < 6 := by have := of_decide_eq_true ‹decide ((out.length : Int) < 6) = true›; omega
        obtain ⟨k', rfl, q1, q2, q3⟩ := seg_next hp1 hp2 hp3 hlt (by simpa using hb)
        have h0 : out.length = (out.map strC).length := by simp
        have hso : strOf (List.map (fun b => (b.toNat : Int)) (openS s.data.toList a).1) = bA (openS s.data.toList a).1 := so_map _
        refine ap_end rfl h0 (by simp; omega) ?_
        (try simp only [go_sem, hA, e6, e10, hso]); repeat' (first | (with_reducible refine c_split (fun hb => ?_) (fun hb => ?_) <;> try simp only [go_sem, hb, hA, e6, e10, hso]) | (with_reducible refine w_split (fun hb => ?_) (fun hb => ?_) <;> try simp only [go_sem, hb, hA, e6, e10, hso]) | (fail))
        refine gc_trim 3 (by decide) (by simp only [go_sem]) (by simp only [go_sem]) (hJ (out ++ [bA (openS s.data.toList a).1], (openS s.data.toList a).2.1, k', g + 1, none) _ _ (by exact Nat.lt_succ_self _) (by simp only [go_sem, hA, e6, e10]) ⟨?_, ?_, ?_, ?_⟩) <;> try simp only [go_sem, hA, e6, e10]
        exact ⟨by simpa using q1, q2, q3⟩
      · have hst := seg_full hp1 hp2 hp3 (by have := of_decide_eq_false hb; omega)
        subst hst
        (try simp only [go_sem, hA, e6, e10]); repeat' (first | (with_reducible refine c_split (fun hb => ?_) (fun hb => ?_) <;> try simp only [go_sem, hb, hA, e6, e10]) | (with_reducible refine w_split (fun hb => ?_) (fun hb => ?_) <;> try simp only [go_sem, hb, hA, e6, e10]) | (with_reducible refine hQ _ _ ?_ <;> simp only [Try.f45, go_sem, hA, e6, e10]))
        exact hk
      · have hst := seg_stop hp2 hp3 (seg_none (by have := of_decide_eq_false hb; omega))
        subst hst
        (try simp only [go_sem, hA, e6, e10]); repeat' (first | (with_reducible refine c_split (fun hb => ?_) (fun hb => ?_) <;> try simp only [go_sem, hb, hA, e6, e10]) | (with_reducible refine w_split (fun hb => ?_) (fun hb => ?_) <;> try simp only [go_sem, hb, hA, e6, e10]) | (with_reducible refine hQ _ _ ?_ <;> simp only [Try.f45, go_sem, hA, e6, e10]))
        exact hk
end Go.Proofs.Ytaahlnjldenhpaa
