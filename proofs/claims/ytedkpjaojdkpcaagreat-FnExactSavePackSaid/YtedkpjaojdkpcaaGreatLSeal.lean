/- Seal: numbers as bytes, bytes sealed with a check. Conditions: none. -/
import Derived.Test.YtedkpjaojdkpcaaGreatLG
import Derived.Test.YtedkpjaojdkpcaaGreatLT
import Derived.Test.YtedkpjaojdkpcaaGreatLUnseal
namespace Go.Proofs.YtedkpjaojdkpcaaGreat
open Go.BL Go.RowKit
set_option linter.unusedVariables false
set_option linter.unusedSimpArgs false
set_option maxRecDepth 100000
attribute [local go_sem] byteC
/-- The form of a number. -/
def putN (x : Nat) : List UInt8 := if 127 < x then UInt8.ofNat (x % 128 + 128) :: putN (x / 128) else [UInt8.ofNat x]
termination_by x
decreasing_by omega
theorem putN_big {x : Nat} (h : 127 < x) : putN x = UInt8.ofNat (x % 128 + 128) :: putN (x / 128) := by rw [putN, if_pos h]
theorem putN_small {x : Nat} (h : ¬ 127 < x) : putN x = [UInt8.ofNat x] := by rw [putN, if_neg h]
def putNum (x : Int) : List UInt8 := if x < 0 then [] else putN x.toNat
theorem put_step {x out f : Nat} (hx : 127 < x) (hf : x < 128 ^ f) (h : out + f = 9) : ∃ f', f = f' + 1 ∧ x / 128 < 128 ^ f' ∧ out + 1 + f' = 9 := by
  obtain ⟨f', rfl⟩ : ∃ q, f = q + 1 := ⟨f - 1, by cases f; simp at hf; omega; omega⟩
  refine ⟨f', rfl, ?_, by omega⟩
  rw [Nat.pow_succ] at hf
  exact Nat.div_lt_of_lt_mul (by rw [Nat.mul_comm]; exact hf)
theorem put_less {x : Nat} (h : 127 < x) : x / 128 < x := by omega
theorem shr7 (x : Nat) : (x : Int).fdiv (2 ^ min (7 : Int).toNat 64) = ((x / 128 : Nat) : Int) := by
  rw [show (2 : Int) ^ min (7 : Int).toNat 64 = 128 by decide, Int.fdiv_eq_ediv_of_nonneg _ (by decide)]; rfl
theorem and127 (x : Nat) (hx : x < 9223372036854775808) : IntKind.i64.wrap (((BitVec.ofInt IntKind.i64.bits (x : Int) &&& BitVec.ofInt IntKind.i64.bits 127).toNat : Nat) : Int) = ((x % 128 : Nat) : Int) := by
  have h := and_nat x 127 hx (by omega)
  rw [Nat.and_two_pow_sub_one_eq_mod x 7] at h
  exact h
theorem or128 (x : Nat) : IntKind.i64.wrap (((BitVec.ofInt IntKind.i64.bits ((x % 128 : Nat) : Int) ||| BitVec.ofInt IntKind.i64.bits 128).toNat : Nat) : Int) = ((x % 128 + 128 : Nat) : Int) := by
  have h := or_nat (x % 128) 128 (by omega) (by omega)
  have h2 : x % 128 ||| 128 = x % 128 + 128 := or_add (x % 128) 1 1 (by omega)
  rw [h2] at h
  exact h
theorem c_impl_PutNum (x : Int) (hx : x < 9223372036854775808) (K : AV → AH → Prop) (hk : K (.one (.sl 0 0 0 (putNum x).length)) [.own 0 5 1 none ((putNum x).map byteC)]) : ACalls Tryz.prog 24 [(.one (.c (.int .i64 (x))))] [] K := by
  refine acall_c Tryz.f24.results.toList mixed Tryz.func24 rfl rfl (by kernel_rfl) ?_
  intro Q hQ hQO
  simp only [go_sem]
  (try simp only [go_sem]); repeat' (first | (with_reducible refine c_split (fun hb => ?_) (fun hb => ?_) <;> try simp only [go_sem, hb]) | (with_reducible refine w_split (fun hb => ?_) (fun hb => ?_) <;> try simp only [go_sem, hb]) | (fail))
  · rw [putNum, if_pos (of_decide_eq_true hb)] at hk
    refine hQO [0] _ _ (GC.step (Ghost.nlr 2 (by simp only [go_sem]) 5 1) (GC.now ?_)) <;> simp only [Tryz.f24, go_sem, List.nodup_cons, List.nodup_nil, List.mem_cons, List.not_mem_nil, or_false, not_false_eq_true, List.idxOf?_cons, List.idxOf?_nil, Option.map_none]
    exact hk
  rw [putNum, if_neg (of_decide_eq_false hb)] at hk
  obtain ⟨x0, rfl⟩ : ∃ q : Nat, x = (q : Int) := ⟨x.toNat, by have := of_decide_eq_false hb; omega⟩
  rw [Int.toNat_natCast] at hk
  have h07 : (0 : Int) ≤ 7 := by decide
  refine while_at (α := Nat × List UInt8 × Nat × Nat × Option Nat) (fun ⟨cur, out, n, g, cap⟩ => cur) [] (fun ⟨cur, out, n, g, cap⟩ f h => f 0 = (.one (.c (.int .i64 ((cur : Int))))) ∧ f 3 = .one (.sl 0 g 0 out.length) ∧ h = [.own g 5 1 cap (out.map byteC)] ∧ putN x0 = out ++ putN cur ∧ cur < 128 ^ n ∧ out.length + n = 9 ∧ cur < 9223372036854775808) (x0, [], 9, 0, some 0) (GC.now ?_) ?_
  · simp only [go_sem, nc_0, true_and]
    simp; omega
  · rintro ⟨cur, out, n, g, cap⟩ f h J hA ⟨e0, e3, rfl, hP⟩ hJ
    simp only [go_sem] at hA
    try dsimp only at hJ
    simp only [go_sem, hA, e0, e3]
    obtain ⟨hp1, hp2, hp3, hp4⟩ := hP
    refine c_split (fun hb => ?_) (fun hb => ?_)
    · have hbig : 127 < cur := by have := of_decide_eq_true hb; omega
      obtain ⟨n', rfl, q1, q2⟩ := put_step hbig hp2 hp3
      rw [putN_big hbig] at hp1
      have hand := and127 cur hp4
      have hor := or128 cur
      simp only [IntKind.bits] at hand hor
      (try simp only [go_sem, hA, e0, e3, hand, hor, b_and, b_or, b_shr, h07, shr7, u8_wrapn]); repeat' (first | (with_reducible refine c_split (fun hb => ?_) (fun hb => ?_) <;> try simp only [go_sem, hb, hA, e0, e3, hand, hor, b_and, b_or, b_shr, h07, shr7, u8_wrapn]) | (with_reducible refine w_split (fun hb => ?_) (fun hb => ?_) <;> try simp only [go_sem, hb, hA, e0, e3, hand, hor, b_and, b_or, b_shr, h07, shr7, u8_wrapn]) | (fail))
      refine ap_end rfl (by simp) (by simp; omega) ?_
      (try simp only [go_sem, hA, e0, e3, b_shr, h07, shr7]); repeat' (first | (with_reducible refine c_split (fun hb => ?_) (fun hb => ?_) <;> try simp only [go_sem, hb, hA, e0, e3, b_shr, h07, shr7]) | (with_reducible refine w_split (fun hb => ?_) (fun hb => ?_) <;> try simp only [go_sem, hb, hA, e0, e3, b_shr, h07, shr7]) | (fail))
      refine gc_trim 1 (by decide) (by simp only [go_sem]) (by simp only [go_sem]) (hJ (cur / 128, out ++ [UInt8.ofNat (cur % 128 + 128)], n', g + 1, none) _ _ (by exact put_less hbig) (by simp only [go_sem, hA, e0, e3]) ⟨?_, ?_, ?_, ?_⟩) <;> try simp only [go_sem, hA, e0, e3]
      exact ⟨by rw [hp1]; simp, q1, by simpa using q2, by omega⟩
    · have hsm : ¬ 127 < cur := by have := of_decide_eq_false hb; omega
      rw [putN_small hsm] at hp1
      (try simp only [go_sem, hA, e0, e3, u8_wrapn]); repeat' (first | (with_reducible refine c_split (fun hb => ?_) (fun hb => ?_) <;> try simp only [go_sem, hb, hA, e0, e3, u8_wrapn]) | (with_reducible refine w_split (fun hb => ?_) (fun hb => ?_) <;> try simp only [go_sem, hb, hA, e0, e3, u8_wrapn]) | (fail))
      refine ap_end rfl (by simp) (by simp; omega) ?_
      (try simp only [go_sem, hA, e0, e3]); repeat' (first | (with_reducible refine c_split (fun hb => ?_) (fun hb => ?_) <;> try simp only [go_sem, hb, hA, e0, e3]) | (with_reducible refine w_split (fun hb => ?_) (fun hb => ?_) <;> try simp only [go_sem, hb, hA, e0, e3]) | (fail))
      have hl : (putN x0).length = out.length + 1 := by rw [hp1]; simp
      rw [hl] at hk
      refine hQO [0] _ _ (GC.now ?_) <;> simp only [Tryz.f24, go_sem, List.nodup_cons, List.nodup_nil, List.mem_cons, List.not_mem_nil, or_false, not_false_eq_true, List.idxOf?_cons, List.idxOf?_nil, Option.map_none, ← hp1]
      exact hk
theorem c_spec_PutNum (x : Int) (hx : x < 9223372036854775808) (K : AV → AH → Prop) (hk : K (.one (.sl 0 0 0 (putNum x).length)) [.own 0 5 1 none ((putNum x).map byteC)]) : ACalls Tryz.prog 19 [(.one (.c (.int .i64 (x))))] [] K := by
  have h128 : (128 : Int) ≠ 0 := by decide
  refine acall_c Tryz.f19.results.toList mixed Tryz.func19 rfl rfl (by kernel_rfl) ?_
  intro Q hQ hQO
  simp only [go_sem]
  (try simp only [go_sem]); repeat' (first | (with_reducible refine c_split (fun hb => ?_) (fun hb => ?_) <;> try simp only [go_sem, hb]) | (with_reducible refine w_split (fun hb => ?_) (fun hb => ?_) <;> try simp only [go_sem, hb]) | (fail))
  · rw [putNum, if_pos (of_decide_eq_true hb)] at hk
    refine hQO [0] _ _ (GC.step (Ghost.cut (l := 0) rfl 0) (GC.now ?_)) <;> simp only [Tryz.f19, go_sem, List.nodup_cons, List.nodup_nil, List.mem_cons, List.not_mem_nil, or_false, not_false_eq_true, List.idxOf?_cons, List.idxOf?_nil, Option.map_none]
    exact hk
  rw [putNum, if_neg (of_decide_eq_false hb)] at hk
  obtain ⟨x0, rfl⟩ : ∃ q : Nat, x = (q : Int) := ⟨x.toNat, by have := of_decide_eq_false hb; omega⟩
  rw [Int.toNat_natCast] at hk
  refine while_at (α := Nat × List UInt8 × Nat × Nat × Option Nat) (fun ⟨cur, out, n, g, cap⟩ => cur) [] (fun ⟨cur, out, n, g, cap⟩ f h => f 0 = (.one (.c (.int .i64 ((cur : Int))))) ∧ f 3 = .one (.sl 0 g 0 out.length) ∧ h = [.own g 5 1 cap (out.map byteC)] ∧ putN x0 = out ++ putN cur ∧ cur < 128 ^ n ∧ out.length + n = 9 ∧ cur < 9223372036854775808) (x0, [], 9, 0, some 0) (GC.now ?_) ?_
  · simp only [go_sem, nc_0, true_and]
    simp; omega
  · rintro ⟨cur, out, n, g, cap⟩ f h J hA ⟨e0, e3, rfl, hP⟩ hJ
    simp only [go_sem] at hA
    try dsimp only at hJ
    simp only [go_sem, hA, e0, e3]
    obtain ⟨hp1, hp2, hp3, hp4⟩ := hP
    refine c_split (fun hb => ?_) (fun hb => ?_)
    · have hbig : 127 < cur := by have := of_decide_eq_true hb; omega
      obtain ⟨n', rfl, q1, q2⟩ := put_step hbig hp2 hp3
      rw [putN_big hbig] at hp1
      have hm := nat_tmod128 cur
      have hw1 : wrap64 (((cur % 128 : Nat) : Int) + 128) = ((cur % 128 + 128 : Nat) : Int) := by unfold wrap64; omega
      have hd : wrap64 ((cur : Int).tdiv 128) = ((cur / 128 : Nat) : Int) := by rw [Int.tdiv_eq_ediv_of_nonneg (by omega)]; unfold wrap64; omega
      (try simp only [go_sem, hA, e0, e3, ne_eq, h128, not_false_eq_true, b_rem, b_quo, hm, hw1, u8_wrapn]); repeat' (first | (with_reducible refine c_split (fun hb => ?_) (fun hb => ?_) <;> try simp only [go_sem, hb, hA, e0, e3, ne_eq, h128, not_false_eq_true, b_rem, b_quo, hm, hw1, u8_wrapn]) | (with_reducible refine w_split (fun hb => ?_) (fun hb => ?_) <;> try simp only [go_sem, hb, hA, e0, e3, ne_eq, h128, not_false_eq_true, b_rem, b_quo, hm, hw1, u8_wrapn]) | (fail))
      refine ap_end rfl (by simp) (by simp; omega) ?_
      (try simp only [go_sem, hA, e0, e3, ne_eq, h128, not_false_eq_true, b_rem, b_quo, hd]); repeat' (first | (with_reducible refine c_split (fun hb => ?_) (fun hb => ?_) <;> try simp only [go_sem, hb, hA, e0, e3, ne_eq, h128, not_false_eq_true, b_rem, b_quo, hd]) | (with_reducible refine w_split (fun hb => ?_) (fun hb => ?_) <;> try simp only [go_sem, hb, hA, e0, e3, ne_eq, h128, not_false_eq_true, b_rem, b_quo, hd]) | (fail))
      refine gc_trim 1 (by decide) (by simp only [go_sem]) (by simp only [go_sem, hd]) (hJ (cur / 128, out ++ [UInt8.ofNat (cur % 128 + 128)], n', g + 1, none) _ _ (by exact put_less hbig) (by simp only [go_sem, hA, e0, e3]) ⟨?_, ?_, ?_, ?_⟩) <;> try simp only [go_sem, hA, e0, e3, hd]
      exact ⟨by rw [hp1]; simp, q1, by simpa using q2, by omega⟩
    · have hsm : ¬ 127 < cur := by have := of_decide_eq_false hb; omega
      rw [putN_small hsm] at hp1
      (try simp only [go_sem, hA, e0, e3, u8_wrapn]); repeat' (first | (with_reducible refine c_split (fun hb => ?_) (fun hb => ?_) <;> try simp only [go_sem, hb, hA, e0, e3, u8_wrapn]) | (with_reducible refine w_split (fun hb => ?_) (fun hb => ?_) <;> try simp only [go_sem, hb, hA, e0, e3, u8_wrapn]) | (fail))
      refine ap_end rfl (by simp) (by simp; omega) ?_
      (try simp only [go_sem, hA, e0, e3]); repeat' (first | (with_reducible refine c_split (fun hb => ?_) (fun hb => ?_) <;> try simp only [go_sem, hb, hA, e0, e3]) | (with_reducible refine w_split (fun hb => ?_) (fun hb => ?_) <;> try simp only [go_sem, hb, hA, e0, e3]) | (fail))
      have hl : (putN x0).length = out.length + 1 := by rw [hp1]; simp
      rw [hl] at hk
      refine hQO [0] _ _ (GC.now ?_) <;> simp only [Tryz.f19, go_sem, List.nodup_cons, List.nodup_nil, List.mem_cons, List.not_mem_nil, or_false, not_false_eq_true, List.idxOf?_cons, List.idxOf?_nil, Option.map_none, ← hp1]
      exact hk
/-- By content. -/
theorem im_row {K : AV → AH → Prop} (bs : List UInt8) (hk : K (.one (.im (bs.map byteC))) []) : K (retA [.own 0 5 1 none (bs.map byteC)] (.one (.sl 0 0 0 bs.length))) [] := by
  have : retA [AO.own 0 5 1 none (bs.map byteC)] (.one (.sl 0 0 0 bs.length)) = (.one (.im (bs.map byteC))) := by
    simp only [retA, imA, imV, objR_at, List.getElem?_cons_zero, obR_own, Nat.zero_add, List.drop_zero, byteC_tk, byteC_clz, List.length_map, Nat.le_refl, if_true]
  rw [this]; exact hk
theorem c_impl_PutNum_im (x : Int) (hx : x < 9223372036854775808) (K : AV → AH → Prop) (hk : K (.one (.im ((putNum x).map byteC))) []) : ACalls Tryz.prog 24 [(.one (.c (.int .i64 (x))))] [] K := acall_im (c_impl_PutNum x hx _ (im_row _ hk))
theorem c_Grow (n : Nat) (h : AH) (h0 : 0 < n) (h1 : n ≤ 1000000000000) (K : AV → AH → Prop) (hk : K (.one (.sl h.length 0 0 0)) (h ++ [.own 0 5 1 none (List.replicate n [.c (.int .u8 (0))])])) : ACalls Tryz.prog 97 [.one .nl, (.one (.c (.int .i64 ((n : Int)))))] h K := by
  have hw : wrap64 ((n : Int) - 0) = n := by unfold wrap64; omega
  have h2 : decide ((n : Int) < 0) = false := decide_eq_false (by omega)
  have h3 : decide ((0 : Int) < (n : Int)) = true := decide_eq_true (by omega)
  have h4 : (0 : Int) ≤ (n : Int) := by omega
  have h5 : (n : Int) ≤ 9223372036854775807 := by omega
  have h6 : n * 1 ≤ 281474976710656 := by omega
  have hnw : ∀ a : AO, (h ++ [a])[h.length]? = some a := fun a => by simp
  have p0 : (0 : Int) ≤ 0 := Int.le_refl _
  have t0 : Int.toNat 0 = 0 := rfl
  refine acall_w Tryz.f97.results.toList mixed Tryz.func97 rfl rfl (by kernel_rfl) ?_
  intro Q hQ
  simp only [go_sem]
  have hw0 : wrap64 ((0 : Int) - 0) = 0 := by unfold wrap64; omega
  (try simp only [go_sem, hw, hw0, h2, h3]); repeat' (first | (with_reducible refine c_split (fun hb => ?_) (fun hb => ?_) <;> try simp only [go_sem, hb, hw, hw0, h2, h3]) | (with_reducible refine w_split (fun hb => ?_) (fun hb => ?_) <;> try simp only [go_sem, hb, hw, hw0, h2, h3]) | (fail))
  rw [sl_nl (he := (by kernel_rfl : elemA Tryz.prog 62 = some 5)) (hn := (by kernel_rfl : sizeA Tryz.prog 5 = some 1)) (h1 := rfl) (h2 := rfl)]
  (try simp only [go_sem, Option.isSome_none, srB_i, h4, h5, h6]); repeat' (first | (with_reducible refine c_split (fun hb => ?_) (fun hb => ?_) <;> try simp only [go_sem, hb, Option.isSome_none, srB_i, h4, h5, h6]) | (with_reducible refine w_split (fun hb => ?_) (fun hb => ?_) <;> try simp only [go_sem, hb, Option.isSome_none, srB_i, h4, h5, h6]) | (fail))
  refine ap_nl (by simp; omega) ?_
  (try simp only [go_sem, Nat.zero_le, p0, t0, hnw]); repeat' (first | (with_reducible refine c_split (fun hb => ?_) (fun hb => ?_) <;> try simp only [go_sem, hb, Nat.zero_le, p0, t0, hnw]) | (with_reducible refine w_split (fun hb => ?_) (fun hb => ?_) <;> try simp only [go_sem, hb, Nat.zero_le, p0, t0, hnw]) | (fail))
  refine hQ _ _ (GC.now ?_) <;> simp only [retW, Tryz.f97, go_sem]
  exact hk
def rowC (bs : List UInt8) : List CV := [.im (bs.map byteC)]
def lenTo (xss : List (List UInt8)) : Nat → Nat
  | 0 => 0
  | i + 1 => lenTo xss i + (xss[i]?.getD []).length
theorem lenTo_eq (xss : List (List UInt8)) : ∀ i, lenTo xss i = ((xss.take i).flatten).length
  | 0 => rfl
  | i + 1 => by
    rw [lenTo, lenTo_eq xss i, List.take_add_one]
    cases xss[i]? <;> simp
theorem lenTo_mono (xss : List (List UInt8)) : ∀ {i j : Nat}, i ≤ j → lenTo xss i ≤ lenTo xss j := fun {i j} h => by
  induction j with
  | zero => rw [show i = 0 by omega]; exact Nat.le_refl _
  | succ j ih =>
    rcases Nat.lt_or_ge i (j + 1) with h' | h'
    · have := ih (by omega)
      rw [lenTo]; omega
    · rw [show i = j + 1 by omega]; exact Nat.le_refl _
theorem cset_fill (A : List UInt8) (n m : Nat) (bs : List UInt8) (z : List CV) (h : A.length + bs.length + m = n) : cset (A.map byteC ++ List.replicate (n - A.length) z) A.length (bs.map byteC) = (A ++ bs).map byteC ++ List.replicate (n - (A ++ bs).length) z := by
  apply List.ext_getElem?
  intro j
  rw [cset_get _ _ _ _ (by simp; omega)]
  simp only [List.length_map]
  by_cases hc : A.length ≤ j ∧ j < A.length + bs.length
  · rw [if_pos hc, List.map_append, List.append_assoc, List.getElem?_append_right (by simp; omega), List.getElem?_append_left (by simp; omega)]
    congr 1; simp
  · rw [if_neg hc]
    by_cases h1 : j < A.length
    · rw [List.getElem?_append_left (by simpa using h1), List.map_append, List.append_assoc, List.getElem?_append_left (by simpa using h1)]
    · rw [List.getElem?_append_right (by simp; omega), List.getElem?_append_right (by simp; omega), List.getElem?_replicate, List.getElem?_replicate]
      simp only [List.length_map, List.length_append]
      by_cases h2 : j < n
      · rw [if_pos (by omega), if_pos (by omega)]
      · rw [if_neg (by omega), if_neg (by omega)]
theorem fee_rep (n : Nat) : freeE (List.replicate n [.c (.int .u8 (0))]) = true := by
  unfold freeE
  rw [List.all_eq_true]
  intro x hx
  rw [List.eq_of_mem_replicate hx]
  rfl
theorem c_Concat (xss : List (List UInt8)) (hn : xss.length ≤ 1000000000) (h0 : 0 < lenTo xss xss.length) (h1 : lenTo xss xss.length ≤ 1000000000000) (K : AV → AH → Prop) (hk : K (.one (.sl 0 0 0 xss.flatten.length)) [.own 0 5 1 none (xss.flatten.map byteC)]) : ACalls Tryz.prog 53 [(.one (.im (xss.map rowC)))] [] K := by
  have hlt : lenTo xss xss.length = xss.flatten.length := by rw [lenTo_eq, List.take_length]
  refine acall_c Tryz.f53.results.toList mixed Tryz.func53 rfl rfl (by kernel_rfl) ?_
  intro Q hQ hQO
  simp only [go_sem, rowC]
  refine for_at (xss.length) [0, 9, 10] (fun i f h => f 11 = (.one (.c (.int .i64 (i)))) ∧ f 3 = (.one (.c (.int .i64 ((lenTo xss i : Int))))) ∧ h = []) (GC.now ?_) ?_
  · simp only [go_sem, nc_0, true_and, rowC]
    simp [lenTo]
  · rintro i f h J hi hA ⟨e11, e3, rfl⟩ hJ
    simp only [go_sem, rowC] at hA
    simp only [go_sem, hA, e11, e3, rowC]
    refine c_split (fun hb => ?_) (fun hb => ?_)
    rotate_left
    · simp only [go_sem, hb, hA, e11, e3, rowC]
      obtain rfl := ge_len hb hi
      (try simp only [go_sem, hA, e11, e3, rowC, List.nil_append, List.length_nil, fee_rep]); repeat' (first | (with_reducible refine c_split (fun hb => ?_) (fun hb => ?_) <;> try simp only [go_sem, hb, hA, e11, e3, rowC, List.nil_append, List.length_nil, fee_rep]) | (with_reducible refine w_split (fun hb => ?_) (fun hb => ?_) <;> try simp only [go_sem, hb, hA, e11, e3, rowC, List.nil_append, List.length_nil, fee_rep]) | (refine call_n (c_Grow (lenTo xss xss.length) [] h0 h1 _ ?_) <;> try simp only [go_sem, hA, e11, e3, rowC, List.nil_append, List.length_nil, fee_rep]) | (fail))
      refine for_at (xss.length) [25, 26] (fun i f h => f 27 = (.one (.c (.int .i64 (i)))) ∧ f 6 = .one (.sl 0 0 0 (lenTo xss i)) ∧ h = [.own 0 5 1 none (((xss.take i).flatten).map byteC ++ List.replicate (lenTo xss xss.length - lenTo xss i) [.c (.int .u8 (0))])]) (GC.now ?_) ?_
      · simp only [go_sem, nc_0, true_and, rowC]
        simp [lenTo]; exact .inr rfl
      · rintro i f h J hi hA ⟨e27, e6, rfl⟩ hJ
        simp only [go_sem, rowC] at hA
        simp only [go_sem, hA, e27, e6, rowC]
        refine c_split (fun hb => ?_) (fun hb => ?_)
        rotate_left
        · simp only [go_sem, hb, hA, e27, e6, rowC]
          obtain rfl := ge_len hb hi
          (try simp only [go_sem, hA, e27, e6, rowC]); repeat' (first | (with_reducible refine c_split (fun hb => ?_) (fun hb => ?_) <;> try simp only [go_sem, hb, hA, e27, e6, rowC]) | (with_reducible refine w_split (fun hb => ?_) (fun hb => ?_) <;> try simp only [go_sem, hb, hA, e27, e6, rowC]) | (fail))
          refine hQO [0] _ _ (GC.now ?_) <;> simp only [Tryz.f53, go_sem, List.nodup_cons, List.nodup_nil, List.mem_cons, List.not_mem_nil, or_false, not_false_eq_true, List.idxOf?_cons, List.idxOf?_nil, Option.map_none, List.take_length, Nat.sub_self, List.replicate_zero, List.append_nil, hlt]
          exact hk
        have hi := lt_len hb
        have hw := wrap_nat i (by omega)
        have hil : (i : Int) < ((xss.length : Nat) : Int) := Int.ofNat_lt.2 hi
        have hg0 : (xss)[i]? = some ((xss)[i]) := List.getElem?_eq_getElem (by omega)
        simp only [go_sem, hb, hA, e27, e6, rowC, hg0]
        try simp only [go_sem, hA, e27, e6, rowC, hil, hg0]
        have hm := lenTo_mono xss (show i + 1 ≤ xss.length by omega)
        have hs : lenTo xss (i + 1) = lenTo xss i + xss[i].length := by rw [lenTo, hg0]; rfl
        (try simp only [go_sem, hA, e27, e6, rowC, hil, hg0]); repeat' (first | (with_reducible refine c_split (fun hb => ?_) (fun hb => ?_) <;> try simp only [go_sem, hb, hA, e27, e6, rowC, hil, hg0]) | (with_reducible refine w_split (fun hb => ?_) (fun hb => ?_) <;> try simp only [go_sem, hb, hA, e27, e6, rowC, hil, hg0]) | (fail))
        have hle := lenTo_eq xss i
        have hl1 : ((xss.take i).flatten).length + xss[i].length ≤ lenTo xss xss.length := by omega
        have hfl : (xss.take (i + 1)).flatten = (xss.take i).flatten ++ xss[i] := by rw [List.take_add_one, hg0, Option.toList_some, List.flatten_append, List.flatten_cons, List.flatten_nil, List.append_nil]
        refine ap_in rfl (by simp only [List.length_map, List.length_append, List.length_replicate]; omega) ?_
        have hcs := cset_fill ((xss.take i).flatten) (lenTo xss xss.length) (lenTo xss xss.length - lenTo xss (i + 1)) xss[i] [.c (.int .u8 (0))] (by omega)
        rw [← hfl, ← lenTo_eq xss (i + 1), ← hle] at hcs
        (try simp only [go_sem, hA, e27, e6, rowC, hil, hg0, Nat.zero_add, hcs, List.length_map, ← hs]); repeat' (first | (with_reducible refine c_split (fun hb => ?_) (fun hb => ?_) <;> try simp only [go_sem, hb, hA, e27, e6, rowC, hil, hg0, Nat.zero_add, hcs, List.length_map, ← hs]) | (with_reducible refine w_split (fun hb => ?_) (fun hb => ?_) <;> try simp only [go_sem, hb, hA, e27, e6, rowC, hil, hg0, Nat.zero_add, hcs, List.length_map, ← hs]) | (fail))
        refine GC.now (hJ _ _ hi (by simp only [go_sem, hA, e27, e6, rowC]) ⟨?_, ?_, ?_⟩) <;> try simp only [go_sem, hA, e27, e6, rowC, hw]
    have hi := lt_len hb
    have hw := wrap_nat i (by omega)
    have hil : (i : Int) < ((xss.length : Nat) : Int) := Int.ofNat_lt.2 hi
    have hg0 : (xss)[i]? = some ((xss)[i]) := List.getElem?_eq_getElem (by omega)
    simp only [go_sem, hb, hA, e11, e3, rowC, hg0]
    try simp only [go_sem, hA, e11, e3, rowC, hil, hg0]
    have hm := lenTo_mono xss (show i + 1 ≤ xss.length by omega)
    have hs : lenTo xss (i + 1) = lenTo xss i + xss[i].length := by rw [lenTo, hg0]; rfl
    have hw2 : wrap64 ((lenTo xss i : Int) + (xss[i].length : Int)) = ((lenTo xss (i + 1) : Nat) : Int) := by rw [hs]; unfold wrap64; omega
    have hng : decide (((lenTo xss (i + 1) : Nat) : Int) < 0) = false := decide_eq_false (by omega)
    (try simp only [go_sem, hA, e11, e3, rowC, hil, hg0, hw2, hng]); repeat' (first | (with_reducible refine c_split (fun hb => ?_) (fun hb => ?_) <;> try simp only [go_sem, hb, hA, e11, e3, rowC, hil, hg0, hw2, hng]) | (with_reducible refine w_split (fun hb => ?_) (fun hb => ?_) <;> try simp only [go_sem, hb, hA, e11, e3, rowC, hil, hg0, hw2, hng]) | (fail))
    refine GC.now (hJ _ _ hi (by simp only [go_sem, hA, e11, e3, rowC]) ⟨?_, ?_, ?_⟩) <;> try simp only [go_sem, hA, e11, e3, rowC, hw]
theorem c_Concat_im (xss : List (List UInt8)) (hn : xss.length ≤ 1000000000) (h0 : 0 < lenTo xss xss.length) (h1 : lenTo xss xss.length ≤ 1000000000000) (K : AV → AH → Prop) (hk : K (.one (.im (xss.flatten.map byteC))) []) : ACalls Tryz.prog 53 [(.one (.im (xss.map rowC)))] [] K := acall_im (c_Concat xss hn h0 h1 _ (im_row _ hk))
def sealS (bs : List UInt8) : List UInt8 × Bool := if 9000 < bs.length then ([], false) else (putNum bs.length ++ bs ++ ckBytes (ckN bs), true)
def sealR (s : List UInt8 × Bool) : AV := .tup [(.one (.im (s.1.map byteC))), (.one (.c (.bool (s.2))))]
theorem putN_len (x : Nat) : 0 < (putN x).length := by rw [putN]; split <;> simp
theorem putNum_nat (n : Nat) : putNum (n : Int) = putN n := by rw [putNum, if_neg (by omega), Int.toNat_natCast]
theorem putN_le : ∀ (f x : Nat), x < 128 ^ f → (putN x).length ≤ f + 1
  | 0, x, h => by rw [putN_small (by simp at h; omega)]; simp
  | f + 1, x, h => by
    by_cases hb : 127 < x
    · rw [putN_big hb]
      have := putN_le f (x / 128) (Nat.div_lt_of_lt_mul (by rw [Nat.pow_succ] at h; rw [Nat.mul_comm]; exact h))
      simp; omega
    · rw [putN_small hb]; simp
theorem putNum_le (n : Nat) (h : n < 9223372036854775808) : (putNum (n : Int)).length ≤ 10 := by
  rw [putNum_nat]; exact putN_le 9 n (by rw [show (128 : Nat) ^ 9 = 9223372036854775808 by decide]; exact h)
theorem c_impl_Seal (bs : List UInt8) (hn : bs.length ≤ 1000000000000) (K : AV → AH → Prop) (hk : K (sealR (sealS bs)) []) : ACalls Tryz.prog 23 [(.one (.im (bs.map byteC)))] [] K := by
  refine acall_c Tryz.f23.results.toList mixed Tryz.func23 rfl rfl (by kernel_rfl) ?_
  intro Q hQ hQO
  simp only [go_sem]
  (try simp only [go_sem]); repeat' (first | (with_reducible refine c_split (fun hb => ?_) (fun hb => ?_) <;> try simp only [go_sem, hb]) | (with_reducible refine w_split (fun hb => ?_) (fun hb => ?_) <;> try simp only [go_sem, hb]) | (fail))
  · have hb' : 9000 < bs.length := by have := of_decide_eq_true hb; omega
    rw [sealS, if_pos hb'] at hk
    (try simp only [go_sem]); repeat' (first | (with_reducible refine c_split (fun hb => ?_) (fun hb => ?_) <;> try simp only [go_sem, hb]) | (with_reducible refine w_split (fun hb => ?_) (fun hb => ?_) <;> try simp only [go_sem, hb]) | (with_reducible refine hQ _ _ ?_ <;> simp only [Tryz.f23, go_sem]))
    exact hk
  · have hb' : ¬ 9000 < bs.length := by have := of_decide_eq_false hb; omega
    rw [sealS, if_neg hb'] at hk
    (try simp only [go_sem]); repeat' (first | (with_reducible refine c_split (fun hb => ?_) (fun hb => ?_) <;> try simp only [go_sem, hb]) | (with_reducible refine w_split (fun hb => ?_) (fun hb => ?_) <;> try simp only [go_sem, hb]) | (refine call_c (c_checkBytes bs (by omega) _ ?_) <;> try simp only [go_sem]) | (refine call_c (c_impl_PutNum_im bs.length (by omega) _ ?_) <;> try simp only [go_sem]) | (fail))
    refine call_c (c_Concat_im [putNum bs.length, bs, ckBytes (ckN bs)] (Nat.le_of_ble_eq_true rfl) ?_ ?_ _ ?_)
    · rw [lenTo_eq]; simp [putNum_nat]; have := putN_len bs.length; omega
    · rw [lenTo_eq]; have := putNum_le bs.length (by omega); simp [ckBytes]; omega
    simp only [List.flatten_cons, List.flatten_nil, List.append_nil, ← List.append_assoc]
    (try simp only [go_sem]); repeat' (first | (with_reducible refine c_split (fun hb => ?_) (fun hb => ?_) <;> try simp only [go_sem, hb]) | (with_reducible refine w_split (fun hb => ?_) (fun hb => ?_) <;> try simp only [go_sem, hb]) | (with_reducible refine hQ _ _ ?_ <;> simp only [Tryz.f23, go_sem]))
    exact hk
theorem c_spec_Seal (bs : List UInt8) (hn : bs.length ≤ 1000000000000) (K : AV → AH → Prop) (hk : K (sealR (sealS bs)) []) : ACalls Tryz.prog 18 [(.one (.im (bs.map byteC)))] [] K := by
  refine acall_c Tryz.f18.results.toList mixed Tryz.func18 rfl rfl (by kernel_rfl) ?_
  intro Q hQ hQO
  simp only [go_sem]
  (try simp only [go_sem]); repeat' (first | (with_reducible refine c_split (fun hb => ?_) (fun hb => ?_) <;> try simp only [go_sem, hb]) | (with_reducible refine w_split (fun hb => ?_) (fun hb => ?_) <;> try simp only [go_sem, hb]) | (fail))
  · have hb' : 9000 < bs.length := by have := of_decide_eq_true hb; omega
    rw [sealS, if_pos hb'] at hk
    (try simp only [go_sem]); repeat' (first | (with_reducible refine c_split (fun hb => ?_) (fun hb => ?_) <;> try simp only [go_sem, hb]) | (with_reducible refine w_split (fun hb => ?_) (fun hb => ?_) <;> try simp only [go_sem, hb]) | (with_reducible refine hQ _ _ ?_ <;> simp only [Tryz.f18, go_sem]))
    exact hk
  · have hb' : ¬ 9000 < bs.length := by have := of_decide_eq_false hb; omega
    rw [sealS, if_neg hb'] at hk
    (try simp only [go_sem]); repeat' (first | (with_reducible refine c_split (fun hb => ?_) (fun hb => ?_) <;> try simp only [go_sem, hb]) | (with_reducible refine w_split (fun hb => ?_) (fun hb => ?_) <;> try simp only [go_sem, hb]) | (refine call_c (c_spec_Check bs (by omega) _ ?_) <;> try simp only [go_sem]) | (refine call_c (c_spec_PutNum bs.length (by omega) _ ?_) <;> try simp only [go_sem]) | (fail))
    have hpl := putNum_le bs.length (by omega)
    refine ap_end rfl (by simp) (by simp; omega) ?_
    have h8 : (0 : Int) ≤ 8 := by decide
    have h16 : (0 : Int) ≤ 16 := by decide
    have h24 : (0 : Int) ≤ 24 := by decide
    (try simp only [go_sem, b_shr, h8, h16, h24, shr8, shr16, shr24, u8_wrapn]); repeat' (first | (with_reducible refine c_split (fun hb => ?_) (fun hb => ?_) <;> try simp only [go_sem, hb, b_shr, h8, h16, h24, shr8, shr16, shr24, u8_wrapn]) | (with_reducible refine w_split (fun hb => ?_) (fun hb => ?_) <;> try simp only [go_sem, hb, b_shr, h8, h16, h24, shr8, shr16, shr24, u8_wrapn]) | (fail))
    refine ap_end rfl (by simp) (by simp; omega) ?_
    (try simp only [go_sem]); repeat' (first | (with_reducible refine c_split (fun hb => ?_) (fun hb => ?_) <;> try simp only [go_sem, hb]) | (with_reducible refine w_split (fun hb => ?_) (fun hb => ?_) <;> try simp only [go_sem, hb]) | (with_reducible refine hQ _ _ ?_ <;> simp only [Tryz.f18, go_sem]))
    have hrow : List.map byteC (putNum bs.length) ++ List.map byteC bs ++ (ckBytes (ckN bs)).map byteC = (putNum bs.length ++ bs ++ ckBytes (ckN bs)).map byteC := by simp
    have hlen : (putNum bs.length).length + bs.length + 4 = (putNum bs.length ++ bs ++ ckBytes (ckN bs)).length := by rw [List.length_append, List.length_append]; rfl
    simp only [ckBytes, List.map_cons, List.map_nil] at hrow hlen
    simp only [byteC] at hrow
    simp only [hrow, hlen]
    rw [byteC_tk, byteC_clz]
    exact hk
end Go.Proofs.YtedkpjaojdkpcaaGreat
