/- Text: the text of a number, as the program and as the specification writes it. Conditions: none. -/
import Derived.Test.YtaahlnjldenhpaaDoorLG
import Derived.Test.YtaahlnjldenhpaaDoorLT
import Derived.Test.YtaahlnjldenhpaaDoorLItoa
import Derived.Lib.ItoaLen
namespace Go.Proofs.YtaahlnjldenhpaaDoor
open Go.BL Go.RowKit
set_option linter.unusedVariables false
set_option linter.unusedSimpArgs false
set_option maxRecDepth 100000

theorem tm10 (x : Int) : (x < 0 ∧ x.tmod 10 = -((x.natAbs % 10 : Nat) : Int)) ∨ (0 ≤ x ∧ x.tmod 10 = ((x.natAbs % 10 : Nat) : Int)) := by
  by_cases h : x < 0
  · refine .inl ⟨h, ?_⟩
    have e : x = -((x.natAbs : Nat) : Int) := by omega
    rw [e, Int.neg_tmod, Int.tmod_eq_emod_of_nonneg (by omega), Int.natAbs_neg, Int.natAbs_natCast]; rfl
  · refine .inr ⟨by omega, ?_⟩
    rw [Int.tmod_eq_emod_of_nonneg (by omega)]; omega
theorem td10 (x : Int) : (x.tdiv 10).natAbs = x.natAbs / 10 ∧ (x = 0 ↔ x.natAbs = 0) := by
  refine ⟨?_, by omega⟩
  rw [Int.natAbs_tdiv]; rfl
theorem td_range {x : Int} (h0 : -9223372036854775808 ≤ x) (h1 : x ≤ 9223372036854775807) : wrap64 (x.tdiv 10) = x.tdiv 10 ∧ -9223372036854775808 ≤ x.tdiv 10 ∧ x.tdiv 10 ≤ 9223372036854775807 := by
  have := (td10 x).1
  refine ⟨wrap_id _ (by omega) (by omega), by omega, by omega⟩
theorem dig_pos {x : Int} (hb : decide (x.tmod 10 < 0) = false) : x.tmod 10 = ((x.natAbs % 10 : Nat) : Int) := by
  have := of_decide_eq_false hb
  rcases tm10 x with ⟨_, h⟩ | ⟨_, h⟩ <;> omega
theorem dig_neg {x : Int} (hb : decide (x.tmod 10 < 0) = true) : wrap64 (0 - x.tmod 10) = ((x.natAbs % 10 : Nat) : Int) := by
  have := of_decide_eq_true hb
  rcases tm10 x with ⟨_, h⟩ | ⟨_, h⟩
  · rw [wrap_id _ (by omega) (by omega)]; omega
  · omega
theorem dig_byte (m : Nat) : IntKind.u8.wrap (wrap64 (48 + ((m % 10 : Nat) : Int))) = ((48 + m % 10 : Nat) : Int) := by
  rw [wrap_id _ (by omega) (by omega)]
  have h : (m % 10) < 10 := Nat.mod_lt _ (by decide)
  generalize m % 10 = d at h
  match d, h with
  | 0, _ | 1, _ | 2, _ | 3, _ | 4, _ | 5, _ | 6, _ | 7, _ | 8, _ | 9, _ => rfl
theorem str_cons (c : Nat) (out : List UInt8) : strOf [(c : Int)] ++ bT out = bT (UInt8.ofNat c :: out) := by
  show ByteArray.append _ _ = _
  simp [strOf, bT, ByteArray.append, ByteArray.copySlice]
def tInv (n x : Int) (out : List UInt8) : Prop := if x = 0 then out = Lib.decDigits n.natAbs else Lib.decDigits x.natAbs ++ out = Lib.decDigits n.natAbs
theorem tInv_0 {n : Int} (h : n ≠ 0) : tInv n n [] := by rw [tInv, if_neg h, List.append_nil]
theorem tInv_s {n x : Int} {out : List UInt8} (hx : x ≠ 0) (h : tInv n x out) : tInv n (x.tdiv 10) (UInt8.ofNat (48 + x.natAbs % 10) :: out) := by
  rw [tInv, if_neg hx] at h
  have h2 := td10 x
  have h3 := td10 (x.tdiv 10)
  by_cases hs : x.natAbs < 10
  · rw [tInv, if_pos (by omega), ← h, Lib.decDigits_one hs, show x.natAbs % 10 = x.natAbs by omega]; rfl
  · rw [tInv, if_neg (by omega), h2.1, ← h]
    conv => rhs; rw [Lib.decDigits, dif_neg hs]
    rw [List.append_assoc]; rfl
theorem tInv_len {n x : Int} {out : List UInt8} (h0 : -9223372036854775808 ≤ n) (h1 : n ≤ 9223372036854775807) (h : tInv n x out) : out.length ≤ 21 := by
  have hl := Lib.itoa_length_le n h0 h1
  have hd : (Lib.decDigits n.natAbs).length ≤ 21 := by
    unfold Lib.itoa at hl
    split at hl
    · simp at hl; omega
    · rw [show n.natAbs = n.toNat by omega]; exact hl
  unfold tInv at h
  split at h
  · rw [h]; exact hd
  · rw [← h, List.length_append] at hd; omega
theorem t_less {x : Int} (h : x ≠ 0) : (x.tdiv 10).natAbs < x.natAbs := by
  have := td10 x
  omega
theorem bT_size (l : List UInt8) : (bT l).size = l.length := by simp [bT, ByteArray.size]
theorem strOf1_size (x : Int) : (strOf [x]).size = 1 := rfl
theorem bT_neg (out : List UInt8) : (⟨#[45]⟩ : ByteArray) ++ bT out = bT (45 :: out) := str_cons 45 out
theorem bT_zero : (⟨#[48]⟩ : ByteArray) = bT (Lib.itoa 0) := by
  rw [show (0 : Int) = ((0 : Nat) : Int) from rfl, Lib.itoa, if_neg (by omega), Int.toNat_natCast, Lib.decDigits_one (by omega)]; rfl
theorem itoa_pos {n : Int} (h : ¬ n < 0) : Lib.itoa n = Lib.decDigits n.natAbs := by rw [Lib.itoa, if_neg h, show n.toNat = n.natAbs by omega]
theorem itoa_less {n : Int} (h : n < 0) : Lib.itoa n = 45 :: Lib.decDigits n.natAbs := by rw [Lib.itoa, if_pos h]
theorem c_impl_TextOf (n : Int) (h0 : -9223372036854775808 ≤ n) (h1 : n ≤ 9223372036854775807) (K : AV → AH → Prop) (hk : K (.one (.c (.string (bT (Lib.itoa n))))) []) : ACalls Tryd.prog 8 [(.one (.c (.int .i64 (n))))] [] K := by
  refine acall_c Tryd.f8.results.toList mixed Tryd.func8 rfl rfl (by kernel_rfl) ?_
  intro Q hQ hQO
  simp only [go_sem]
  (try simp only [go_sem]); repeat' (first | (with_reducible refine c_split (fun hb => ?_) (fun hb => ?_) <;> try simp only [go_sem, hb]) | (with_reducible refine w_split (fun hb => ?_) (fun hb => ?_) <;> try simp only [go_sem, hb]) | (refine call_c (c_Itoa n h0 h1 _ ?_) <;> try simp only [go_sem]) | (with_reducible refine hQ _ _ ?_ <;> simp only [Tryd.f8, go_sem]))
  exact hk
theorem c_spec_TextOf (n : Int) (h0 : -9223372036854775808 ≤ n) (h1 : n ≤ 9223372036854775807) (K : AV → AH → Prop) (hk : K (.one (.c (.string (bT (Lib.itoa n))))) []) : ACalls Tryd.prog 7 [(.one (.c (.int .i64 (n))))] [] K := by
  have h10 : (10 : Int) ≠ 0 := by decide
  refine acall_c Tryd.f7.results.toList mixed Tryd.func7 rfl rfl (by kernel_rfl) ?_
  intro Q hQ hQO
  simp only [go_sem]
  (try simp only [go_sem]); repeat' (first | (with_reducible refine c_split (fun hb => ?_) (fun hb => ?_) <;> try simp only [go_sem, hb]) | (with_reducible refine w_split (fun hb => ?_) (fun hb => ?_) <;> try simp only [go_sem, hb]) | (fail))
  · have e0 : n = 0 := eq_of_beq hb
    subst e0
    rw [← bT_zero] at hk
    (try simp only [go_sem]); repeat' (first | (with_reducible refine c_split (fun hb => ?_) (fun hb => ?_) <;> try simp only [go_sem, hb]) | (with_reducible refine w_split (fun hb => ?_) (fun hb => ?_) <;> try simp only [go_sem, hb]) | (with_reducible refine hQ _ _ ?_ <;> simp only [Tryd.f7, go_sem]))
    exact hk
  · have hn0 : n ≠ 0 := fun q => by subst q; simp at hb
    refine while_at (α := Int × List UInt8) (fun ⟨x, out⟩ => x.natAbs) [0] (fun ⟨x, out⟩ f h => f 4 = (.one (.c (.int .i64 (x)))) ∧ f 3 = (.one (.c (.string (bT out)))) ∧ h = [] ∧ tInv n x out ∧ -9223372036854775808 ≤ x ∧ x ≤ 9223372036854775807) (n, []) (GC.now ?_) ?_
    · simp only [go_sem, nc_0, true_and]
      exact ⟨rfl, tInv_0 hn0, h0, h1⟩
    · rintro ⟨x, out⟩ f h J hA ⟨e4, e3, rfl, hP⟩ hJ
      simp only [go_sem] at hA
      try dsimp only at hJ
      simp only [go_sem, hA, e4, e3]
      obtain ⟨hI, hx0, hx1⟩ := hP
      have hol := tInv_len h0 h1 hI
      have hsz : 1 + out.length ≤ 9223372036854775807 := by omega
      have htd := td_range hx0 hx1
      have hw := htd.1
      have hby := dig_byte x.natAbs
      (try simp only [go_sem, hA, e4, e3]); repeat' (first | (with_reducible refine c_split (fun hb => ?_) (fun hb => ?_) <;> try simp only [go_sem, hb, hA, e4, e3]) | (with_reducible refine w_split (fun hb => ?_) (fun hb => ?_) <;> try simp only [go_sem, hb, hA, e4, e3]) | (fail))
      · rename_i hb1
        have hd := dig_neg hb
        have hxn : x ≠ 0 := fun q => by subst q; simp at hb1
        (try simp only [go_sem, hA, e4, e3, hd, hby, strOf1_size, bT_size, hsz, str_cons, h10, b_quo, hw]); repeat' (first | (with_reducible refine c_split (fun hb => ?_) (fun hb => ?_) <;> try simp only [go_sem, hb, hA, e4, e3, hd, hby, strOf1_size, bT_size, hsz, str_cons, h10, b_quo, hw]) | (with_reducible refine w_split (fun hb => ?_) (fun hb => ?_) <;> try simp only [go_sem, hb, hA, e4, e3, hd, hby, strOf1_size, bT_size, hsz, str_cons, h10, b_quo, hw]) | (fail))
        refine gc_trim 0 (by decide) (by simp only [go_sem]) (by simp only [go_sem, hw]) (hJ (x.tdiv 10, UInt8.ofNat (48 + x.natAbs % 10) :: out) _ _ (by exact t_less hxn) (by simp only [go_sem, hA, e4, e3]) ⟨?_, ?_, ?_, ?_⟩) <;> try simp only [go_sem, hA, e4, e3, hw]
        exact ⟨tInv_s hxn hI, htd.2⟩
      · rename_i hb1
        have hd := dig_pos hb
        have hxn : x ≠ 0 := fun q => by subst q; simp at hb1
        (try simp only [go_sem, hA, e4, e3, hd, hby, strOf1_size, bT_size, hsz, str_cons, h10, b_quo, hw]); repeat' (first | (with_reducible refine c_split (fun hb => ?_) (fun hb => ?_) <;> try simp only [go_sem, hb, hA, e4, e3, hd, hby, strOf1_size, bT_size, hsz, str_cons, h10, b_quo, hw]) | (with_reducible refine w_split (fun hb => ?_) (fun hb => ?_) <;> try simp only [go_sem, hb, hA, e4, e3, hd, hby, strOf1_size, bT_size, hsz, str_cons, h10, b_quo, hw]) | (fail))
        refine gc_trim 0 (by decide) (by simp only [go_sem]) (by simp only [go_sem, hw]) (hJ (x.tdiv 10, UInt8.ofNat (48 + x.natAbs % 10) :: out) _ _ (by exact t_less hxn) (by simp only [go_sem, hA, e4, e3]) ⟨?_, ?_, ?_, ?_⟩) <;> try simp only [go_sem, hA, e4, e3, hw]
        exact ⟨tInv_s hxn hI, htd.2⟩
      · rename_i hb1
        have hx : x = 0 := by simpa using hb1
        have hx2 : out = Lib.decDigits n.natAbs := by rw [tInv, if_pos hx] at hI; exact hI
        rw [itoa_less (of_decide_eq_true hb), ← hx2] at hk
        have h45 : (⟨#[45]⟩ : ByteArray).size = 1 := rfl
        (try simp only [go_sem, hA, e4, e3, h45, bT_size, hsz, bT_neg]); repeat' (first | (with_reducible refine c_split (fun hb => ?_) (fun hb => ?_) <;> try simp only [go_sem, hb, hA, e4, e3, h45, bT_size, hsz, bT_neg]) | (with_reducible refine w_split (fun hb => ?_) (fun hb => ?_) <;> try simp only [go_sem, hb, hA, e4, e3, h45, bT_size, hsz, bT_neg]) | (with_reducible refine hQ _ _ ?_ <;> simp only [Tryd.f7, go_sem, hA, e4, e3, h45, bT_size, hsz, bT_neg]))
        exact hk
      · rename_i hb1
        have hx : x = 0 := by simpa using hb1
        have hx2 : out = Lib.decDigits n.natAbs := by rw [tInv, if_pos hx] at hI; exact hI
        rw [itoa_pos (of_decide_eq_false hb), ← hx2] at hk
        (try simp only [go_sem, hA, e4, e3]); repeat' (first | (with_reducible refine c_split (fun hb => ?_) (fun hb => ?_) <;> try simp only [go_sem, hb, hA, e4, e3]) | (with_reducible refine w_split (fun hb => ?_) (fun hb => ?_) <;> try simp only [go_sem, hb, hA, e4, e3]) | (with_reducible refine hQ _ _ ?_ <;> simp only [Tryd.f7, go_sem, hA, e4, e3]))
        exact hk
theorem c_FnExactTextOf (n : Int) (h0 : -9223372036854775808 ≤ n) (h1 : n ≤ 9223372036854775807) (K : AV → AH → Prop) (hk : K (.one (.c (.bool (true)))) []) : ACalls Tryd.prog 3 [(.one (.c (.int .i64 (n))))] [] K := by
  refine acall_c Tryd.f3.results.toList mixed Tryd.func3 rfl rfl (by kernel_rfl) ?_
  intro Q hQ hQO
  simp only [go_sem]
  (try simp only [go_sem, decide_true]); repeat' (first | (with_reducible refine c_split (fun hb => ?_) (fun hb => ?_) <;> try simp only [go_sem, hb, decide_true]) | (with_reducible refine w_split (fun hb => ?_) (fun hb => ?_) <;> try simp only [go_sem, hb, decide_true]) | (refine call_c (c_spec_TextOf n h0 h1 _ ?_) <;> try simp only [go_sem, decide_true]) | (refine call_c (c_impl_TextOf n h0 h1 _ ?_) <;> try simp only [go_sem, decide_true]) | (with_reducible refine hQ _ _ ?_ <;> simp only [Tryd.f3, go_sem, decide_true]))
  exact hk
end Go.Proofs.YtaahlnjldenhpaaDoor
