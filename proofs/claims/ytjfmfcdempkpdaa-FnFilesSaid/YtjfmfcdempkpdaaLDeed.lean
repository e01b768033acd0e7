/- DeedOk: what the program and the specification say of a deed is one Bool. Conditions: none. -/
import Derived.Test.YtjfmfcdempkpdaaLG
import Derived.Test.YtjfmfcdempkpdaaLT
namespace Go.Proofs.Ytjfmfcdempkpdaa
open Go.BL Go.RowKit
set_option linter.unusedVariables false
set_option linter.unusedSimpArgs false
set_option maxRecDepth 100000
theorem mixed : Try.prog.follows .mixedOrders = true := by kernel_rfl
theorem c_in (n lo hi : Int) (K : AV → AH → Prop) (hk : K (.one (.c (.bool (decide (lo ≤ n ∧ n ≤ hi))))) []) : ACalls Try.prog 55 [(.one (.c (.int .i64 (n)))), (.one (.c (.int .i64 (lo)))), (.one (.c (.int .i64 (hi))))] [] K := by
  refine acall_c Try.f55.results.toList mixed Try.func55 rfl rfl (by kernel_rfl) ?_
  intro Q hQ hQO
  simp only [go_sem]
  (try simp only [go_sem]); repeat' (first | (with_reducible refine c_split (fun hb => ?_) (fun hb => ?_) <;> try simp only [go_sem, hb]) | (with_reducible refine w_split (fun hb => ?_) (fun hb => ?_) <;> try simp only [go_sem, hb]) | (with_reducible refine hQ _ _ ?_ <;> simp only [Try.f55, go_sem]))
  all_goals (refine kB hk ?_; simp_all <;> omega)
theorem c_l1In (n lo hi : Int) (K : AV → AH → Prop) (hk : K (.one (.c (.bool (decide (lo ≤ n ∧ n ≤ hi))))) []) : ACalls Try.prog 54 [(.one (.c (.int .i64 (n)))), (.one (.c (.int .i64 (lo)))), (.one (.c (.int .i64 (hi))))] [] K := by
  refine acall_c Try.f54.results.toList mixed Try.func54 rfl rfl (by kernel_rfl) ?_
  intro Q hQ hQO
  simp only [go_sem]
  (try simp only [go_sem]); repeat' (first | (with_reducible refine c_split (fun hb => ?_) (fun hb => ?_) <;> try simp only [go_sem, hb]) | (with_reducible refine w_split (fun hb => ?_) (fun hb => ?_) <;> try simp only [go_sem, hb]) | (with_reducible refine hQ _ _ ?_ <;> simp only [Try.f54, go_sem]))
  all_goals (refine kB hk ?_; simp_all <;> omega)
theorem c_toDeed (a b c : Int) (s : ByteArray) (K : AV → AH → Prop) (hk : K (.agg [.c (.int .i64 (a)), .c (.string (s)), .c (.int .i64 (b)), .c (.int .i64 (c))]) []) : ACalls Try.prog 14 [.agg [.c (.int .i64 (a)), .c (.string (s)), .c (.int .i64 (b)), .c (.int .i64 (c))]] [] K := by
  refine acall_c Try.f14.results.toList mixed Try.func14 rfl rfl (by kernel_rfl) ?_
  intro Q hQ hQO
  simp only [go_sem]
  (try simp only [go_sem]); repeat' (first | (with_reducible refine c_split (fun hb => ?_) (fun hb => ?_) <;> try simp only [go_sem, hb]) | (with_reducible refine w_split (fun hb => ?_) (fun hb => ?_) <;> try simp only [go_sem, hb]) | (with_reducible refine hQ _ _ ?_ <;> simp only [Try.f14, go_sem]))
  exact hk
def deedOk (a : Int) (s : ByteArray) (b c : Int) : Bool :=
  if 200 < (s.size : Int) ∨ ¬ (0 ≤ b ∧ b ≤ 4) ∨ ¬ (0 ≤ c ∧ c ≤ 60000) then false
  else if a = 1 then b == 0 && c == 0
  else if a = 2 ∨ a = 6 then decide (s = ⟨#[]⟩) && (b == 0 && c == 0)
  else if a = 3 then decide (s = ⟨#[]⟩) && b == 0
  else if a = 4 then b == 0
  else if a = 5 then decide (s = ⟨#[]⟩)
  else false
theorem c_impl_DeedOk (a b c : Int) (s : ByteArray) (K : AV → AH → Prop) (hk : K (.one (.c (.bool (deedOk a s b c)))) []) : ACalls Try.prog 15 [.agg [.c (.int .i64 (a)), .c (.string (s)), .c (.int .i64 (b)), .c (.int .i64 (c))]] [] K := by
  refine acall_c Try.f15.results.toList mixed Try.func15 rfl rfl (by kernel_rfl) ?_
  intro Q hQ hQO
  simp only [go_sem]
  (try simp only [go_sem]); repeat' (first | (with_reducible refine c_split (fun hb => ?_) (fun hb => ?_) <;> try simp only [go_sem, hb]) | (with_reducible refine w_split (fun hb => ?_) (fun hb => ?_) <;> try simp only [go_sem, hb]) | (refine call_c (c_in _ _ _ _ ?_) <;> try simp only [go_sem]) | (with_reducible refine hQ _ _ ?_ <;> simp only [Try.f15, go_sem]))
  all_goals (refine kB hk ?_; have hz : s = ⟨#[]⟩ → s.size = 0 := (fun e => by rw [e]; rfl); simp only [deedOk]; simp_all; try grind)
theorem c_spec_DeedOk (a b c : Int) (s : ByteArray) (K : AV → AH → Prop) (hk : K (.one (.c (.bool (deedOk a s b c)))) []) : ACalls Try.prog 13 [.agg [.c (.int .i64 (a)), .c (.string (s)), .c (.int .i64 (b)), .c (.int .i64 (c))]] [] K := by
  refine acall_c Try.f13.results.toList mixed Try.func13 rfl rfl (by kernel_rfl) ?_
  intro Q hQ hQO
  simp only [go_sem]
  (try simp only [go_sem]); repeat' (first | (with_reducible refine c_split (fun hb => ?_) (fun hb => ?_) <;> try simp only [go_sem, hb]) | (with_reducible refine w_split (fun hb => ?_) (fun hb => ?_) <;> try simp only [go_sem, hb]) | (refine call_c (c_l1In _ _ _ _ ?_) <;> try simp only [go_sem]) | (with_reducible refine hQ _ _ ?_ <;> simp only [Try.f13, go_sem]))
  all_goals (refine kB hk ?_; have hz : s = ⟨#[]⟩ → s.size = 0 := (fun e => by rw [e]; rfl); simp only [deedOk]; simp_all; try grind)
end Go.Proofs.Ytjfmfcdempkpdaa
