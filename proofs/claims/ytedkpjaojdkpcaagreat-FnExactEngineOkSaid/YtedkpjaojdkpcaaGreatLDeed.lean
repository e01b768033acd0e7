/- DeedOk: what the program and the specification say of a deed is one Bool. Conditions: none. -/
import Derived.Test.YtedkpjaojdkpcaaGreatLG
import Derived.Test.YtedkpjaojdkpcaaGreatLT
namespace Go.Proofs.YtedkpjaojdkpcaaGreat
open Go.BL Go.RowKit
set_option linter.unusedVariables false
set_option linter.unusedSimpArgs false
set_option maxRecDepth 100000

theorem mixed : Tryz.prog.follows .mixedOrders = true := by kernel_rfl
theorem c_in (n lo hi : Int) (K : AV → AH → Prop) (hk : K (.one (.c (.bool (decide (lo ≤ n ∧ n ≤ hi))))) []) : ACalls Tryz.prog 34 [(.one (.c (.int .i64 (n)))), (.one (.c (.int .i64 (lo)))), (.one (.c (.int .i64 (hi))))] [] K := by
  refine acall_c Tryz.f34.results.toList mixed Tryz.func34 rfl rfl (by kernel_rfl) ?_
  intro Q hQ hQO
  simp only [go_sem]
  (try simp only [go_sem]); repeat' (first | (with_reducible refine c_split (fun hb => ?_) (fun hb => ?_) <;> try simp only [go_sem, hb]) | (with_reducible refine w_split (fun hb => ?_) (fun hb => ?_) <;> try simp only [go_sem, hb]) | (with_reducible refine hQ _ _ ?_ <;> simp only [Tryz.f34, go_sem]))
  all_goals (refine kB hk ?_; simp_all <;> omega)
theorem c_l1In (n lo hi : Int) (K : AV → AH → Prop) (hk : K (.one (.c (.bool (decide (lo ≤ n ∧ n ≤ hi))))) []) : ACalls Tryz.prog 30 [(.one (.c (.int .i64 (n)))), (.one (.c (.int .i64 (lo)))), (.one (.c (.int .i64 (hi))))] [] K := by
  refine acall_c Tryz.f30.results.toList mixed Tryz.func30 rfl rfl (by kernel_rfl) ?_
  intro Q hQ hQO
  simp only [go_sem]
  (try simp only [go_sem]); repeat' (first | (with_reducible refine c_split (fun hb => ?_) (fun hb => ?_) <;> try simp only [go_sem, hb]) | (with_reducible refine w_split (fun hb => ?_) (fun hb => ?_) <;> try simp only [go_sem, hb]) | (with_reducible refine hQ _ _ ?_ <;> simp only [Tryz.f30, go_sem]))
  all_goals (refine kB hk ?_; simp_all <;> omega)
def deedOk (a : Int) (s : ByteArray) (b c : Int) : Bool :=
  if 200 < (s.size : Int) ∨ ¬ (0 ≤ b ∧ b ≤ 4) ∨ ¬ (0 ≤ c ∧ c ≤ 60000) then false
  else if a = 1 then b == 0 && c == 0
  else if a = 2 ∨ a = 6 then decide (s = ⟨#[]⟩) && (b == 0 && c == 0)
  else if a = 3 then decide (s = ⟨#[]⟩) && b == 0
  else if a = 4 then b == 0
  else if a = 5 then decide (s = ⟨#[]⟩)
  else false
end Go.Proofs.YtedkpjaojdkpcaaGreat
