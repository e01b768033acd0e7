/- Cmd: commands: their arguments' number, whether they are right, their line. Conditions: none. -/
import Derived.Test.YtaahlnjldenhpaaDoorLG
import Derived.Test.YtaahlnjldenhpaaDoorLT
import Derived.Test.YtaahlnjldenhpaaDoorLText
import Derived.Test.YtaahlnjldenhpaaDoorLRows
import Derived.Test.YtaahlnjldenhpaaDoorLFind
namespace Go.Proofs.YtaahlnjldenhpaaDoor
open Go.BL Go.RowKit
set_option linter.unusedVariables false
set_option linter.unusedSimpArgs false
set_option maxRecDepth 100000
attribute [local go_sem] intC strC
structure Cmd where
  kind : Int
  args : List Int
def cmdC (c : Cmd) : List CV := [.c (.int .i64 (c.kind)), .im (c.args.map intC)]
def cmdN (k : Int) : Int := if 1 ≤ k ∧ k ≤ 11 then (([0, 2, 2, 5, 5, 7, 1, 2, 3, 7, 4, 4] : List Int)[k.toNat]?).getD 0 else -1
def cmdWs : List ByteArray := [⟨#[]⟩, ⟨#[97, 99, 99, 111, 117, 110, 116]⟩, ⟨#[105, 110, 115, 116, 114]⟩, ⟨#[105, 115, 115, 117, 101]⟩, ⟨#[109, 111, 118, 101]⟩, ⟨#[116, 114, 97, 100, 101]⟩, ⟨#[99, 97, 110, 99, 101, 108]⟩, ⟨#[115, 101, 116, 116, 108, 101]⟩, ⟨#[110, 101, 116]⟩, ⟨#[102, 120]⟩, ⟨#[115, 112, 108, 105, 116]⟩, ⟨#[112, 97, 121]⟩]
def cmdW (k : Int) : ByteArray := (cmdWs[k.toNat]?).getD ⟨#[]⟩
theorem kinds {k : Int} (h : 1 ≤ k ∧ k ≤ 11) : k = 1 ∨ k = 2 ∨ k = 3 ∨ k = 4 ∨ k = 5 ∨ k = 6 ∨ k = 7 ∨ k = 8 ∨ k = 9 ∨ k = 10 ∨ k = 11 := by omega
theorem cmdN_no {k : Int} (h : ¬ (1 ≤ k ∧ k ≤ 11)) : cmdN k = -1 := by rw [cmdN, if_neg h]
theorem cmdN_yes {k : Int} (h : 1 ≤ k ∧ k ≤ 11) : 1 ≤ cmdN k ∧ cmdN k ≤ 7 := by
  rcases kinds h with rfl | rfl | rfl | rfl | rfl | rfl | rfl | rfl | rfl | rfl | rfl <;> decide
theorem kind_ne {k : Int} (h : ¬ (1 ≤ k ∧ k ≤ 11)) : (k == 1) = false ∧ (k == 2) = false ∧ (k == 3) = false ∧ (k == 4) = false ∧ (k == 5) = false ∧ (k == 6) = false ∧ (k == 7) = false ∧ (k == 8) = false ∧ (k == 9) = false ∧ (k == 10) = false ∧ (k == 11) = false := by
  refine ⟨?_, ?_, ?_, ?_, ?_, ?_, ?_, ?_, ?_, ?_, ?_⟩ <;> exact beq_false_of_ne (by omega)
theorem c_spec_CmdArgs (k : Int) (K : AV → AH → Prop) (hk : K (.one (.c (.int .i64 (cmdN k)))) []) : ACalls Tryd.prog 35 [(.one (.c (.int .i64 (k))))] [] K := by
  by_cases h : 1 ≤ k ∧ k ≤ 11
  · have hd := decide_eq_true h
    rcases kinds h with rfl | rfl | rfl | rfl | rfl | rfl | rfl | rfl | rfl | rfl | rfl <;>
    · refine acall_c Tryd.f35.results.toList mixed Tryd.func35 rfl rfl (by kernel_rfl) ?_
      intro Q hQ hQO
      simp only [go_sem]
      (try simp only [go_sem, hd]); repeat' (first | (with_reducible refine c_split (fun hb => ?_) (fun hb => ?_) <;> try simp only [go_sem, hb, hd]) | (with_reducible refine w_split (fun hb => ?_) (fun hb => ?_) <;> try simp only [go_sem, hb, hd]) | (refine call_c (c_l1In _ _ _ _ ?_) <;> try simp only [go_sem, hd]) | (fail))
      refine ⟨by decide, by decide, ?_⟩
      (try simp only [go_sem, Int.reduceToNat]); repeat' (first | (with_reducible refine c_split (fun hb => ?_) (fun hb => ?_) <;> try simp only [go_sem, hb, Int.reduceToNat]) | (with_reducible refine w_split (fun hb => ?_) (fun hb => ?_) <;> try simp only [go_sem, hb, Int.reduceToNat]) | (with_reducible refine hQ _ _ ?_ <;> simp only [Tryd.f35, go_sem, Int.reduceToNat]))
      exact hk
  · have hd := decide_eq_false h
    rw [cmdN_no h] at hk
    refine acall_c Tryd.f35.results.toList mixed Tryd.func35 rfl rfl (by kernel_rfl) ?_
    intro Q hQ hQO
    simp only [go_sem]
    (try simp only [go_sem, hd]); repeat' (first | (with_reducible refine c_split (fun hb => ?_) (fun hb => ?_) <;> try simp only [go_sem, hb, hd]) | (with_reducible refine w_split (fun hb => ?_) (fun hb => ?_) <;> try simp only [go_sem, hb, hd]) | (refine call_c (c_l1In _ _ _ _ ?_) <;> try simp only [go_sem, hd]) | (with_reducible refine hQ _ _ ?_ <;> simp only [Tryd.f35, go_sem, hd]))
    exact hk
theorem c_impl_CmdArgs (k : Int) (K : AV → AH → Prop) (hk : K (.one (.c (.int .i64 (cmdN k)))) []) : ACalls Tryd.prog 37 [(.one (.c (.int .i64 (k))))] [] K := by
  by_cases h : 1 ≤ k ∧ k ≤ 11
  · rcases kinds h with rfl | rfl | rfl | rfl | rfl | rfl | rfl | rfl | rfl | rfl | rfl <;>
    · refine acall_c Tryd.f37.results.toList mixed Tryd.func37 rfl rfl (by kernel_rfl) ?_
      intro Q hQ hQO
      simp only [go_sem]
      (try simp only [go_sem]); repeat' (first | (with_reducible refine c_split (fun hb => ?_) (fun hb => ?_) <;> try simp only [go_sem, hb]) | (with_reducible refine w_split (fun hb => ?_) (fun hb => ?_) <;> try simp only [go_sem, hb]) | (with_reducible refine hQ _ _ ?_ <;> simp only [Tryd.f37, go_sem]))
      exact hk
  · obtain ⟨d1, d2, d3, d4, d5, d6, d7, d8, d9, d10, d11⟩ := kind_ne h
    rw [cmdN_no h] at hk
    refine acall_c Tryd.f37.results.toList mixed Tryd.func37 rfl rfl (by kernel_rfl) ?_
    intro Q hQ hQO
    simp only [go_sem]
    (try simp only [go_sem, d1, d2, d3, d4, d5, d6, d7, d8, d9, d10, d11]); repeat' (first | (with_reducible refine c_split (fun hb => ?_) (fun hb => ?_) <;> try simp only [go_sem, hb, d1, d2, d3, d4, d5, d6, d7, d8, d9, d10, d11]) | (with_reducible refine w_split (fun hb => ?_) (fun hb => ?_) <;> try simp only [go_sem, hb, d1, d2, d3, d4, d5, d6, d7, d8, d9, d10, d11]) | (with_reducible refine hQ _ _ ?_ <;> simp only [Tryd.f37, go_sem, d1, d2, d3, d4, d5, d6, d7, d8, d9, d10, d11]))
    exact hk
def badA (n : Int) : Bool := !decide (0 ≤ n ∧ n ≤ 1000000000000000)
theorem c_CmdOk1 (n : Int) (K : AV → AH → Prop) (hk : K (.one (.c (.bool (badA n)))) []) : ACalls Tryd.prog 39 [(.one (.c (.int .i64 (n))))] [] K := by
  refine acall_c Tryd.f39.results.toList mixed Tryd.func39 rfl rfl (by kernel_rfl) ?_
  intro Q hQ hQO
  simp only [go_sem]
  (try simp only [go_sem]); repeat' (first | (with_reducible refine c_split (fun hb => ?_) (fun hb => ?_) <;> try simp only [go_sem, hb]) | (with_reducible refine w_split (fun hb => ?_) (fun hb => ?_) <;> try simp only [go_sem, hb]) | (refine call_c (c_in _ _ _ _ ?_) <;> try simp only [go_sem]) | (with_reducible refine hQ _ _ ?_ <;> simp only [Tryd.f39, go_sem]))
  exact hk
theorem c_IndexBad (xs : List Int) (hn : xs.length ≤ 1000000000) (K : AV → AH → Prop) (hk : K (.one (.c (.int .i64 (findG badA xs)))) []) : ACalls Tryd.prog 46 [(.one (.im (xs.map intC))), .one (.clo 39 [])] [] K := by
  refine acall_c Tryd.f46.results.toList mixed Tryd.func46 rfl rfl (by kernel_rfl) ?_
  intro Q hQ hQO
  simp only [go_sem]
  refine for_at (xs.length) [0, 1, 7] (fun i f h => f 8 = (.one (.c (.int .i64 (i)))) ∧ h = [] ∧ noneTo badA xs i) (GC.now ?_) ?_
  · simp only [go_sem, nc_0, true_and]
    exact noneTo_0 _ _
  · rintro i f h J hi hA ⟨e8, rfl, hP⟩ hJ
    simp only [go_sem] at hA
    simp only [go_sem, hA, e8]
    refine c_split (fun hb => ?_) (fun hb => ?_)
    rotate_left
    · simp only [go_sem, hb, hA, e8]
      obtain rfl := ge_len hb hi
      (try simp only [go_sem, hA, e8]); repeat' (first | (with_reducible refine c_split (fun hb => ?_) (fun hb => ?_) <;> try simp only [go_sem, hb, hA, e8]) | (with_reducible refine w_split (fun hb => ?_) (fun hb => ?_) <;> try simp only [go_sem, hb, hA, e8]) | (with_reducible refine hQ _ _ ?_ <;> simp only [Tryd.f46, go_sem, hA, e8]))
      rw [findG_no hP] at hk
      exact hk
    have hi := lt_len hb
    have hw := wrap_nat i (by omega)
    have hil : (i : Int) < ((xs.length : Nat) : Int) := Int.ofNat_lt.2 hi
    have hg0 : (xs)[i]? = some ((xs)[i]) := List.getElem?_eq_getElem (by omega)
    simp only [go_sem, hb, hA, e8, hg0]
    try simp only [go_sem, hA, e8, hil, hg0]
    (try simp only [go_sem, hA, e8, hil, hg0]); repeat' (first | (with_reducible refine c_split (fun hb => ?_) (fun hb => ?_) <;> try simp only [go_sem, hb, hA, e8, hil, hg0]) | (with_reducible refine w_split (fun hb => ?_) (fun hb => ?_) <;> try simp only [go_sem, hb, hA, e8, hil, hg0]) | (refine call_c (c_CmdOk1 _ _ ?_) <;> try simp only [go_sem, hA, e8, hil, hg0]) | (with_reducible refine hQ _ _ ?_ <;> simp only [Tryd.f46, go_sem, hA, e8, hil, hg0]))
    · rw [findG_of hP hi hb] at hk
      exact hk
    · refine GC.now (hJ _ _ hi (by simp only [go_sem, hA, e8]) ⟨?_, ?_, ?_⟩) <;> try simp only [go_sem, hA, e8, hw]
      exact noneTo_s hP hi hb
theorem c_ContainsBad (xs : List Int) (hn : xs.length ≤ 1000000000) (K : AV → AH → Prop) (hk : K (.one (.c (.bool (decide (0 ≤ findG badA xs))))) []) : ACalls Tryd.prog 38 [(.one (.im (xs.map intC))), .one (.clo 39 [])] [] K := by
  refine acall_c Tryd.f38.results.toList mixed Tryd.func38 rfl rfl (by kernel_rfl) ?_
  intro Q hQ hQO
  simp only [go_sem]
  (try simp only [go_sem]); repeat' (first | (with_reducible refine c_split (fun hb => ?_) (fun hb => ?_) <;> try simp only [go_sem, hb]) | (with_reducible refine w_split (fun hb => ?_) (fun hb => ?_) <;> try simp only [go_sem, hb]) | (refine call_c (c_IndexBad _ hn _ ?_) <;> try simp only [go_sem]) | (with_reducible refine hQ _ _ ?_ <;> simp only [Tryd.f38, go_sem]))
  exact hk
def cmdOk (c : Cmd) : Bool := decide ((c.args.length : Int) = cmdN c.kind) && !decide (0 ≤ findG badA c.args)
theorem cmd_len {c : Cmd} (h : (c.args.length : Int) = cmdN c.kind) : (1 ≤ c.kind ∧ c.kind ≤ 11) ∧ c.args.length ≤ 7 := by
  by_cases hk : 1 ≤ c.kind ∧ c.kind ≤ 11
  · have := cmdN_yes hk; exact ⟨hk, by omega⟩
  · rw [cmdN_no hk] at h; omega
theorem c_impl_CmdOk (c : Cmd) (hn : c.args.length ≤ 1000000000) (K : AV → AH → Prop) (hk : K (.one (.c (.bool (cmdOk c)))) []) : ACalls Tryd.prog 24 [.agg (cmdC c)] [] K := by
  refine acall_c Tryd.f24.results.toList mixed Tryd.func24 rfl rfl (by kernel_rfl) ?_
  intro Q hQ hQO
  simp only [go_sem, cmdC]
  (try simp only [go_sem, cmdC]); repeat' (first | (with_reducible refine c_split (fun hb => ?_) (fun hb => ?_) <;> try simp only [go_sem, hb, cmdC]) | (with_reducible refine w_split (fun hb => ?_) (fun hb => ?_) <;> try simp only [go_sem, hb, cmdC]) | (with_reducible refine tw_split (fun hb => ?_) (fun hb => ?_) <;> try simp only [go_sem, hb, cmdC]) | (with_reducible refine draw_at 0 3 (by with_unfolding_all rfl) [(0, true, true), (1, true, true), (2, true, true), (3, false, false), (4, false, false), (5, false, false), (6, false, false), (7, false, false), (8, false, false), (9, false, false), (10, false, false), (11, false, false), (12, false, false), (13, false, true)] (by kernel_rfl) ?_ <;> try simp only [go_sem, cmdC]) | (refine call_c (c_impl_CmdArgs c.kind _ ?_) <;> try simp only [go_sem, cmdC]) | (refine call_c (c_ContainsBad c.args hn _ ?_) <;> try simp only [go_sem, cmdC]) | (with_reducible refine hQ _ _ ?_ <;> simp only [Tryd.f24, go_sem, cmdC]))
  · rw [cmdOk, decide_eq_true (eq_of_beq hb), Bool.true_and] at hk
    exact hk
  · rw [cmdOk, decide_eq_false (fun q => by rw [q] at hb; simp at hb), Bool.false_and] at hk
    exact hk
theorem c_l1Some (n lo : Int) (K : AV → AH → Prop) (hk : K (.one (.c (.bool (decide (lo ≤ n ∧ n ≤ 1000000000000000))))) []) : ACalls Tryd.prog 36 [(.one (.c (.int .i64 (n)))), (.one (.c (.int .i64 (lo))))] [] K := by
  refine acall_c Tryd.f36.results.toList mixed Tryd.func36 rfl rfl (by kernel_rfl) ?_
  intro Q hQ hQO
  simp only [go_sem]
  (try simp only [go_sem]); repeat' (first | (with_reducible refine c_split (fun hb => ?_) (fun hb => ?_) <;> try simp only [go_sem, hb]) | (with_reducible refine w_split (fun hb => ?_) (fun hb => ?_) <;> try simp only [go_sem, hb]) | (refine call_c (c_l1In _ _ _ _ ?_) <;> try simp only [go_sem]) | (with_reducible refine hQ _ _ ?_ <;> simp only [Tryd.f36, go_sem]))
  exact hk
theorem c_spec_CmdOk (c : Cmd) (hn : c.args.length ≤ 1000000000) (K : AV → AH → Prop) (hk : K (.one (.c (.bool (cmdOk c)))) []) : ACalls Tryd.prog 21 [.agg (cmdC c)] [] K := by
  refine acall_c Tryd.f21.results.toList mixed Tryd.func21 rfl rfl (by kernel_rfl) ?_
  intro Q hQ hQO
  simp only [go_sem, cmdC]
  (try simp only [go_sem, cmdC]); repeat' (first | (with_reducible refine c_split (fun hb => ?_) (fun hb => ?_) <;> try simp only [go_sem, hb, cmdC]) | (with_reducible refine w_split (fun hb => ?_) (fun hb => ?_) <;> try simp only [go_sem, hb, cmdC]) | (with_reducible refine tw_split (fun hb => ?_) (fun hb => ?_) <;> try simp only [go_sem, hb, cmdC]) | (with_reducible refine draw_at 0 4 (by with_unfolding_all rfl) [(0, false, true), (1, false, true), (2, false, true), (3, false, true), (4, false, true), (5, true, true), (6, true, true), (7, true, true), (8, false, false), (9, false, false), (10, false, false), (11, false, false), (12, false, false)] (by kernel_rfl) ?_ <;> try simp only [go_sem, cmdC]) | (refine call_c (c_spec_CmdArgs c.kind _ ?_) <;> try simp only [go_sem, cmdC]) | (fail))
  · rw [cmdOk, decide_eq_false (fun q => by have := of_decide_eq_true hb; omega), Bool.false_and] at hk
    (try simp only [go_sem]); repeat' (first | (with_reducible refine c_split (fun hb => ?_) (fun hb => ?_) <;> try simp only [go_sem, hb]) | (with_reducible refine w_split (fun hb => ?_) (fun hb => ?_) <;> try simp only [go_sem, hb]) | (with_reducible refine tw_split (fun hb => ?_) (fun hb => ?_) <;> try simp only [go_sem, hb]) | (with_reducible refine draw_at 0 4 (by with_unfolding_all rfl) [(0, false, true), (1, false, true), (2, false, true), (3, false, true), (4, false, true), (5, true, true), (6, true, true), (7, true, true), (8, false, false), (9, false, false), (10, false, false), (11, false, false), (12, false, false)] (by kernel_rfl) ?_ <;> try simp only [go_sem]) | (with_reducible refine hQ _ _ ?_ <;> simp only [Tryd.f21, go_sem]))
    exact hk
  · rw [cmdOk, decide_eq_false (fun q => by rw [q] at hb; simp at hb), Bool.false_and] at hk
    (try simp only [go_sem]); repeat' (first | (with_reducible refine c_split (fun hb => ?_) (fun hb => ?_) <;> try simp only [go_sem, hb]) | (with_reducible refine w_split (fun hb => ?_) (fun hb => ?_) <;> try simp only [go_sem, hb]) | (with_reducible refine tw_split (fun hb => ?_) (fun hb => ?_) <;> try simp only [go_sem, hb]) | (with_reducible refine draw_at 0 4 (by with_unfolding_all rfl) [(0, false, true), (1, false, true), (2, false, true), (3, false, true), (4, false, true), (5, true, true), (6, true, true), (7, true, true), (8, false, false), (9, false, false), (10, false, false), (11, false, false), (12, false, false)] (by kernel_rfl) ?_ <;> try simp only [go_sem]) | (with_reducible refine hQ _ _ ?_ <;> simp only [Tryd.f21, go_sem]))
    exact hk
  · have hl : (c.args.length : Int) = cmdN c.kind := by simpa using hb
    rw [cmdOk, decide_eq_true hl, Bool.true_and] at hk
    refine for_at (c.args.length) [1] (fun i f h => f 3 = (.one (.c (.int .i64 (i)))) ∧ h = [.own 0 30 2 (some 1) [cmdC c]] ∧ noneTo badA c.args i) (GC.now ?_) ?_
    · simp only [go_sem, nc_0, true_and, cmdC]
      exact noneTo_0 _ _
    · rintro i f h J hi hA ⟨e3, rfl, hP⟩ hJ
      simp only [go_sem, cmdC] at hA
      simp only [go_sem, hA, e3, cmdC]
      refine c_split (fun hb => ?_) (fun hb => ?_)
      rotate_left
      · simp only [go_sem, hb, hA, e3, cmdC]
        obtain rfl := ge_len hb hi
        (try simp only [go_sem, hA, e3, cmdC]); repeat' (first | (with_reducible refine c_split (fun hb => ?_) (fun hb => ?_) <;> try simp only [go_sem, hb, hA, e3, cmdC]) | (with_reducible refine w_split (fun hb => ?_) (fun hb => ?_) <;> try simp only [go_sem, hb, hA, e3, cmdC]) | (with_reducible refine tw_split (fun hb => ?_) (fun hb => ?_) <;> try simp only [go_sem, hb, hA, e3, cmdC]) | (with_reducible refine draw_at 0 4 (by with_unfolding_all rfl) [(0, false, true), (1, false, true), (2, false, true), (3, false, true), (4, false, true), (5, true, true), (6, true, true), (7, true, true), (8, false, false), (9, false, false), (10, false, false), (11, false, false), (12, false, false)] (by kernel_rfl) ?_ <;> try simp only [go_sem, hA, e3, cmdC]) | (with_reducible refine hQ _ _ ?_ <;> simp only [Tryd.f21, go_sem, hA, e3, cmdC]))
        rw [findG_no hP] at hk
        exact hk
      have hi := lt_len hb
      have hw := wrap_nat i (by omega)
      have hil : (i : Int) < ((c.args.length : Nat) : Int) := Int.ofNat_lt.2 hi
      have hg0 : (c.args)[i]? = some ((c.args)[i]) := List.getElem?_eq_getElem (by omega)
      simp only [go_sem, hb, hA, e3, cmdC, hg0]
      try simp only [go_sem, hA, e3, cmdC, hil, hg0]
      (try simp only [go_sem, hA, e3, cmdC, hil, hg0]); repeat' (first | (with_reducible refine c_split (fun hb => ?_) (fun hb => ?_) <;> try simp only [go_sem, hb, hA, e3, cmdC, hil, hg0]) | (with_reducible refine w_split (fun hb => ?_) (fun hb => ?_) <;> try simp only [go_sem, hb, hA, e3, cmdC, hil, hg0]) | (with_reducible refine tw_split (fun hb => ?_) (fun hb => ?_) <;> try simp only [go_sem, hb, hA, e3, cmdC, hil, hg0]) | (with_reducible refine draw_at 0 4 (by with_unfolding_all rfl) [(0, false, true), (1, false, true), (2, false, true), (3, false, true), (4, false, true), (5, true, true), (6, true, true), (7, true, true), (8, false, false), (9, false, false), (10, false, false), (11, false, false), (12, false, false)] (by kernel_rfl) ?_ <;> try simp only [go_sem, hA, e3, cmdC, hil, hg0]) | (refine call_c (c_l1Some _ _ _ ?_) <;> try simp only [go_sem, hA, e3, cmdC, hil, hg0]) | (with_reducible refine hQ _ _ ?_ <;> simp only [Tryd.f21, go_sem, hA, e3, cmdC, hil, hg0]))
      · rw [findG_of hP hi (show badA c.args[i] = true from hb)] at hk
        rw [decide_eq_true (by omega)] at hk
        exact hk
      · refine GC.now (hJ _ _ hi (by simp only [go_sem, hA, e3, cmdC]) ⟨?_, ?_, ?_⟩) <;> try simp only [go_sem, hA, e3, cmdC, hw]
        exact noneTo_s hP hi hb
theorem c_cmdWords (K : AV → AH → Prop) (hk : K (.one (.im (cmdWs.map strC))) []) : ACalls Tryd.prog 25 [] [] K := by
  refine acall_c Tryd.f25.results.toList mixed Tryd.func25 rfl rfl (by kernel_rfl) ?_
  intro Q hQ hQO
  simp only [go_sem]
  (try simp only [go_sem]); repeat' (first | (with_reducible refine c_split (fun hb => ?_) (fun hb => ?_) <;> try simp only [go_sem, hb]) | (with_reducible refine w_split (fun hb => ?_) (fun hb => ?_) <;> try simp only [go_sem, hb]) | (with_reducible refine hQ _ _ ?_ <;> simp only [Tryd.f25, go_sem]))
  exact hk
theorem c_l20Name (k : Int) (h : 1 ≤ k ∧ k ≤ 11) (K : AV → AH → Prop) (hk : K (.one (.c (.string (cmdW k)))) []) : ACalls Tryd.prog 22 [(.one (.c (.int .i64 (k))))] [] K := by
  have hn := cmdN_yes h
  have hd : decide (cmdN k < 0) = false := decide_eq_false (by omega)
  rcases kinds h with rfl | rfl | rfl | rfl | rfl | rfl | rfl | rfl | rfl | rfl | rfl <;>
  · refine acall_c Tryd.f22.results.toList mixed Tryd.func22 rfl rfl (by kernel_rfl) ?_
    intro Q hQ hQO
    simp only [go_sem]
    (try simp only [go_sem, hd]); repeat' (first | (with_reducible refine c_split (fun hb => ?_) (fun hb => ?_) <;> try simp only [go_sem, hb, hd]) | (with_reducible refine w_split (fun hb => ?_) (fun hb => ?_) <;> try simp only [go_sem, hb, hd]) | (refine call_c (c_spec_CmdArgs _ _ ?_) <;> try simp only [go_sem, hd]) | (fail))
    refine ⟨by decide, by decide, ?_⟩
    (try simp only [go_sem, Int.reduceToNat]); repeat' (first | (with_reducible refine c_split (fun hb => ?_) (fun hb => ?_) <;> try simp only [go_sem, hb, Int.reduceToNat]) | (with_reducible refine w_split (fun hb => ?_) (fun hb => ?_) <;> try simp only [go_sem, hb, Int.reduceToNat]) | (with_reducible refine hQ _ _ ?_ <;> simp only [Tryd.f22, go_sem, Int.reduceToNat]))
    exact hk
theorem cmdW_get {k : Int} (h : 1 ≤ k ∧ k ≤ 11) : cmdWs[k.toNat]? = some (cmdW k) := by
  rcases kinds h with rfl | rfl | rfl | rfl | rfl | rfl | rfl | rfl | rfl | rfl | rfl <;> rfl
def spT : ByteArray := ⟨#[32]⟩
def lineTo (w : ByteArray) (xs : List Int) : Nat → ByteArray
  | 0 => w
  | i + 1 => match xs[i]? with | some n => lineTo w xs i ++ (spT ++ bT (Lib.itoa n)) | none => lineTo w xs i
theorem lineTo_s (w : ByteArray) (xs : List Int) (i : Nat) (hi : i < xs.length) : lineTo w xs (i + 1) = lineTo w xs i ++ (spT ++ bT (Lib.itoa xs[i])) := by simp [lineTo, hi]
theorem cmd_arg {c : Cmd} (h : cmdOk c = true) {i : Nat} (hi : i < c.args.length) : 0 ≤ c.args[i] ∧ c.args[i] ≤ 1000000000000000 := by
  rw [cmdOk, Bool.and_eq_true] at h
  have h2 : ¬ 0 ≤ findG badA c.args := by simpa using h.2
  have h3 : c.args.findIdx? badA = none := by
    unfold findG at h2
    split at h2
    · omega
    · assumption
  have := (List.findIdx?_eq_none_iff.1 h3) c.args[i] (List.getElem_mem hi)
  simpa [badA] using this
theorem lineTo_size (w : ByteArray) (xs : List Int) (hw : w.size ≤ 10) (hx : ∀ i (hi : i < xs.length), 0 ≤ xs[i] ∧ xs[i] ≤ 1000000000000000) : ∀ i, (lineTo w xs i).size ≤ 10 + 22 * i
  | 0 => by rw [lineTo]; omega
  | i + 1 => by
    have ih := lineTo_size w xs hw hx i
    by_cases hi : i < xs.length
    · have h2 := hx i hi
      have h1 := Lib.itoa_length_le xs[i] (by omega) (by omega)
      rw [lineTo_s w xs i hi, ByteArray.size_append, ByteArray.size_append, bT_size, show spT.size = 1 from rfl]; omega
    · have : lineTo w xs (i + 1) = lineTo w xs i := by simp [lineTo, hi]
      rw [this]; omega
theorem cmdW_size (k : Int) : (cmdW k).size ≤ 10 := by
  unfold cmdW
  generalize k.toNat = n
  rcases n with _ | _ | _ | _ | _ | _ | _ | _ | _ | _ | _ | _ | n <;> first | decide | (simp [cmdWs]; decide)
def lineR (c : Cmd) : AV := if cmdOk c = true then .tup [(.one (.c (.string (lineTo (cmdW c.kind) c.args c.args.length)))), (.one (.c (.bool (true))))] else .tup [(.one (.c (.string (⟨#[]⟩)))), (.one (.c (.bool (false))))]
theorem line_arith {c : Cmd} (h : cmdOk c = true) {i : Nat} (hi : i < c.args.length) (hl : c.args.length ≤ 7) : spT.size + (bT (Lib.itoa c.args[i])).size ≤ 9223372036854775807 ∧ (lineTo (cmdW c.kind) c.args i).size + (spT.size + (bT (Lib.itoa c.args[i])).size) ≤ 9223372036854775807 ∧ (lineTo (cmdW c.kind) c.args i).size + spT.size ≤ 9223372036854775807 ∧ (lineTo (cmdW c.kind) c.args i).size + spT.size + (bT (Lib.itoa c.args[i])).size ≤ 9223372036854775807 ∧ -9223372036854775808 ≤ c.args[i] ∧ c.args[i] ≤ 9223372036854775807 := by
  have h1 := cmd_arg h hi
  have h2 := Lib.itoa_length_le c.args[i] (by omega) (by omega)
  have h3 := lineTo_size (cmdW c.kind) c.args (cmdW_size _) (fun i hi => cmd_arg h hi) i
  have h4 : spT.size = 1 := rfl
  simp only [bT_size, h4]
  omega
theorem spT_def : (⟨#[32]⟩ : ByteArray) = spT := rfl
theorem c_impl_CmdLine (c : Cmd) (hn : c.args.length ≤ 1000000000) (K : AV → AH → Prop) (hk : K (lineR c) []) : ACalls Tryd.prog 12 [.agg (cmdC c)] [] K := by
  refine acall_c Tryd.f12.results.toList mixed Tryd.func12 rfl rfl (by kernel_rfl) ?_
  intro Q hQ hQO
  simp only [go_sem, cmdC]
  (try simp only [go_sem, cmdC]); repeat' (first | (with_reducible refine c_split (fun hb => ?_) (fun hb => ?_) <;> try simp only [go_sem, hb, cmdC]) | (with_reducible refine w_split (fun hb => ?_) (fun hb => ?_) <;> try simp only [go_sem, hb, cmdC]) | (with_reducible refine tw_split (fun hb => ?_) (fun hb => ?_) <;> try simp only [go_sem, hb, cmdC]) | (with_reducible refine draw_at 0 10 (by with_unfolding_all rfl) [(1, true, true), (2, true, true), (0, false, false), (3, false, true), (4, false, true), (5, false, true)] (by kernel_rfl) ?_ <;> try simp only [go_sem, cmdC]) | (refine call_c (c_impl_CmdOk c hn _ ?_) <;> try simp only [go_sem, cmdC]) | (refine call_c (c_cmdWords _ ?_) <;> try simp only [go_sem, cmdC]) | (fail))
  · rw [lineR, if_neg (by simpa using hb)] at hk
    (try simp only [go_sem]); repeat' (first | (with_reducible refine c_split (fun hb => ?_) (fun hb => ?_) <;> try simp only [go_sem, hb]) | (with_reducible refine w_split (fun hb => ?_) (fun hb => ?_) <;> try simp only [go_sem, hb]) | (with_reducible refine tw_split (fun hb => ?_) (fun hb => ?_) <;> try simp only [go_sem, hb]) | (with_reducible refine draw_at 0 10 (by with_unfolding_all rfl) [(1, true, true), (2, true, true), (0, false, false), (3, false, true), (4, false, true), (5, false, true)] (by kernel_rfl) ?_ <;> try simp only [go_sem]) | (with_reducible refine hQ _ _ ?_ <;> simp only [Tryd.f12, go_sem]))
    exact hk
  · have hok : cmdOk c = true := by simpa using hb
    rw [lineR, if_pos hok] at hk
    have hl := cmd_len (by have := hok; rw [cmdOk, Bool.and_eq_true] at this; exact of_decide_eq_true this.1)
    have hwd := cmdW_get hl.1
    refine ⟨by omega, ?_⟩
    (try simp only [go_sem, hwd]); repeat' (first | (with_reducible refine c_split (fun hb => ?_) (fun hb => ?_) <;> try simp only [go_sem, hb, hwd]) | (with_reducible refine w_split (fun hb => ?_) (fun hb => ?_) <;> try simp only [go_sem, hb, hwd]) | (with_reducible refine tw_split (fun hb => ?_) (fun hb => ?_) <;> try simp only [go_sem, hb, hwd]) | (with_reducible refine draw_at 0 10 (by with_unfolding_all rfl) [(1, true, true), (2, true, true), (0, false, false), (3, false, true), (4, false, true), (5, false, true)] (by kernel_rfl) ?_ <;> try simp only [go_sem, hwd]) | (fail))
    refine for_at (c.args.length) [16, 17] (fun i f h => f 4 = (.one (.c (.string (lineTo (cmdW c.kind) c.args i)))) ∧ f 18 = (.one (.c (.int .i64 (i)))) ∧ h = [.own 0 30 2 (some 1) [cmdC c]]) (GC.now ?_) ?_
    · simp only [go_sem, nc_0, true_and, cmdC]
      rfl
    · rintro i f h J hi hA ⟨e4, e18, rfl⟩ hJ
      simp only [go_sem, cmdC] at hA
      simp only [go_sem, hA, e4, e18, cmdC]
      refine c_split (fun hb => ?_) (fun hb => ?_)
      rotate_left
      · simp only [go_sem, hb, hA, e4, e18, cmdC]
        obtain rfl := ge_len hb hi
        (try simp only [go_sem, hA, e4, e18, cmdC]); repeat' (first | (with_reducible refine c_split (fun hb => ?_) (fun hb => ?_) <;> try simp only [go_sem, hb, hA, e4, e18, cmdC]) | (with_reducible refine w_split (fun hb => ?_) (fun hb => ?_) <;> try simp only [go_sem, hb, hA, e4, e18, cmdC]) | (with_reducible refine tw_split (fun hb => ?_) (fun hb => ?_) <;> try simp only [go_sem, hb, hA, e4, e18, cmdC]) | (with_reducible refine draw_at 0 10 (by with_unfolding_all rfl) [(1, true, true), (2, true, true), (0, false, false), (3, false, true), (4, false, true), (5, false, true)] (by kernel_rfl) ?_ <;> try simp only [go_sem, hA, e4, e18, cmdC]) | (with_reducible refine hQ _ _ ?_ <;> simp only [Tryd.f12, go_sem, hA, e4, e18, cmdC]))
        exact hk
      have hi := lt_len hb
      have hw := wrap_nat i (by omega)
      have hil : (i : Int) < ((c.args.length : Nat) : Int) := Int.ofNat_lt.2 hi
      have hg0 : (c.args)[i]? = some ((c.args)[i]) := List.getElem?_eq_getElem (by omega)
      simp only [go_sem, hb, hA, e4, e18, cmdC, hg0]
      try simp only [go_sem, hA, e4, e18, cmdC, hil, hg0]
      obtain ⟨a1, a2, a3, a4, b1, b2⟩ := line_arith hok hi hl.2
      have hs := lineTo_s (cmdW c.kind) c.args i hi
      (try simp only [go_sem, hA, e4, e18, cmdC, hil, hg0, spT_def, ByteArray.size_append, a1, a2]); repeat' (first | (with_reducible refine c_split (fun hb => ?_) (fun hb => ?_) <;> try simp only [go_sem, hb, hA, e4, e18, cmdC, hil, hg0, spT_def, ByteArray.size_append, a1, a2]) | (with_reducible refine w_split (fun hb => ?_) (fun hb => ?_) <;> try simp only [go_sem, hb, hA, e4, e18, cmdC, hil, hg0, spT_def, ByteArray.size_append, a1, a2]) | (with_reducible refine tw_split (fun hb => ?_) (fun hb => ?_) <;> try simp only [go_sem, hb, hA, e4, e18, cmdC, hil, hg0, spT_def, ByteArray.size_append, a1, a2]) | (with_reducible refine draw_at 0 10 (by with_unfolding_all rfl) [(1, true, true), (2, true, true), (0, false, false), (3, false, true), (4, false, true), (5, false, true)] (by kernel_rfl) ?_ <;> try simp only [go_sem, hA, e4, e18, cmdC, hil, hg0, spT_def, ByteArray.size_append, a1, a2]) | (refine call_c (c_impl_TextOf c.args[i] b1 b2 _ ?_) <;> try simp only [go_sem, hA, e4, e18, cmdC, hil, hg0, spT_def, ByteArray.size_append, a1, a2]) | (fail))
      refine GC.now (hJ _ _ hi (by simp only [go_sem, hA, e4, e18, cmdC]) ⟨?_, ?_, ?_⟩) <;> try simp only [go_sem, hA, e4, e18, cmdC, hw, hs]
theorem c_spec_CmdLine (c : Cmd) (hn : c.args.length ≤ 1000000000) (K : AV → AH → Prop) (hk : K (lineR c) []) : ACalls Tryd.prog 10 [.agg (cmdC c)] [] K := by
  refine acall_c Tryd.f10.results.toList mixed Tryd.func10 rfl rfl (by kernel_rfl) ?_
  intro Q hQ hQO
  simp only [go_sem, cmdC]
  (try simp only [go_sem, cmdC]); repeat' (first | (with_reducible refine c_split (fun hb => ?_) (fun hb => ?_) <;> try simp only [go_sem, hb, cmdC]) | (with_reducible refine w_split (fun hb => ?_) (fun hb => ?_) <;> try simp only [go_sem, hb, cmdC]) | (refine call_c (c_spec_CmdOk c hn _ ?_) <;> try simp only [go_sem, cmdC]) | (fail))
  · rw [lineR, if_neg (by simpa using hb)] at hk
    (try simp only [go_sem]); repeat' (first | (with_reducible refine c_split (fun hb => ?_) (fun hb => ?_) <;> try simp only [go_sem, hb]) | (with_reducible refine w_split (fun hb => ?_) (fun hb => ?_) <;> try simp only [go_sem, hb]) | (with_reducible refine hQ _ _ ?_ <;> simp only [Tryd.f10, go_sem]))
    exact hk
  · have hok : cmdOk c = true := by simpa using hb
    rw [lineR, if_pos hok] at hk
    have hl := cmd_len (by have := hok; rw [cmdOk, Bool.and_eq_true] at this; exact of_decide_eq_true this.1)
    (try simp only [go_sem]); repeat' (first | (with_reducible refine c_split (fun hb => ?_) (fun hb => ?_) <;> try simp only [go_sem, hb]) | (with_reducible refine w_split (fun hb => ?_) (fun hb => ?_) <;> try simp only [go_sem, hb]) | (refine call_c (c_l20Name c.kind hl.1 _ ?_) <;> try simp only [go_sem]) | (fail))
    refine for_at (c.args.length) [1] (fun i f h => f 4 = (.one (.c (.string (lineTo (cmdW c.kind) c.args i)))) ∧ f 5 = (.one (.c (.int .i64 (i)))) ∧ h = [.own 0 30 2 (some 1) [cmdC c]]) (GC.now ?_) ?_
    · simp only [go_sem, nc_0, true_and, cmdC]
      rfl
    · rintro i f h J hi hA ⟨e4, e5, rfl⟩ hJ
      simp only [go_sem, cmdC] at hA
      simp only [go_sem, hA, e4, e5, cmdC]
      refine c_split (fun hb => ?_) (fun hb => ?_)
      rotate_left
      · simp only [go_sem, hb, hA, e4, e5, cmdC]
        obtain rfl := ge_len hb hi
        (try simp only [go_sem, hA, e4, e5, cmdC]); repeat' (first | (with_reducible refine c_split (fun hb => ?_) (fun hb => ?_) <;> try simp only [go_sem, hb, hA, e4, e5, cmdC]) | (with_reducible refine w_split (fun hb => ?_) (fun hb => ?_) <;> try simp only [go_sem, hb, hA, e4, e5, cmdC]) | (with_reducible refine hQ _ _ ?_ <;> simp only [Tryd.f10, go_sem, hA, e4, e5, cmdC]))
        exact hk
      have hi := lt_len hb
      have hw := wrap_nat i (by omega)
      have hil : (i : Int) < ((c.args.length : Nat) : Int) := Int.ofNat_lt.2 hi
      have hg0 : (c.args)[i]? = some ((c.args)[i]) := List.getElem?_eq_getElem (by omega)
      simp only [go_sem, hb, hA, e4, e5, cmdC, hg0]
      try simp only [go_sem, hA, e4, e5, cmdC, hil, hg0]
      obtain ⟨a1, a2, a3, a4, b1, b2⟩ := line_arith hok hi hl.2
      have hs := lineTo_s (cmdW c.kind) c.args i hi
      rw [← ByteArray.append_assoc] at hs
      (try simp only [go_sem, hA, e4, e5, cmdC, hil, hg0, spT_def, ByteArray.size_append, a3, a4]); repeat' (first | (with_reducible refine c_split (fun hb => ?_) (fun hb => ?_) <;> try simp only [go_sem, hb, hA, e4, e5, cmdC, hil, hg0, spT_def, ByteArray.size_append, a3, a4]) | (with_reducible refine w_split (fun hb => ?_) (fun hb => ?_) <;> try simp only [go_sem, hb, hA, e4, e5, cmdC, hil, hg0, spT_def, ByteArray.size_append, a3, a4]) | (refine call_c (c_spec_TextOf c.args[i] b1 b2 _ ?_) <;> try simp only [go_sem, hA, e4, e5, cmdC, hil, hg0, spT_def, ByteArray.size_append, a3, a4]) | (fail))
      refine GC.now (hJ _ _ hi (by simp only [go_sem, hA, e4, e5, cmdC]) ⟨?_, ?_, ?_⟩) <;> try simp only [go_sem, hA, e4, e5, cmdC, hw, hs]
theorem c_szIntS (xs : List Int) (left : Int) (hn : xs.length ≤ 1000000000000000) (h0 : 0 ≤ left) (h1 : left ≤ 1000000000) (K : AV → AH → Prop) (hk : K (.one (.c (.int .i64 (if left - xs.length < 0 then -1 else left - xs.length)))) []) : ACalls Tryd.prog 20 [(.one (.im (xs.map intC))), (.one (.c (.int .i64 (left))))] [] K := by
  have hw : wrap64 (left - (xs.length : Int)) = left - (xs.length : Int) := wrap_id _ (by omega) (by omega)
  refine acall_c Tryd.f20.results.toList mixed Tryd.func20 rfl rfl (by kernel_rfl) ?_
  intro Q hQ hQO
  simp only [go_sem]
  (try simp only [go_sem, hw]); repeat' (first | (with_reducible refine c_split (fun hb => ?_) (fun hb => ?_) <;> try simp only [go_sem, hb, hw]) | (with_reducible refine w_split (fun hb => ?_) (fun hb => ?_) <;> try simp only [go_sem, hb, hw]) | (with_reducible refine hQ _ _ ?_ <;> simp only [Tryd.f20, go_sem, hw]))
  · rw [if_pos (of_decide_eq_true hb)] at hk
    exact hk
  · rw [if_neg (of_decide_eq_false hb)] at hk
    exact hk
theorem c_szCmd (c : Cmd) (left : Int) (hn : c.args.length ≤ 1000000000000000) (h0 : 0 ≤ left) (h1 : left ≤ 1000000000) (K : AV → AH → Prop) (hk : K (.one (.c (.int .i64 (if left - c.args.length < 0 then -1 else left - c.args.length)))) []) : ACalls Tryd.prog 9 [.agg (cmdC c), (.one (.c (.int .i64 (left))))] [] K := by
  refine acall_c Tryd.f9.results.toList mixed Tryd.func9 rfl rfl (by kernel_rfl) ?_
  intro Q hQ hQO
  simp only [go_sem, cmdC]
  (try simp only [go_sem, cmdC]); repeat' (first | (with_reducible refine c_split (fun hb => ?_) (fun hb => ?_) <;> try simp only [go_sem, hb, cmdC]) | (with_reducible refine w_split (fun hb => ?_) (fun hb => ?_) <;> try simp only [go_sem, hb, cmdC]) | (refine call_c (c_szIntS c.args left hn h0 h1 _ ?_) <;> try simp only [go_sem, cmdC]) | (with_reducible refine hQ _ _ ?_ <;> simp only [Tryd.f9, go_sem, cmdC]))
  · have h2 := of_decide_eq_true hb
    rw [if_pos (by split at h2 <;> omega)] at hk
    exact hk
  · exact hk
theorem c_toCmd (c : Cmd) (hn : c.args.length ≤ 1000000000) (K : AV → AH → Prop) (hk : K (.agg [.c (.int .i64 (c.kind)), .sl 0 0 0 c.args.length]) [.own 0 3 1 (some c.args.length) (c.args.map intC)]) : ACalls Tryd.prog 11 [.agg (cmdC c)] [] K := by
  refine acall_c Tryd.f11.results.toList mixed Tryd.func11 rfl rfl (by kernel_rfl) ?_
  intro Q hQ hQO
  simp only [go_sem, cmdC]
  (try simp only [go_sem, cmdC]); repeat' (first | (with_reducible refine c_split (fun hb => ?_) (fun hb => ?_) <;> try simp only [go_sem, hb, cmdC]) | (with_reducible refine w_split (fun hb => ?_) (fun hb => ?_) <;> try simp only [go_sem, hb, cmdC]) | (refine call_c (c_toIntS c.args hn _ ?_) <;> try simp only [go_sem, cmdC]) | (fail))
  refine hQO [3] _ _ (GC.now ?_) <;> simp only [Tryd.f11, go_sem, List.nodup_cons, List.nodup_nil, List.mem_cons, List.not_mem_nil, or_false, not_false_eq_true, List.idxOf?_cons, List.idxOf?_nil, Option.map_none]
  exact hk
theorem c_eqCmd (c : Cmd) (hn : c.args.length ≤ 1000000000) (K : AV → AH → Prop) (hk : K (.one (.c (.bool (true)))) []) : ACalls Tryd.prog 13 [.agg (cmdC c), .agg (cmdC c)] [] K := by
  refine acall_c Tryd.f13.results.toList mixed Tryd.func13 rfl rfl (by kernel_rfl) ?_
  intro Q hQ hQO
  simp only [go_sem, cmdC]
  (try simp only [go_sem, cmdC, BEq.rfl]); repeat' (first | (with_reducible refine c_split (fun hb => ?_) (fun hb => ?_) <;> try simp only [go_sem, hb, cmdC, BEq.rfl]) | (with_reducible refine w_split (fun hb => ?_) (fun hb => ?_) <;> try simp only [go_sem, hb, cmdC, BEq.rfl]) | (refine call_c (c_eqIntS c.args hn _ ?_) <;> try simp only [go_sem, cmdC, BEq.rfl]) | (with_reducible refine hQ _ _ ?_ <;> simp only [Tryd.f13, go_sem, cmdC, BEq.rfl]))
  exact hk
theorem c_FnExactCmdLine (c : Cmd) (hn : c.args.length ≤ 1000000000000000) (K : AV → AH → Prop) (hk : K (.one (.c (.bool (true)))) []) : ACalls Tryd.prog 4 [.agg (cmdC c)] [] K := by
  refine acall_c Tryd.f4.results.toList mixed Tryd.func4 rfl rfl (by kernel_rfl) ?_
  intro Q hQ hQO
  simp only [go_sem, cmdC]
  (try simp only [go_sem, cmdC]); repeat' (first | (with_reducible refine c_split (fun hb => ?_) (fun hb => ?_) <;> try simp only [go_sem, hb, cmdC]) | (with_reducible refine w_split (fun hb => ?_) (fun hb => ?_) <;> try simp only [go_sem, hb, cmdC]) | (with_reducible refine tw_split (fun hb => ?_) (fun hb => ?_) <;> try simp only [go_sem, hb, cmdC]) | (with_reducible refine draw_at 0 35 (by with_unfolding_all rfl) [(0, true, true), (1, false, false), (2, false, false), (3, false, true), (4, false, true)] (by kernel_rfl) ?_ <;> try simp only [go_sem, cmdC]) | (refine call_c (c_szCmd c _ hn (by decide) (by decide) _ ?_) <;> try simp only [go_sem, cmdC]) | (fail))
  · (try simp only [go_sem]); repeat' (first | (with_reducible refine c_split (fun hb => ?_) (fun hb => ?_) <;> try simp only [go_sem, hb]) | (with_reducible refine w_split (fun hb => ?_) (fun hb => ?_) <;> try simp only [go_sem, hb]) | (with_reducible refine tw_split (fun hb => ?_) (fun hb => ?_) <;> try simp only [go_sem, hb]) | (with_reducible refine draw_at 0 35 (by with_unfolding_all rfl) [(0, true, true), (1, false, false), (2, false, false), (3, false, true), (4, false, true)] (by kernel_rfl) ?_ <;> try simp only [go_sem]) | (with_reducible refine hQ _ _ ?_ <;> simp only [Tryd.f4, go_sem]))
    exact hk
  · have hn1 : c.args.length ≤ 1000000000 := by
      have := of_decide_eq_false hb
      split at this <;> omega
    by_cases hok : cmdOk c = true
    · have hr : lineR c = .tup [(.one (.c (.string (lineTo (cmdW c.kind) c.args c.args.length)))), (.one (.c (.bool (true))))] := if_pos hok
      (try simp only [go_sem, hr, BEq.rfl, decide_true]); repeat' (first | (with_reducible refine c_split (fun hb => ?_) (fun hb => ?_) <;> try simp only [go_sem, hb, hr, BEq.rfl, decide_true]) | (with_reducible refine w_split (fun hb => ?_) (fun hb => ?_) <;> try simp only [go_sem, hb, hr, BEq.rfl, decide_true]) | (with_reducible refine tw_split (fun hb => ?_) (fun hb => ?_) <;> try simp only [go_sem, hb, hr, BEq.rfl, decide_true]) | (with_reducible refine draw_at 0 35 (by with_unfolding_all rfl) [(0, true, true), (1, false, false), (2, false, false), (3, false, true), (4, false, true)] (by kernel_rfl) ?_ <;> try simp only [go_sem, hr, BEq.rfl, decide_true]) | (refine call_c (c_toCmd c hn1 _ ?_) <;> try simp only [go_sem, hr, BEq.rfl, decide_true]) | (refine call_c (c_spec_CmdLine c hn1 _ ?_) <;> try simp only [go_sem, hr, BEq.rfl, decide_true]) | (refine call_c (c_impl_CmdLine c hn1 _ ?_) <;> try simp only [go_sem, hr, BEq.rfl, decide_true]) | (refine call_c (c_eqCmd c hn1 _ ?_) <;> try simp only [go_sem, hr, BEq.rfl, decide_true]) | (with_reducible refine hQ _ _ ?_ <;> simp only [Tryd.f4, go_sem, hr, BEq.rfl, decide_true]))
      exact hk
    · have hr : lineR c = .tup [(.one (.c (.string (⟨#[]⟩)))), (.one (.c (.bool (false))))] := if_neg hok
      (try simp only [go_sem, hr, BEq.rfl, decide_true]); repeat' (first | (with_reducible refine c_split (fun hb => ?_) (fun hb => ?_) <;> try simp only [go_sem, hb, hr, BEq.rfl, decide_true]) | (with_reducible refine w_split (fun hb => ?_) (fun hb => ?_) <;> try simp only [go_sem, hb, hr, BEq.rfl, decide_true]) | (with_reducible refine tw_split (fun hb => ?_) (fun hb => ?_) <;> try simp only [go_sem, hb, hr, BEq.rfl, decide_true]) | (with_reducible refine draw_at 0 35 (by with_unfolding_all rfl) [(0, true, true), (1, false, false), (2, false, false), (3, false, true), (4, false, true)] (by kernel_rfl) ?_ <;> try simp only [go_sem, hr, BEq.rfl, decide_true]) | (refine call_c (c_toCmd c hn1 _ ?_) <;> try simp only [go_sem, hr, BEq.rfl, decide_true]) | (refine call_c (c_spec_CmdLine c hn1 _ ?_) <;> try simp only [go_sem, hr, BEq.rfl, decide_true]) | (refine call_c (c_impl_CmdLine c hn1 _ ?_) <;> try simp only [go_sem, hr, BEq.rfl, decide_true]) | (refine call_c (c_eqCmd c hn1 _ ?_) <;> try simp only [go_sem, hr, BEq.rfl, decide_true]) | (with_reducible refine hQ _ _ ?_ <;> simp only [Tryd.f4, go_sem, hr, BEq.rfl, decide_true]))
      exact hk
end Go.Proofs.YtaahlnjldenhpaaDoor
