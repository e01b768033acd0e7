/- Walks of functions of the program and the laws they rest on (3 of 3). Conditions: none. -/
import Derived.Deep.Strs
import Derived.Deep.Slices
import Derived.SizedLaws
import Derived.Lib.SmallJoins
import Derived.ChangeShapes
import Derived.WideShapes
import Derived.Test.YtkndmncgohmjmaaDoorM2
section
namespace Go.Proofs.YtkndmncgohmjmaaDoor
open Go.BL Go.RowKit
set_option linter.unusedVariables false
set_option linter.unusedSimpArgs false
set_option maxRecDepth 100000
theorem d4_0_LParseS : DrawL Tryd.prog 0 21 (.on [(0, true, true), (1, true, true), (2, true, true), (3, false, false), (4, false, false), (5, false, true)] .nil) := draw_L
attribute [local go_sem] intC strC cmdC
theorem kTo_s (w : ByteArray) (j : Nat) : kTo w (j + 1) = if decide (w = cmdW ((j + 1 : Nat) : Int)) = true then ((j + 1 : Nat) : Int) else kTo w j := rfl
theorem c_spec_ParseCmd (bs : List UInt8) (hl : bs.length ≤ 1000000000) (K : AV → AH → Prop) (hk : K (.tup [.agg (cmdC (parseR bs).1), (.one (.c (.int .i64 ((parseR bs).2))))]) []) : ACalls Tryd.prog 4 [(.one (.c (.string (bT bs))))] [] K := by
  obtain ⟨w, ws, hws⟩ := words_ne bs
  have hwl := (wordsT_len bs).2
  have hsz : ∀ x ∈ ws, x.size ≤ 1000000000000 := fun x hx => by have := words_small (bs := bs) (w := x) (by rw [hws]; simp [hx]); omega
  by_cases h1 : 300 < (bs.length : Int)
  · have hr : parseR bs = (noC, 1) := by unfold parseR; rw [if_pos h1]
    have d1 : decide (300 < (bs.length : Int)) = true := decide_eq_true h1
    rw [hr] at hk
    refine acall_c Tryd.f4.results.toList mixed Tryd.func4 rfl rfl (by kernel_rfl) ?_
    intro Q hQ hQO
    simp only [go_sem]
    (try simp only [go_sem, bT_size, d1]); repeat' (first | (with_reducible first | refine c_split ?_ ?_ | refine w_split ?_ ?_ | refine tw_split ?_ ?_) <;> intro hb <;> try simp only [go_sem, hb, bT_size, d1] | with_reducible refine d4_0_LParseS (by with_unfolding_all rfl) (by kernel_rfl) ?_ <;> try simp only [go_sem, bT_size, d1] | with_reducible refine hQ _ _ ?_ <;> simp only [Tryd.f4, go_sem, bT_size, d1])
    exact hk
  have d1 : decide (300 < (bs.length : Int)) = false := decide_eq_false h1
  have c_W := c_l20Words bs (by omega)
  rw [hws] at c_W
  have z1 : (0 : Int) ≤ 0 := by decide
  have z2 : (0 : Int) < ((ws.length + 1 : Nat) : Int) := by omega
  have z3 : Int.toNat 0 = 0 := rfl
  have ks := kind_same w
  have hpr : parseR bs = (if kTo w 11 = 0 then (noC, 2) else if (ws.length : Int) + 1 = cmdN (kTo w 11) + 1 then (match numsL ws with | none => (noC, 4) | some ns => if cmdOk ⟨kTo w 11, ns⟩ = true then (⟨kTo w 11, ns⟩, 0) else (noC, 5)) else (noC, 3) : Cmd × Int) := by
    unfold parseR
    rw [if_neg h1, hws]
    simp only
    by_cases h2 : kindW w < 1
    · rw [if_pos h2] at ks ⊢
      rw [ks, if_pos rfl]
    · rw [if_neg h2] at ks ⊢
      have : ¬ kindW w = 0 := by omega
      rw [ks, if_neg this]
      rfl
  have hkr : kTo w 11 = 0 ∨ 1 ≤ kTo w 11 ∧ kTo w 11 ≤ 11 := by
    rw [ks]
    rcases kind_range w with q | q
    · left; rw [if_pos q]
    · right; rw [if_neg (by omega)]; exact q
  rw [hpr] at hk
  clear hpr ks
  refine acall_c Tryd.f4.results.toList mixed Tryd.func4 rfl rfl (by kernel_rfl) ?_
  intro Q hQ hQO
  simp only [go_sem]
  (try simp only [go_sem, bT_size, d1]); repeat' (first | (with_reducible first | refine c_split ?_ ?_ | refine w_split ?_ ?_ | refine tw_split ?_ ?_) <;> intro hb <;> try simp only [go_sem, hb, bT_size, d1] | (first | with_reducible refine d4_0_LParseS (by with_unfolding_all rfl) (by kernel_rfl) ?_ | refine call_c (c_W _ ?_) | fail) <;> try simp only [go_sem, bT_size, d1] | fail)
  refine while_at (α := Nat) (fun j => 11 - j) [2, 4, 5] (fun j f h => f 6 = (.one (.c (.int .i64 (((j + 1 : Nat) : Int))))) ∧ h = [.own 0 24 2 (some 1) [[.c (.int .i64 (0)), .nl]], .own 0 24 2 (some 1) [[.c (.int .i64 (kTo w j)), .nl]]] ∧ j ≤ 11) 0 (GC.now ?_) ?_
  · simp only [go_sem, nc_0, true_and]
    exact ⟨rfl, rfl⟩
  · rintro j f h J hA ⟨e6, rfl, hP⟩ hJ
    simp only [go_sem] at hA
    try dsimp only at hJ
    simp only [go_sem, hA, e6]
    have hw : wrap64 (((j + 1 : Nat) : Int) + 1) = ((j + 1 + 1 : Nat) : Int) := wrap_nat (j + 1) (by omega)
    by_cases hj : j < 11
    · have hd : decide (((j + 1 : Nat) : Int) ≤ 11) = true := decide_eq_true (by omega)
      have hdec : 11 - (j + 1) < 11 - j := by omega
      have hkj : 1 ≤ ((j + 1 : Nat) : Int) ∧ ((j + 1 : Nat) : Int) ≤ 11 := by omega
      have hs := kTo_s w j
      cases hc : decide (w = cmdW ((j + 1 : Nat) : Int)) with
      | true =>
        rw [hc, if_pos rfl] at hs
        (try simp only [go_sem, hA, e6, hd, tiO_some, z1, z2, z3, hc]); repeat' (first | (with_reducible first | refine c_split ?_ ?_ | refine w_split ?_ ?_ | refine tw_split ?_ ?_) <;> intro hb <;> try simp only [go_sem, hb, hA, e6, hd, tiO_some, z1, z2, z3, hc] | (first | with_reducible refine d4_0_LParseS (by with_unfolding_all rfl) (by kernel_rfl) ?_ | refine call_c (c_l20Name _ hkj _ ?_) | fail) <;> try simp only [go_sem, hA, e6, hd, tiO_some, z1, z2, z3, hc] | fail)
        refine gc_trim 2 (by decide) (by simp only [go_sem]) (by simp only [go_sem, hw, hs]) (hJ (j + 1) _ _ (by exact hdec) (by simp only [go_sem, hA, e6]) ⟨?_, ?_, ?_⟩) <;> try simp only [go_sem, hA, e6, hw, hs]
        exact Nat.le_of_lt_succ hj
      | false =>
        rw [hc, if_neg (by decide)] at hs
        (try simp only [go_sem, hA, e6, hd, tiO_some, z1, z2, z3, hc]); repeat' (first | (with_reducible first | refine c_split ?_ ?_ | refine w_split ?_ ?_ | refine tw_split ?_ ?_) <;> intro hb <;> try simp only [go_sem, hb, hA, e6, hd, tiO_some, z1, z2, z3, hc] | (first | with_reducible refine d4_0_LParseS (by with_unfolding_all rfl) (by kernel_rfl) ?_ | refine call_c (c_l20Name _ hkj _ ?_) | fail) <;> try simp only [go_sem, hA, e6, hd, tiO_some, z1, z2, z3, hc] | fail)
        refine gc_trim 2 (by decide) (by simp only [go_sem]) (by simp only [go_sem, hw, hs]) (hJ (j + 1) _ _ (by exact hdec) (by simp only [go_sem, hA, e6]) ⟨?_, ?_, ?_⟩) <;> try simp only [go_sem, hA, e6, hw, hs]
        exact Nat.le_of_lt_succ hj
    · have hj11 : j = 11 := by omega
      subst hj11
      have hd : decide (((11 + 1 : Nat) : Int) ≤ 11) = false := by decide
      have hA1 := hA
      clear hJ
      generalize kTo w 11 = kd at *
      rcases hkr with rfl | hkr
      · rw [if_pos rfl] at hk
        (try simp only [go_sem, hA, e6, hd]); repeat' (first | (with_reducible first | refine c_split ?_ ?_ | refine w_split ?_ ?_ | refine tw_split ?_ ?_) <;> intro hb <;> try simp only [go_sem, hb, hA, e6, hd] | with_reducible refine d4_0_LParseS (by with_unfolding_all rfl) (by kernel_rfl) ?_ <;> try simp only [go_sem, hA, e6, hd] | with_reducible refine hQ _ _ ?_ <;> simp only [Tryd.f4, go_sem, hA, e6, hd])
        exact hk
      have hne : ¬ kd = 0 := by omega
      have d2 : (kd == 0) = false := beq_eq_false_iff_ne.2 hne
      have hcn := cmdN_yes hkr
      have hw1 : wrap64 (cmdN kd + 1) = cmdN kd + 1 := wrap_id _ (by omega) (by omega)
      have hwc : ((ws.length + 1 : Nat) : Int) = (ws.length : Int) + 1 := by omega
      rw [if_neg hne] at hk
      by_cases h3 : (ws.length : Int) + 1 = cmdN kd + 1
      · have d3 : ((ws.length : Int) + 1 == cmdN kd + 1) = true := by rw [h3]; exact BEq.rfl
        rw [if_pos h3] at hk
        have hwn : ws.length ≤ 7 := by omega
        (try simp only [go_sem, hA, e6, hd, d2, d3, hw1, hwc]); repeat' (first | (with_reducible first | refine c_split ?_ ?_ | refine w_split ?_ ?_ | refine tw_split ?_ ?_) <;> intro hb <;> try simp only [go_sem, hb, hA, e6, hd, d2, d3, hw1, hwc] | (first | with_reducible refine d4_0_LParseS (by with_unfolding_all rfl) (by kernel_rfl) ?_ | refine call_c (c_spec_CmdArgs _ _ ?_) | fail) <;> try simp only [go_sem, hA, e6, hd, d2, d3, hw1, hwc] | fail)
        refine while_at (α := List Int) (fun vs => ws.length - vs.length) [2, 4, 5] (fun vs f h => f 7 = (.one (.c (.int .i64 (((vs.length + 1 : Nat) : Int))))) ∧ h = [.own 0 24 2 (some 1) [[.c (.int .i64 (0)), .nl]], .own 0 24 2 (some 1) [[.c (.int .i64 (kd)), .sl 2 vs.length 0 vs.length]], .own vs.length 3 1 none (vs.map intC)] ∧ vs.length ≤ ws.length ∧ numsL (ws.take vs.length) = some vs) [] (GC.step (Ghost.nlc (l := 1) rfl 0 1 rfl rfl 3 1) (GC.now ?_)) ?_
        · simp only [go_sem, nc_0, true_and, hA1]
          exact ⟨rfl, Nat.zero_le _, rfl⟩
        · rintro vs f h J hA ⟨e7, rfl, hP⟩ hJ
          simp only [go_sem, hA1] at hA
          try dsimp only at hJ
          simp only [go_sem, hA, e7, hA1]
          obtain ⟨hi, hvs⟩ := hP
          obtain ⟨-, hw, hv9⟩ := pc_w hi hwn
          by_cases hlt : vs.length < ws.length
          · obtain ⟨hil, hd, -, -⟩ := pc_lt (Nat.succ_lt_succ hlt)
            obtain ⟨-, -, hdec, hle⟩ := pc_lt hlt
            have hgi : (([.c (.string (w))] : List CV) :: ws.map strC)[vs.length + 1]? = some [.c (.string (ws[vs.length]))] := by rw [List.getElem?_cons_succ, List.getElem?_map, List.getElem?_eq_getElem hlt]; rfl
            have hxs := hsz ws[vs.length] (List.getElem_mem hlt)
            cases hn : numS ws[vs.length].data.toList with
            | none =>
              have q : numR (numS ws[vs.length].data.toList) = .tup [(.one (.c (.int .i64 (0)))), (.one (.c (.bool (false))))] := by rw [hn]; rfl
              rw [numsL_no hlt hn] at hk
              (try simp only [go_sem, hA, e7, hA1, hA1, hd, hil, hgi, q]); repeat' (first | (with_reducible first | refine c_split ?_ ?_ | refine w_split ?_ ?_ | refine tw_split ?_ ?_) <;> intro hb <;> try simp only [go_sem, hb, hA, e7, hA1, hA1, hd, hil, hgi, q] | (first | with_reducible refine d4_0_LParseS (by with_unfolding_all rfl) (by kernel_rfl) ?_ | refine call_c (numS_d ws[vs.length] hxs _ ?_) | fail) <;> try simp only [go_sem, hA, e7, hA1, hA1, hd, hil, hgi, q] | with_reducible refine hQ _ _ ?_ <;> simp only [Tryd.f4, go_sem, hA, e7, hA1, hA1, hd, hil, hgi, q])
              exact hk
            | some v =>
              have q : numR (numS ws[vs.length].data.toList) = .tup [(.one (.c (.int .i64 (v)))), (.one (.c (.bool (true))))] := by rw [hn]; rfl
              have hss := numsL_s hlt hvs hn
              have hlv := pc_snoc vs v
              rw [← hlv] at hdec hle
              (try simp only [go_sem, hA, e7, hA1, hA1, hd, hil, hgi, q]); repeat' (first | (with_reducible first | refine c_split ?_ ?_ | refine w_split ?_ ?_ | refine tw_split ?_ ?_) <;> intro hb <;> try simp only [go_sem, hb, hA, e7, hA1, hA1, hd, hil, hgi, q] | (first | with_reducible refine d4_0_LParseS (by with_unfolding_all rfl) (by kernel_rfl) ?_ | refine call_c (numS_d ws[vs.length] hxs _ ?_) | fail) <;> try simp only [go_sem, hA, e7, hA1, hA1, hd, hil, hgi, q] | fail)
              refine ap_end rfl (List.length_map ..).symm (pc_room vs _ hv9) ?_
              (try simp only [go_sem, hA, e7, hA1, hw]); repeat' (first | (with_reducible first | refine c_split ?_ ?_ | refine w_split ?_ ?_ | refine tw_split ?_ ?_) <;> intro hb <;> try simp only [go_sem, hb, hA, e7, hA1, hw] | with_reducible refine d4_0_LParseS (by with_unfolding_all rfl) (by kernel_rfl) ?_ <;> try simp only [go_sem, hA, e7, hA1, hw] | fail)
              refine gc_trim 3 (by decide) (by simp only [go_sem]) (by simp only [go_sem, hw, hlv]) (hJ (vs ++ [v]) _ _ (by exact hdec) (by simp only [go_sem, hA, e7, hA1]) ⟨?_, ?_, ?_⟩) <;> try simp only [go_sem, hA, e7, hA1, hw, hlv]
              exact ⟨hlv ▸ hle, hss⟩
          · obtain ⟨hd, -⟩ := pc_ge (fun q => hlt (Nat.lt_of_succ_lt_succ q)) (Nat.succ_le_succ hi)
            have htk := pc_all (pc_ge hlt hi).2
            rw [htk] at hvs
            rw [hvs] at hk
            simp only at hk
            have htv := pc_tk vs
            cases hok : cmdOk ⟨kd, vs⟩ with
            | true =>
              rw [if_pos hok] at hk
              (try simp only [go_sem, hA, e7, hA1, hA1, hd, hok, htv]); repeat' (first | (with_reducible first | refine c_split ?_ ?_ | refine w_split ?_ ?_ | refine tw_split ?_ ?_) <;> intro hb <;> try simp only [go_sem, hb, hA, e7, hA1, hA1, hd, hok, htv] | (first | with_reducible refine d4_0_LParseS (by with_unfolding_all rfl) (by kernel_rfl) ?_ | refine call_c (c_spec_CmdOk ⟨kd, vs⟩ hv9 _ ?_) | fail) <;> try simp only [go_sem, hA, e7, hA1, hA1, hd, hok, htv] | with_reducible refine hQ _ _ ?_ <;> simp only [Tryd.f4, go_sem, hA, e7, hA1, hA1, hd, hok, htv])
              exact hk
            | false =>
              rw [if_neg (by rw [hok]; decide)] at hk
              (try simp only [go_sem, hA, e7, hA1, hA1, hd, hok, htv]); repeat' (first | (with_reducible first | refine c_split ?_ ?_ | refine w_split ?_ ?_ | refine tw_split ?_ ?_) <;> intro hb <;> try simp only [go_sem, hb, hA, e7, hA1, hA1, hd, hok, htv] | (first | with_reducible refine d4_0_LParseS (by with_unfolding_all rfl) (by kernel_rfl) ?_ | refine call_c (c_spec_CmdOk ⟨kd, vs⟩ hv9 _ ?_) | fail) <;> try simp only [go_sem, hA, e7, hA1, hA1, hd, hok, htv] | with_reducible refine hQ _ _ ?_ <;> simp only [Tryd.f4, go_sem, hA, e7, hA1, hA1, hd, hok, htv])
              exact hk
      · have d3 : ((ws.length : Int) + 1 == cmdN kd + 1) = false := beq_eq_false_iff_ne.2 h3
        rw [if_neg h3] at hk
        (try simp only [go_sem, hA, e6, hd, d2, d3, hw1, hwc]); repeat' (first | (with_reducible first | refine c_split ?_ ?_ | refine w_split ?_ ?_ | refine tw_split ?_ ?_) <;> intro hb <;> try simp only [go_sem, hb, hA, e6, hd, d2, d3, hw1, hwc] | (first | with_reducible refine d4_0_LParseS (by with_unfolding_all rfl) (by kernel_rfl) ?_ | refine call_c (c_spec_CmdArgs _ _ ?_) | fail) <;> try simp only [go_sem, hA, e6, hd, d2, d3, hw1, hwc] | with_reducible refine hQ _ _ ?_ <;> simp only [Tryd.f4, go_sem, hA, e6, hd, d2, d3, hw1, hwc])
        exact hk
end Go.Proofs.YtkndmncgohmjmaaDoor
end
section
namespace Go.Proofs.YtkndmncgohmjmaaDoor
open Go.BL Go.RowKit
set_option linter.unusedVariables false
set_option linter.unusedSimpArgs false
set_option maxRecDepth 100000
attribute [local go_sem] intC strC cmdC
theorem c_markCmd (kd : Int) (xs : List Int) (k : Int) (l g : Nat) (cap : Option Nat) (h0 : AH) (hl : h0[l]? = some (.own g 3 1 cap (xs.map intC))) (hn : xs.length ≤ 1000000000) (hk0 : 0 ≤ k) (hk1 : k ≤ 1000000000)
    (K : AV → AH → Prop) (hk : K (.one (.c (.int .i64 (k + xs.length)))) (h0.set l (.own g 3 1 cap (((List.range xs.length).map (markIntS k)).map intC)))) : ACalls Tryd.prog 7 [.agg [.c (.int .i64 (kd)), .sl l g 0 xs.length], (.one (.c (.int .i64 (k))))] h0 K := by
  have hlt := (List.getElem?_eq_some_iff.1 hl).1
  refine acall_m Tryd.f7.results.toList mixed Tryd.func7 rfl rfl (by kernel_rfl) ?_
  intro hwf Q hQ
  simp only [go_sem, hl]
  refine call_h (c_markIntS xs k l g cap _ (h_old _ hl) hn hk0 hk1 _ ?_)
  simp only [go_sem, List.set_append_left _ _ hlt]
  refine hQ (h0.set l (.own g 3 1 cap (((List.range xs.length).map (markIntS k)).map intC))) _ _ ?_; refine GC.now (ret_m (by simp only [go_sem, Tryd.f7]; exact _root_.id rfl) (by simp only [go_sem]) (by simp) (by first | exact hwf | exact wf_set hwf (by simp only [go_sem]) | exact wf_set2 hwf (by simp only [go_sem]) (by simp only [go_sem]) | (simp only [go_sem]; done)) (by first | exact ⟨_, _root_.id rfl⟩ | exact ⟨[], (List.append_nil _).symm⟩) ?_) <;> simp only [go_sem]
  exact hk
theorem c_heldCmd (kd : Int) (n : Nat) (k : Int) (hn : n ≤ 1000000000) (hk0 : 0 ≤ k) (hk1 : k ≤ 1000000000) (K : AV → AH → Prop) (hk : K (.one (.c (.int .i64 (k + n)))) []) : ACalls Tryd.prog 8 [.agg [.c (.int .i64 (kd)), .im (((List.range n).map (markIntS k)).map intC)], (.one (.c (.int .i64 (k))))] [] K := by
  have h0 : decide (k + (n : Int) < 0) = false := decide_eq_false (by omega)
  refine acall_c Tryd.f8.results.toList mixed Tryd.func8 rfl rfl (by kernel_rfl) ?_
  intro Q hQ hQO
  simp only [go_sem]
  (try simp only [go_sem, h0]); repeat' (first | (with_reducible first | refine c_split ?_ ?_ | refine w_split ?_ ?_) <;> intro hb <;> try simp only [go_sem, hb, h0] | refine call_c (c_heldIntS _ _ hn hk0 hk1 _ ?_) <;> try simp only [go_sem, h0] | with_reducible refine hQ _ _ ?_ <;> simp only [Tryd.f8, go_sem, h0])
  exact hk
theorem parseR_len (bs : List UInt8) : (parseR bs).1.args.length ≤ 7 := by
  unfold parseR
  split
  · simp [noC]
  · split
    · simp [noC]
    · split
      · simp [noC]
      · split
        · split
          · simp [noC]
          · split
            · rename_i h
              have := cmd_len (c := _) (by have := h; rw [cmdOk, Bool.and_eq_true] at this; exact of_decide_eq_true this.1)
              exact this.2
            · simp [noC]
        · simp [noC]
theorem c_FnExactParseCmd (s : ByteArray) (hl : s.size ≤ 1000000000000000) (K : AV → AH → Prop) (hk : K (.one (.c (.bool (true)))) []) : ACalls Tryd.prog 3 [(.one (.c (.string (s))))] [] K := by
  obtain ⟨bs, rfl⟩ : ∃ bs, s = bT bs := ⟨_, (bT_list s).symm⟩
  refine acall_c Tryd.f3.results.toList mixed Tryd.func3 rfl rfl (by kernel_rfl) ?_
  intro Q hQ hQO
  simp only [go_sem]
  (try simp only [go_sem, bT_size]); repeat' (first | (with_reducible first | refine c_split ?_ ?_ | refine w_split ?_ ?_) <;> intro hb <;> try simp only [go_sem, hb, bT_size] | fail)
  · (try simp only [go_sem]); repeat' (first | (with_reducible first | refine c_split ?_ ?_ | refine w_split ?_ ?_) <;> intro hb <;> try simp only [go_sem, hb] | with_reducible refine hQ _ _ ?_ <;> simp only [Tryd.f3, go_sem])
    exact hk
  · have hn : bs.length ≤ 1000000000 := by
      have := of_decide_eq_false hb
      omega
    clear hb
    have hc := parseR_len bs
    have cI := fun K' hk' => c_impl_ParseCmd bs hn K' hk'
    have cS := fun K' hk' => c_spec_ParseCmd bs hn K' hk'
    generalize (parseR bs).2 = code at cI cS
    generalize (parseR bs).1 = c at hc cI cS
    have hc9 : c.args.length ≤ 1000000000 := by omega
    have e1 : decide ((1 : Int) + c.args.length < 0) = false := decide_eq_false (by omega)
    have htv := pc_tk c.args
    have htk : (List.map intC (List.map (markIntS 1) (List.range c.args.length))).take c.args.length = List.map intC (List.map (markIntS 1) (List.range c.args.length)) := List.take_of_length_le (by simp)
    have cE := c_eqCmd c hc9
    simp only [cmdC] at cE
    (try simp only [go_sem, BEq.rfl, bne_self_eq_false, List.length_range, htv, htk, e1]); repeat' (first | (with_reducible first | refine c_split ?_ ?_ | refine w_split ?_ ?_) <;> intro hb <;> try simp only [go_sem, hb, BEq.rfl, bne_self_eq_false, List.length_range, htv, htk, e1] | (first | refine call_c (cI _ ?_) | refine call_c (cS _ ?_) | refine call_c (cE _ ?_) | refine call_h (c_markCmd _ c.args 1 1 0 _ _ rfl hc9 (by decide) (by decide) _ ?_) | refine call_c (c_heldCmd _ c.args.length 1 hc9 (by decide) (by decide) _ ?_) | fail) <;> try simp only [go_sem, BEq.rfl, bne_self_eq_false, List.length_range, htv, htk, e1] | with_reducible refine hQ _ _ ?_ <;> simp only [Tryd.f3, go_sem, BEq.rfl, bne_self_eq_false, List.length_range, htv, htk, e1])
    trace_state
    exact hk
end Go.Proofs.YtkndmncgohmjmaaDoor
end
section
namespace Go.BL
open Go.RowKit Go.ChangeShapes Go.WideShapes Go.ChangeAt Go.Joins Go.Deep
set_option linter.unusedVariables false
set_option linter.unusedSimpArgs false
section
variable {H : Type} {enc0 : TypeId × Value → H} {P : Program} {W : World} {hd : Bool}
theorem reach_le {s : ByteArray} (h : s.data.toList.length ≤ reachBytes) : s.size ≤ 1000000000000000 := by
  have hr : reachBytes ≤ 1000000000000000 := by decide
  have : s.size = s.data.toList.length := rfl
  omega
end
end Go.BL
end
section
namespace Go.Proofs.YtkndmncgohmjmaaDoor
open Go.BL Go.RowKit
set_option linter.unusedVariables false
set_option linter.unusedSimpArgs false
set_option maxRecDepth 100000
open Go.ChangeShapes Go.WideShapes Go.ChangeAt Go.Joins Go.Deep
section
variable {H : Type} {enc0 : TypeId × Value → H} {W : World} {hd : Bool}
instance : Inhabited File := ⟨⟨0, ⟨#[]⟩, ⟨#[]⟩⟩⟩
end
end Go.Proofs.YtkndmncgohmjmaaDoor
end
