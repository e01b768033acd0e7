/- Walks of functions of the program and the laws they rest on (4 of 6). Conditions: none. -/
import Derived.Sort.LotD5
import Derived.Test.YtkndmncgohmjmaaGreatM3
section
namespace Go.Proofs.YtkndmncgohmjmaaGreat
open Go.BL Go.RowKit
set_option linter.unusedVariables false
set_option linter.unusedSimpArgs false
set_option maxRecDepth 100000
theorem d369_0_LSort6 : DrawL Tryz.prog 0 13 (.on [(0, true, true), (1, true, true), (2, true, true), (3, true, true), (4, true, true), (5, true, true), (6, true, true), (7, true, true), (8, true, false), (9, false, false), (10, false, false), (11, false, false), (12, false, true), (13, false, true), (14, false, true), (15, false, true)] .nil) := draw_L
theorem d369_1_LSort6 : DrawL Tryz.prog 0 31 (.on [(0, true, true), (1, false, true), (2, false, true), (3, false, true), (4, true, true), (5, true, true), (6, true, true), (7, true, true), (8, true, true), (9, true, false), (10, false, false), (11, false, false), (12, false, false), (13, false, true), (14, false, true), (15, false, true), (16, false, true)] .nil) := draw_L
theorem d369_2_LSort6 : DrawL Tryz.prog 0 50 (.on [(0, true, true), (1, false, true), (2, false, true), (3, false, true), (4, true, true), (5, true, true), (6, true, true), (7, true, true), (8, true, true), (9, true, false), (10, false, false), (11, false, false), (12, false, false), (13, false, true), (14, false, true), (15, false, true)] .nil) := draw_L
theorem d369_3_LSort6 : DrawL Tryz.prog 0 71 (.on [(0, true, true), (1, true, true), (2, true, true), (3, true, true), (4, true, true), (5, true, true), (6, true, true), (7, true, true), (8, true, false), (9, false, false), (10, false, false), (11, false, false), (12, false, true), (13, false, true), (14, false, true), (15, false, true)] .nil) := draw_L
theorem d370_0_LSort6 : DrawL Tryz.prog 0 14 (.on [(0, true, true), (1, true, true), (2, true, true), (3, true, true), (4, true, true), (5, true, true), (6, true, true), (7, true, true), (8, true, false), (9, false, false), (10, false, false), (11, false, false), (12, false, true), (13, false, true), (14, false, true), (15, false, true)] .nil) := draw_L
theorem d370_1_LSort6 : DrawL Tryz.prog 0 32 (.on [(0, true, true), (1, false, true), (2, false, true), (3, false, true), (4, true, true), (5, true, true), (6, true, true), (7, true, true), (8, true, true), (9, true, false), (10, false, false), (11, false, false), (12, false, false), (13, false, true), (14, false, true), (15, false, true)] .nil) := draw_L
theorem d370_2_LSort6 : DrawL Tryz.prog 0 50 (.on [(0, true, true), (1, false, true), (2, false, true), (3, false, true), (4, true, true), (5, true, true), (6, true, true), (7, true, true), (8, true, true), (9, true, false), (10, false, false), (11, false, false), (12, false, false), (13, false, true), (14, false, true), (15, false, true), (16, false, true)] .nil) := draw_L
theorem d370_3_LSort6 : DrawL Tryz.prog 0 72 (.on [(0, true, true), (1, true, true), (2, true, true), (3, true, true), (4, true, true), (5, true, true), (6, true, true), (7, true, true), (8, true, false), (9, false, false), (10, false, false), (11, false, false), (12, false, true), (13, false, true), (14, false, true), (15, false, true)] .nil) := draw_L
theorem d370_4_LSort6 : DrawL Tryz.prog 0 87 (.on [(0, true, true), (1, true, true), (2, true, true), (3, true, true), (4, true, true), (5, true, true), (6, true, true), (7, true, true), (8, true, false), (9, false, false), (10, false, false), (11, false, false), (12, false, true), (13, false, true), (14, false, true), (15, false, true)] .nil) := draw_L
theorem d370_5_LSort6 : DrawL Tryz.prog 0 105 (.on [(0, true, true), (1, false, true), (2, false, true), (3, false, true), (4, true, true), (5, true, true), (6, true, true), (7, true, true), (8, true, true), (9, true, false), (10, false, false), (11, false, false), (12, false, false), (13, false, true), (14, false, true), (15, false, true)] .nil) := draw_L
theorem d370_6_LSort6 : DrawL Tryz.prog 0 123 (.on [(0, true, true), (1, false, true), (2, false, true), (3, false, true), (4, true, true), (5, true, true), (6, true, true), (7, true, true), (8, true, true), (9, true, false), (10, false, false), (11, false, false), (12, false, false), (13, false, true), (14, false, true), (15, false, true), (16, false, true)] .nil) := draw_L
theorem d370_7_LSort6 : DrawL Tryz.prog 0 145 (.on [(0, true, true), (1, true, true), (2, true, true), (3, true, true), (4, true, true), (5, true, true), (6, true, true), (7, true, true), (8, true, false), (9, false, false), (10, false, false), (11, false, false), (12, false, true), (13, false, true), (14, false, true), (15, false, true)] .nil) := draw_L
theorem d370_8_LSort6 : DrawL Tryz.prog 0 163 (.on [(0, true, true), (1, true, true), (2, true, true), (3, true, true), (4, true, true), (5, true, true), (6, true, true), (7, true, true), (8, true, false), (9, false, false), (10, false, false), (11, false, false), (12, false, true), (13, false, true), (14, false, true), (15, false, true)] .nil) := draw_L
attribute [local go_sem] lotC
open Go.Sort
theorem su_go {p : Lot → Bool} {d : Array Lot} {i j : Nat} (h : i ≤ j) (hp : p d[i]! = true) : scanUp p d j i = scanUp p d j (i + 1) := by
  conv => lhs; rw [scanUp]
  rw [if_pos (by rw [decide_eq_true h, hp]; rfl)]
theorem su_stop {p : Lot → Bool} {d : Array Lot} {i j : Nat} (h : ¬ i ≤ j ∨ p d[i]! = false) : scanUp p d j i = i := by
  rw [scanUp, if_neg]
  rcases h with h | h
  · simp [h]
  · simp [h]
theorem sdn_go {p : Lot → Bool} {d : Array Lot} {i j : Nat} (h0 : 0 < j) (h : i ≤ j) (hp : p d[j]! = true) : scanDown p d i j = scanDown p d i (j - 1) := by
  obtain ⟨k, rfl⟩ : ∃ k, j = k + 1 := ⟨j - 1, by omega⟩
  rw [scanDown, if_pos (by rw [decide_eq_true h, hp]; rfl)]; rfl
theorem sdn_stop {p : Lot → Bool} {d : Array Lot} {i j : Nat} (h : ¬ i ≤ j ∨ p d[j]! = false) (h0 : 0 < i) : scanDown p d i j = j := by
  rcases j with _ | k
  · rfl
  · rw [scanDown, if_neg]
    rcases h with h | h
    · simp [h]
    · simp [h]
theorem pt_m {i j : Nat} (h : i ≤ j) : j + 1 - (i + 1) < j + 1 - i := by omega
theorem pt_dec {i i2 j j2 : Nat} (h1 : i ≤ i2) (h2 : j2 ≤ j) (h : ¬ i2 > j2) : (j2 - 1) + 1 - (i2 + 1) < j + 1 - i := guard_of h1 h2 h
theorem pt_wi {i n : Nat} (h : i < n) (hn : n ≤ 1000) : wrap64 ((i : Int) + 1) = ((i + 1 : Nat) : Int) := wrap_nat i (st_n h hn)
theorem pt_wj {j n : Nat} (h0 : 0 < j) (h : j < n) (hn : n ≤ 1000) : wrap64 ((j : Int) - 1) = ((j - 1 : Nat) : Int) := rv_w (n := 0) h0 (Nat.le_trans (Nat.le_of_lt h) hn)
theorem get_set_any (z : Array Lot) {i j : Nat} (hj : j < z.size) (x : Lot) : (z.toList.set i x)[j]? = some (if j = i then x else z[j]!) := by
  by_cases h : j = i
  · subst h
    rw [if_pos rfl]
    exact List.getElem?_set_self hj
  · rw [if_neg h]
    exact get_set_ne z hj h x
theorem pe_eq {a i j : Nat} {y : Array Lot} {i2 j2 : Nat} (h1 : scanUp (fun x => !lotLt y[a]! x) y j i = i2) (h2 : scanDown (fun x => lotLt y[a]! x) y i2 j = j2) : partEqLoop lotLt a i j y = if i2 > j2 then (i2, y) else partEqLoop lotLt a (i2 + 1) (j2 - 1) (swp y i2 j2) := by
  subst h1
  subst h2
  exact partEqLoop_eq lotLt a i j y
set_option maxHeartbeats 8000000 in
theorem s_partitionEqual (d : Array Lot) (n : Nat) (e : d.size = n) (g : Nat) (cap : Option Nat) (a b pivot : Nat) (hap : a ≤ pivot) (hpb : pivot < b) (hb : b ≤ n) (hn : n ≤ 1000) (K : AV → AH → Prop) (hk : K (.one (.c (.int .i64 (((partitionEqual lotLt d a b pivot).1 : Int))))) [arrO g cap (partitionEqual lotLt d a b pivot).2]) : ACalls Tryz.prog 369 [.one (.sl 0 g 0 n), (.one (.c (.int .i64 ((a : Int))))), (.one (.c (.int .i64 ((b : Int))))), (.one (.c (.int .i64 ((pivot : Int))))), .one (.clo 251 [])] [arrO g cap d] K := by
  have hpn : pivot < n := Nat.lt_of_lt_of_le hpb hb
  have han : a < n := Nat.lt_of_le_of_lt hap hpn
  have hb0 : 0 < b := Nat.lt_of_le_of_lt (Nat.zero_le _) hpb
  have ga := arr_get d (e ▸ han)
  have gp := arr_get d (e ▸ hpn)
  have la : (a : Int) < (n : Int) := Int.ofNat_lt.2 han
  have lp : (pivot : Int) < (n : Int) := Int.ofNat_lt.2 hpn
  have hsw0 := arr_swp d a pivot
  have hgs0 := fun z => get_set_any d (i := a) (j := pivot) (e ▸ hpn) z
  have wa := pt_wi han hn
  have wb := rv_w (n := 0) hb0 (Nat.le_trans hb hn)
  have hs0 : (swp d a pivot).size = n := by rw [swp_size]; exact e
  rw [partitionEqual] at hk
  refine acall_h Tryz.f369.results.toList mixed Tryz.func369 rfl rfl (by kernel_rfl) ?_
  intro Q hQ hQN
  simp only [go_sem, arrO]
  (try simp only [go_sem, ga, gp, la, lp, hsw0, hgs0, wa, wb]); repeat' (first | (with_reducible first | refine c_split ?_ ?_ | refine w_split ?_ ?_ | refine tw_split ?_ ?_) <;> intro hb <;> try simp only [go_sem, hb, ga, gp, la, lp, hsw0, hgs0, wa, wb] | (first | with_reducible refine d369_0_LSort6 (by with_unfolding_all rfl) (by kernel_rfl) ?_ | with_reducible refine d369_1_LSort6 (by with_unfolding_all rfl) (by kernel_rfl) ?_ | with_reducible refine d369_2_LSort6 (by with_unfolding_all rfl) (by kernel_rfl) ?_ | with_reducible refine d369_3_LSort6 (by with_unfolding_all rfl) (by kernel_rfl) ?_ | fail) <;> try simp only [go_sem, ga, gp, la, lp, hsw0, hgs0, wa, wb] | fail)
  refine while_at (α := Nat × Nat × Array Lot) (fun ⟨i, j, y⟩ => j + 1 - i) [0, 1, 4] (fun ⟨i, j, y⟩ f h => f 11 = (.one (.c (.int .i64 ((i : Int))))) ∧ f 12 = (.one (.c (.int .i64 ((j : Int))))) ∧ h = [.own g 112 5 cap (y.toList.map lotC)] ∧ 0 < i ∧ j < n ∧ y.size = n ∧ partEqLoop lotLt a (a + 1) (b - 1) (swp d a pivot) = partEqLoop lotLt a i j y) (a + 1, b - 1, swp d a pivot) (GC.now ?_) ?_
  · simp only [go_sem, nc_0, true_and, wa, wb]
    exact ⟨Nat.succ_pos _, Nat.lt_of_lt_of_le (Nat.sub_lt hb0 Nat.zero_lt_one) hb, hs0⟩
  · rintro ⟨i, j, y⟩ f h J hA ⟨e11, e12, rfl, hP⟩ hJ
    simp only [go_sem, wa, wb] at hA
    try dsimp only at hJ
    simp only [go_sem, hA, e11, e12, wa, wb]
    obtain ⟨hi0, hjn, hys, hm⟩ := hP
    have gya := arr_get y (hys ▸ han)
    have hA1 := hA
    have hJ1 := hJ
    have f1 := e11
    have f2 := e12
    have hii := hi0
    clear hJ
    refine while_at (α := Nat) (fun u => j + 1 - u) [0, 1, 4, 12] (fun u f h => f 11 = (.one (.c (.int .i64 ((u : Int))))) ∧ h = [.own g 112 5 cap (y.toList.map lotC)] ∧ i ≤ u ∧ scanUp (fun x => !lotLt y[a]! x) y j i = scanUp (fun x => !lotLt y[a]! x) y j u) i (GC.now ?_) ?_
    · simp only [go_sem, nc_0, true_and, hA1, f1, f2]
    · rintro u f h J hA ⟨e11, rfl, hP⟩ hJ
      simp only [go_sem, hA1, f1, f2] at hA
      try dsimp only at hJ
      simp only [go_sem, hA, e11, hA1, f1, f2]
      obtain ⟨hul, hsc⟩ := hP
      by_cases hij : u ≤ j
      · have hd : decide (((u : Nat) : Int) ≤ ((j : Nat) : Int)) = true := decide_eq_true (Int.ofNat_le.2 hij)
        have hun : u < n := Nat.lt_of_le_of_lt hij hjn
        have gu := arr_get y (hys ▸ hun)
        have lu : (u : Int) < (n : Int) := Int.ofNat_lt.2 hun
        have hw := pt_wi hun hn
        cases hc : lotLt y[a]! y[u]! with
        | true =>
          have kd : decide (lotCmp y[a]! y[u]! < 0) = true := by rw [← lotCmp_lt]; exact hc
          rw [su_stop (i := u) (.inr (show ((fun x => !lotLt y[a]! x)) y[u]! = false by simp [hc]))] at hsc
          (try simp only [go_sem, hA, e11, hA1, f1, f2, gya, la, hd, gu, lu, kd, hw]); repeat' (first | (with_reducible first | refine c_split ?_ ?_ | refine w_split ?_ ?_ | refine tw_split ?_ ?_) <;> intro hb <;> try simp only [go_sem, hb, hA, e11, hA1, f1, f2, gya, la, hd, gu, lu, kd, hw] | (first | with_reducible refine d369_0_LSort6 (by with_unfolding_all rfl) (by kernel_rfl) ?_ | with_reducible refine d369_1_LSort6 (by with_unfolding_all rfl) (by kernel_rfl) ?_ | with_reducible refine d369_2_LSort6 (by with_unfolding_all rfl) (by kernel_rfl) ?_ | with_reducible refine d369_3_LSort6 (by with_unfolding_all rfl) (by kernel_rfl) ?_ | refine call_c (c_lotBefore _ _ _ ?_) | fail) <;> try simp only [go_sem, hA, e11, hA1, f1, f2, gya, la, hd, gu, lu, kd, hw] | fail)
          obtain ⟨uu, huu⟩ : ∃ q : Nat, q = u := ⟨_, rfl⟩
          rw [← huu] at hul hsc
          have hsu := hsc
          have hulu := hul
          have f1u := e11
          rw [← huu] at f1u
          have hA2 := hA
          have hi0 : 0 < uu := Nat.lt_of_lt_of_le hii hulu
          clear hJ
          refine while_at (α := Nat) (fun u => u) [0, 1, 4, 11] (fun u f h => f 12 = (.one (.c (.int .i64 ((u : Int))))) ∧ h = [.own g 112 5 cap (y.toList.map lotC)] ∧ u ≤ j ∧ scanDown (fun x => lotLt y[a]! x) y uu j = scanDown (fun x => lotLt y[a]! x) y uu u) j (GC.now ?_) ?_
          · simp only [go_sem, nc_0, true_and, hA2, f1u, f2]
          · rintro u f h J hA ⟨e12, rfl, hP⟩ hJ
            simp only [go_sem, hA2, f1u, f2] at hA
            try dsimp only at hJ
            simp only [go_sem, hA, e12, hA2, f1u, f2]
            obtain ⟨hul, hsc⟩ := hP
            by_cases hij : uu ≤ u
            · have hd : decide (((uu : Nat) : Int) ≤ ((u : Nat) : Int)) = true := decide_eq_true (Int.ofNat_le.2 hij)
              have hun : u < n := Nat.lt_of_le_of_lt hul hjn
              have gu := arr_get y (hys ▸ hun)
              have lu : (u : Int) < (n : Int) := Int.ofNat_lt.2 hun
              have hu0 : 0 < u := Nat.lt_of_lt_of_le hi0 hij
              have hw := pt_wj hu0 hun hn
              cases hc : lotLt y[a]! y[u]! with
              | true =>
                have kd : decide (lotCmp y[a]! y[u]! < 0) = true := by rw [← lotCmp_lt]; exact hc
                rw [sdn_go (j := u) hu0 hij (show ((fun x => lotLt y[a]! x)) y[u]! = true by simp [hc])] at hsc
                (try simp only [go_sem, hA, e12, hA2, f1u, f2, gya, la, f1u, hd, gu, lu, kd, hw]); repeat' (first | (with_reducible first | refine c_split ?_ ?_ | refine w_split ?_ ?_ | refine tw_split ?_ ?_) <;> intro hb <;> try simp only [go_sem, hb, hA, e12, hA2, f1u, f2, gya, la, f1u, hd, gu, lu, kd, hw] | (first | with_reducible refine d369_0_LSort6 (by with_unfolding_all rfl) (by kernel_rfl) ?_ | with_reducible refine d369_1_LSort6 (by with_unfolding_all rfl) (by kernel_rfl) ?_ | with_reducible refine d369_2_LSort6 (by with_unfolding_all rfl) (by kernel_rfl) ?_ | with_reducible refine d369_3_LSort6 (by with_unfolding_all rfl) (by kernel_rfl) ?_ | refine call_c (c_lotBefore _ _ _ ?_) | fail) <;> try simp only [go_sem, hA, e12, hA2, f1u, f2, gya, la, f1u, hd, gu, lu, kd, hw] | fail)
                refine GC.now (hJ (u - 1) _ _ (by exact Nat.sub_lt hu0 Nat.zero_lt_one) (by simp only [go_sem, hA, e12, hA2, f1u, f2]) ⟨?_, ?_, ?_⟩) <;> try simp only [go_sem, hA, e12, hA2, f1u, f2, hw]
                exact ⟨Nat.le_trans (Nat.sub_le _ _) hul, hsc⟩
              | false =>
                have kd : decide (lotCmp y[a]! y[u]! < 0) = false := by rw [← lotCmp_lt]; exact hc
                rw [sdn_stop (j := u) (.inr (show ((fun x => lotLt y[a]! x)) y[u]! = false by simp [hc])) hi0] at hsc
                have hpe := pe_eq hsu hsc
                by_cases hgt : uu > u
                · have dg : decide (((u : Nat) : Int) < ((uu : Nat) : Int)) = true := decide_eq_true (Int.ofNat_lt.2 hgt)
                  rw [if_pos hgt] at hpe
                  rw [hm, hpe] at hk
                  (try simp only [go_sem, hA, e12, hA2, f1u, f2, gya, la, f1u, hd, gu, lu, kd, hw, dg]); repeat' (first | (with_reducible first | refine c_split ?_ ?_ | refine w_split ?_ ?_ | refine tw_split ?_ ?_) <;> intro hb <;> try simp only [go_sem, hb, hA, e12, hA2, f1u, f2, gya, la, f1u, hd, gu, lu, kd, hw, dg] | (first | with_reducible refine d369_0_LSort6 (by with_unfolding_all rfl) (by kernel_rfl) ?_ | with_reducible refine d369_1_LSort6 (by with_unfolding_all rfl) (by kernel_rfl) ?_ | with_reducible refine d369_2_LSort6 (by with_unfolding_all rfl) (by kernel_rfl) ?_ | with_reducible refine d369_3_LSort6 (by with_unfolding_all rfl) (by kernel_rfl) ?_ | refine call_c (c_lotBefore _ _ _ ?_) | fail) <;> try simp only [go_sem, hA, e12, hA2, f1u, f2, gya, la, f1u, hd, gu, lu, kd, hw, dg] | fail)
                  refine hQ [] _ _ (GC.now ?_) <;> simp only [Tryz.f369, go_sem, List.nodup_cons, List.nodup_nil, List.mem_cons, List.not_mem_nil, or_false, not_false_eq_true, List.idxOf?_cons, List.idxOf?_nil, Option.map_none, forall_eq]
                  exact hk
                · have dg : decide (((u : Nat) : Int) < ((uu : Nat) : Int)) = false := decide_eq_false (fun q => hgt (Int.ofNat_lt.1 q))
                  rw [if_neg hgt] at hpe
                  rw [hpe] at hm
                  have hle : uu ≤ u := Nat.le_of_not_gt hgt
                  have hun2 : u < n := Nat.lt_of_le_of_lt hul hjn
                  have huun : uu < n := Nat.lt_of_le_of_lt hle hun2
                  have hu0 : 0 < u := Nat.lt_of_lt_of_le hi0 hle
                  have gu2 := arr_get y (hys ▸ hun2)
                  have gu1 := arr_get y (hys ▸ huun)
                  have lu2 : (u : Int) < (n : Int) := Int.ofNat_lt.2 hun2
                  have lu1 : (uu : Int) < (n : Int) := Int.ofNat_lt.2 huun
                  have hsw := arr_swp y uu u
                  have hgs := fun z => get_set_any y (i := uu) (j := u) (hys ▸ hun2) z
                  have wu1 := pt_wi huun hn
                  have wu2 := pt_wj hu0 hun2 hn
                  (try simp only [go_sem, hA, e12, hA2, f1u, f2, gya, la, f1u, hd, gu, lu, kd, hw, dg, gu1, gu2, lu1, lu2, hsw, hgs, wu1, wu2]); repeat' (first | (with_reducible first | refine c_split ?_ ?_ | refine w_split ?_ ?_ | refine tw_split ?_ ?_) <;> intro hb <;> try simp only [go_sem, hb, hA, e12, hA2, f1u, f2, gya, la, f1u, hd, gu, lu, kd, hw, dg, gu1, gu2, lu1, lu2, hsw, hgs, wu1, wu2] | (first | with_reducible refine d369_0_LSort6 (by with_unfolding_all rfl) (by kernel_rfl) ?_ | with_reducible refine d369_1_LSort6 (by with_unfolding_all rfl) (by kernel_rfl) ?_ | with_reducible refine d369_2_LSort6 (by with_unfolding_all rfl) (by kernel_rfl) ?_ | with_reducible refine d369_3_LSort6 (by with_unfolding_all rfl) (by kernel_rfl) ?_ | refine call_c (c_lotBefore _ _ _ ?_) | fail) <;> try simp only [go_sem, hA, e12, hA2, f1u, f2, gya, la, f1u, hd, gu, lu, kd, hw, dg, gu1, gu2, lu1, lu2, hsw, hgs, wu1, wu2] | fail)
                  refine GC.now (hJ1 (uu + 1, u - 1, swp y uu u) _ _ (pt_dec hulu hul hgt) (by simp only [go_sem, hA, e12, hA2, f1u, f2]) ⟨?_, ?_, ?_, ?_⟩) <;> try simp only [go_sem, hA, e12, hA2, f1u, f2, wu1, wu2, hsw]
                  exact ⟨Nat.succ_pos _, Nat.lt_of_le_of_lt (Nat.sub_le _ _) hun2, by rw [swp_size]; exact hys, hm⟩
            · have hd : decide (((uu : Nat) : Int) ≤ ((u : Nat) : Int)) = false := decide_eq_false (fun q => hij (Int.ofNat_le.1 q))
              rw [sdn_stop (j := u) (.inl hij) hi0] at hsc
              have hpe := pe_eq hsu hsc
              by_cases hgt : uu > u
              · have dg : decide (((u : Nat) : Int) < ((uu : Nat) : Int)) = true := decide_eq_true (Int.ofNat_lt.2 hgt)
                rw [if_pos hgt] at hpe
                rw [hm, hpe] at hk
                (try simp only [go_sem, hA, e12, hA2, f1u, f2, gya, la, f1u, hd, dg]); repeat' (first | (with_reducible first | refine c_split ?_ ?_ | refine w_split ?_ ?_ | refine tw_split ?_ ?_) <;> intro hb <;> try simp only [go_sem, hb, hA, e12, hA2, f1u, f2, gya, la, f1u, hd, dg] | (first | with_reducible refine d369_0_LSort6 (by with_unfolding_all rfl) (by kernel_rfl) ?_ | with_reducible refine d369_1_LSort6 (by with_unfolding_all rfl) (by kernel_rfl) ?_ | with_reducible refine d369_2_LSort6 (by with_unfolding_all rfl) (by kernel_rfl) ?_ | with_reducible refine d369_3_LSort6 (by with_unfolding_all rfl) (by kernel_rfl) ?_ | fail) <;> try simp only [go_sem, hA, e12, hA2, f1u, f2, gya, la, f1u, hd, dg] | fail)
                refine hQ [] _ _ (GC.now ?_) <;> simp only [Tryz.f369, go_sem, List.nodup_cons, List.nodup_nil, List.mem_cons, List.not_mem_nil, or_false, not_false_eq_true, List.idxOf?_cons, List.idxOf?_nil, Option.map_none, forall_eq]
                exact hk
              · have dg : decide (((u : Nat) : Int) < ((uu : Nat) : Int)) = false := decide_eq_false (fun q => hgt (Int.ofNat_lt.1 q))
                rw [if_neg hgt] at hpe
                rw [hpe] at hm
                have hle : uu ≤ u := Nat.le_of_not_gt hgt
                have hun2 : u < n := Nat.lt_of_le_of_lt hul hjn
                have huun : uu < n := Nat.lt_of_le_of_lt hle hun2
                have hu0 : 0 < u := Nat.lt_of_lt_of_le hi0 hle
                have gu2 := arr_get y (hys ▸ hun2)
                have gu1 := arr_get y (hys ▸ huun)
                have lu2 : (u : Int) < (n : Int) := Int.ofNat_lt.2 hun2
                have lu1 : (uu : Int) < (n : Int) := Int.ofNat_lt.2 huun
                have hsw := arr_swp y uu u
                have hgs := fun z => get_set_any y (i := uu) (j := u) (hys ▸ hun2) z
                have wu1 := pt_wi huun hn
                have wu2 := pt_wj hu0 hun2 hn
                (try simp only [go_sem, hA, e12, hA2, f1u, f2, gya, la, f1u, hd, dg, gu1, gu2, lu1, lu2, hsw, hgs, wu1, wu2]); repeat' (first | (with_reducible first | refine c_split ?_ ?_ | refine w_split ?_ ?_ | refine tw_split ?_ ?_) <;> intro hb <;> try simp only [go_sem, hb, hA, e12, hA2, f1u, f2, gya, la, f1u, hd, dg, gu1, gu2, lu1, lu2, hsw, hgs, wu1, wu2] | (first | with_reducible refine d369_0_LSort6 (by with_unfolding_all rfl) (by kernel_rfl) ?_ | with_reducible refine d369_1_LSort6 (by with_unfolding_all rfl) (by kernel_rfl) ?_ | with_reducible refine d369_2_LSort6 (by with_unfolding_all rfl) (by kernel_rfl) ?_ | with_reducible refine d369_3_LSort6 (by with_unfolding_all rfl) (by kernel_rfl) ?_ | fail) <;> try simp only [go_sem, hA, e12, hA2, f1u, f2, gya, la, f1u, hd, dg, gu1, gu2, lu1, lu2, hsw, hgs, wu1, wu2] | fail)
                refine GC.now (hJ1 (uu + 1, u - 1, swp y uu u) _ _ (pt_dec hulu hul hgt) (by simp only [go_sem, hA, e12, hA2, f1u, f2]) ⟨?_, ?_, ?_, ?_⟩) <;> try simp only [go_sem, hA, e12, hA2, f1u, f2, wu1, wu2, hsw]
                exact ⟨Nat.succ_pos _, Nat.lt_of_le_of_lt (Nat.sub_le _ _) hun2, by rw [swp_size]; exact hys, hm⟩
        | false =>
          have kd : decide (lotCmp y[a]! y[u]! < 0) = false := by rw [← lotCmp_lt]; exact hc
          rw [su_go (i := u) hij (show ((fun x => !lotLt y[a]! x)) y[u]! = true by simp [hc])] at hsc
          (try simp only [go_sem, hA, e11, hA1, f1, f2, gya, la, hd, gu, lu, kd, hw]); repeat' (first | (with_reducible first | refine c_split ?_ ?_ | refine w_split ?_ ?_ | refine tw_split ?_ ?_) <;> intro hb <;> try simp only [go_sem, hb, hA, e11, hA1, f1, f2, gya, la, hd, gu, lu, kd, hw] | (first | with_reducible refine d369_0_LSort6 (by with_unfolding_all rfl) (by kernel_rfl) ?_ | with_reducible refine d369_1_LSort6 (by with_unfolding_all rfl) (by kernel_rfl) ?_ | with_reducible refine d369_2_LSort6 (by with_unfolding_all rfl) (by kernel_rfl) ?_ | with_reducible refine d369_3_LSort6 (by with_unfolding_all rfl) (by kernel_rfl) ?_ | refine call_c (c_lotBefore _ _ _ ?_) | fail) <;> try simp only [go_sem, hA, e11, hA1, f1, f2, gya, la, hd, gu, lu, kd, hw] | fail)
          refine GC.now (hJ (u + 1) _ _ (by exact pt_m hij) (by simp only [go_sem, hA, e11, hA1, f1, f2]) ⟨?_, ?_, ?_⟩) <;> try simp only [go_sem, hA, e11, hA1, f1, f2, hw]
          exact ⟨Nat.le_succ_of_le hul, hsc⟩
      · have hd : decide (((u : Nat) : Int) ≤ ((j : Nat) : Int)) = false := decide_eq_false (fun q => hij (Int.ofNat_le.1 q))
        rw [su_stop (i := u) (.inl hij)] at hsc
        (try simp only [go_sem, hA, e11, hA1, f1, f2, gya, la, hd]); repeat' (first | (with_reducible first | refine c_split ?_ ?_ | refine w_split ?_ ?_ | refine tw_split ?_ ?_) <;> intro hb <;> try simp only [go_sem, hb, hA, e11, hA1, f1, f2, gya, la, hd] | (first | with_reducible refine d369_0_LSort6 (by with_unfolding_all rfl) (by kernel_rfl) ?_ | with_reducible refine d369_1_LSort6 (by with_unfolding_all rfl) (by kernel_rfl) ?_ | with_reducible refine d369_2_LSort6 (by with_unfolding_all rfl) (by kernel_rfl) ?_ | with_reducible refine d369_3_LSort6 (by with_unfolding_all rfl) (by kernel_rfl) ?_ | fail) <;> try simp only [go_sem, hA, e11, hA1, f1, f2, gya, la, hd] | fail)
        obtain ⟨uu, huu⟩ : ∃ q : Nat, q = u := ⟨_, rfl⟩
        rw [← huu] at hul hsc
        have hsu := hsc
        have hulu := hul
        have f1u := e11
        rw [← huu] at f1u
        have hA2 := hA
        have hi0 : 0 < uu := Nat.lt_of_lt_of_le hii hulu
        clear hJ
        refine while_at (α := Nat) (fun u => u) [0, 1, 4, 11] (fun u f h => f 12 = (.one (.c (.int .i64 ((u : Int))))) ∧ h = [.own g 112 5 cap (y.toList.map lotC)] ∧ u ≤ j ∧ scanDown (fun x => lotLt y[a]! x) y uu j = scanDown (fun x => lotLt y[a]! x) y uu u) j (GC.now ?_) ?_
        · simp only [go_sem, nc_0, true_and, hA2, f1u, f2]
        · rintro u f h J hA ⟨e12, rfl, hP⟩ hJ
          simp only [go_sem, hA2, f1u, f2] at hA
          try dsimp only at hJ
          simp only [go_sem, hA, e12, hA2, f1u, f2]
          obtain ⟨hul, hsc⟩ := hP
          by_cases hij : uu ≤ u
          · have hd : decide (((uu : Nat) : Int) ≤ ((u : Nat) : Int)) = true := decide_eq_true (Int.ofNat_le.2 hij)
            have hun : u < n := Nat.lt_of_le_of_lt hul hjn
            have gu := arr_get y (hys ▸ hun)
            have lu : (u : Int) < (n : Int) := Int.ofNat_lt.2 hun
            have hu0 : 0 < u := Nat.lt_of_lt_of_le hi0 hij
            have hw := pt_wj hu0 hun hn
            cases hc : lotLt y[a]! y[u]! with
            | true =>
              have kd : decide (lotCmp y[a]! y[u]! < 0) = true := by rw [← lotCmp_lt]; exact hc
              rw [sdn_go (j := u) hu0 hij (show ((fun x => lotLt y[a]! x)) y[u]! = true by simp [hc])] at hsc
              (try simp only [go_sem, hA, e12, hA2, f1u, f2, gya, la, f1u, hd, gu, lu, kd, hw]); repeat' (first | (with_reducible first | refine c_split ?_ ?_ | refine w_split ?_ ?_ | refine tw_split ?_ ?_) <;> intro hb <;> try simp only [go_sem, hb, hA, e12, hA2, f1u, f2, gya, la, f1u, hd, gu, lu, kd, hw] | (first | with_reducible refine d369_0_LSort6 (by with_unfolding_all rfl) (by kernel_rfl) ?_ | with_reducible refine d369_1_LSort6 (by with_unfolding_all rfl) (by kernel_rfl) ?_ | with_reducible refine d369_2_LSort6 (by with_unfolding_all rfl) (by kernel_rfl) ?_ | with_reducible refine d369_3_LSort6 (by with_unfolding_all rfl) (by kernel_rfl) ?_ | refine call_c (c_lotBefore _ _ _ ?_) | fail) <;> try simp only [go_sem, hA, e12, hA2, f1u, f2, gya, la, f1u, hd, gu, lu, kd, hw] | fail)
              refine GC.now (hJ (u - 1) _ _ (by exact Nat.sub_lt hu0 Nat.zero_lt_one) (by simp only [go_sem, hA, e12, hA2, f1u, f2]) ⟨?_, ?_, ?_⟩) <;> try simp only [go_sem, hA, e12, hA2, f1u, f2, hw]
              exact ⟨Nat.le_trans (Nat.sub_le _ _) hul, hsc⟩
            | false =>
              have kd : decide (lotCmp y[a]! y[u]! < 0) = false := by rw [← lotCmp_lt]; exact hc
              rw [sdn_stop (j := u) (.inr (show ((fun x => lotLt y[a]! x)) y[u]! = false by simp [hc])) hi0] at hsc
              have hpe := pe_eq hsu hsc
              by_cases hgt : uu > u
              · have dg : decide (((u : Nat) : Int) < ((uu : Nat) : Int)) = true := decide_eq_true (Int.ofNat_lt.2 hgt)
                rw [if_pos hgt] at hpe
                rw [hm, hpe] at hk
                (try simp only [go_sem, hA, e12, hA2, f1u, f2, gya, la, f1u, hd, gu, lu, kd, hw, dg]); repeat' (first | (with_reducible first | refine c_split ?_ ?_ | refine w_split ?_ ?_ | refine tw_split ?_ ?_) <;> intro hb <;> try simp only [go_sem, hb, hA, e12, hA2, f1u, f2, gya, la, f1u, hd, gu, lu, kd, hw, dg] | (first | with_reducible refine d369_0_LSort6 (by with_unfolding_all rfl) (by kernel_rfl) ?_ | with_reducible refine d369_1_LSort6 (by with_unfolding_all rfl) (by kernel_rfl) ?_ | with_reducible refine d369_2_LSort6 (by with_unfolding_all rfl) (by kernel_rfl) ?_ | with_reducible refine d369_3_LSort6 (by with_unfolding_all rfl) (by kernel_rfl) ?_ | refine call_c (c_lotBefore _ _ _ ?_) | fail) <;> try simp only [go_sem, hA, e12, hA2, f1u, f2, gya, la, f1u, hd, gu, lu, kd, hw, dg] | fail)
                refine hQ [] _ _ (GC.now ?_) <;> simp only [Tryz.f369, go_sem, List.nodup_cons, List.nodup_nil, List.mem_cons, List.not_mem_nil, or_false, not_false_eq_true, List.idxOf?_cons, List.idxOf?_nil, Option.map_none, forall_eq]
                exact hk
              · have dg : decide (((u : Nat) : Int) < ((uu : Nat) : Int)) = false := decide_eq_false (fun q => hgt (Int.ofNat_lt.1 q))
                rw [if_neg hgt] at hpe
                rw [hpe] at hm
                have hle : uu ≤ u := Nat.le_of_not_gt hgt
                have hun2 : u < n := Nat.lt_of_le_of_lt hul hjn
                have huun : uu < n := Nat.lt_of_le_of_lt hle hun2
                have hu0 : 0 < u := Nat.lt_of_lt_of_le hi0 hle
                have gu2 := arr_get y (hys ▸ hun2)
                have gu1 := arr_get y (hys ▸ huun)
                have lu2 : (u : Int) < (n : Int) := Int.ofNat_lt.2 hun2
                have lu1 : (uu : Int) < (n : Int) := Int.ofNat_lt.2 huun
                have hsw := arr_swp y uu u
                have hgs := fun z => get_set_any y (i := uu) (j := u) (hys ▸ hun2) z
                have wu1 := pt_wi huun hn
                have wu2 := pt_wj hu0 hun2 hn
                (try simp only [go_sem, hA, e12, hA2, f1u, f2, gya, la, f1u, hd, gu, lu, kd, hw, dg, gu1, gu2, lu1, lu2, hsw, hgs, wu1, wu2]); repeat' (first | (with_reducible first | refine c_split ?_ ?_ | refine w_split ?_ ?_ | refine tw_split ?_ ?_) <;> intro hb <;> try simp only [go_sem, hb, hA, e12, hA2, f1u, f2, gya, la, f1u, hd, gu, lu, kd, hw, dg, gu1, gu2, lu1, lu2, hsw, hgs, wu1, wu2] | (first | with_reducible refine d369_0_LSort6 (by with_unfolding_all rfl) (by kernel_rfl) ?_ | with_reducible refine d369_1_LSort6 (by with_unfolding_all rfl) (by kernel_rfl) ?_ | with_reducible refine d369_2_LSort6 (by with_unfolding_all rfl) (by kernel_rfl) ?_ | with_reducible refine d369_3_LSort6 (by with_unfolding_all rfl) (by kernel_rfl) ?_ | refine call_c (c_lotBefore _ _ _ ?_) | fail) <;> try simp only [go_sem, hA, e12, hA2, f1u, f2, gya, la, f1u, hd, gu, lu, kd, hw, dg, gu1, gu2, lu1, lu2, hsw, hgs, wu1, wu2] | fail)
                refine GC.now (hJ1 (uu + 1, u - 1, swp y uu u) _ _ (pt_dec hulu hul hgt) (by simp only [go_sem, hA, e12, hA2, f1u, f2]) ⟨?_, ?_, ?_, ?_⟩) <;> try simp only [go_sem, hA, e12, hA2, f1u, f2, wu1, wu2, hsw]
                exact ⟨Nat.succ_pos _, Nat.lt_of_le_of_lt (Nat.sub_le _ _) hun2, by rw [swp_size]; exact hys, hm⟩
          · have hd : decide (((uu : Nat) : Int) ≤ ((u : Nat) : Int)) = false := decide_eq_false (fun q => hij (Int.ofNat_le.1 q))
            rw [sdn_stop (j := u) (.inl hij) hi0] at hsc
            have hpe := pe_eq hsu hsc
            by_cases hgt : uu > u
            · have dg : decide (((u : Nat) : Int) < ((uu : Nat) : Int)) = true := decide_eq_true (Int.ofNat_lt.2 hgt)
              rw [if_pos hgt] at hpe
              rw [hm, hpe] at hk
              (try simp only [go_sem, hA, e12, hA2, f1u, f2, gya, la, f1u, hd, dg]); repeat' (first | (with_reducible first | refine c_split ?_ ?_ | refine w_split ?_ ?_ | refine tw_split ?_ ?_) <;> intro hb <;> try simp only [go_sem, hb, hA, e12, hA2, f1u, f2, gya, la, f1u, hd, dg] | (first | with_reducible refine d369_0_LSort6 (by with_unfolding_all rfl) (by kernel_rfl) ?_ | with_reducible refine d369_1_LSort6 (by with_unfolding_all rfl) (by kernel_rfl) ?_ | with_reducible refine d369_2_LSort6 (by with_unfolding_all rfl) (by kernel_rfl) ?_ | with_reducible refine d369_3_LSort6 (by with_unfolding_all rfl) (by kernel_rfl) ?_ | fail) <;> try simp only [go_sem, hA, e12, hA2, f1u, f2, gya, la, f1u, hd, dg] | fail)
              refine hQ [] _ _ (GC.now ?_) <;> simp only [Tryz.f369, go_sem, List.nodup_cons, List.nodup_nil, List.mem_cons, List.not_mem_nil, or_false, not_false_eq_true, List.idxOf?_cons, List.idxOf?_nil, Option.map_none, forall_eq]
              exact hk
            · have dg : decide (((u : Nat) : Int) < ((uu : Nat) : Int)) = false := decide_eq_false (fun q => hgt (Int.ofNat_lt.1 q))
              rw [if_neg hgt] at hpe
              rw [hpe] at hm
              have hle : uu ≤ u := Nat.le_of_not_gt hgt
              have hun2 : u < n := Nat.lt_of_le_of_lt hul hjn
              have huun : uu < n := Nat.lt_of_le_of_lt hle hun2
              have hu0 : 0 < u := Nat.lt_of_lt_of_le hi0 hle
              have gu2 := arr_get y (hys ▸ hun2)
              have gu1 := arr_get y (hys ▸ huun)
              have lu2 : (u : Int) < (n : Int) := Int.ofNat_lt.2 hun2
              have lu1 : (uu : Int) < (n : Int) := Int.ofNat_lt.2 huun
              have hsw := arr_swp y uu u
              have hgs := fun z => get_set_any y (i := uu) (j := u) (hys ▸ hun2) z
              have wu1 := pt_wi huun hn
              have wu2 := pt_wj hu0 hun2 hn
              (try simp only [go_sem, hA, e12, hA2, f1u, f2, gya, la, f1u, hd, dg, gu1, gu2, lu1, lu2, hsw, hgs, wu1, wu2]); repeat' (first | (with_reducible first | refine c_split ?_ ?_ | refine w_split ?_ ?_ | refine tw_split ?_ ?_) <;> intro hb <;> try simp only [go_sem, hb, hA, e12, hA2, f1u, f2, gya, la, f1u, hd, dg, gu1, gu2, lu1, lu2, hsw, hgs, wu1, wu2] | (first | with_reducible refine d369_0_LSort6 (by with_unfolding_all rfl) (by kernel_rfl) ?_ | with_reducible refine d369_1_LSort6 (by with_unfolding_all rfl) (by kernel_rfl) ?_ | with_reducible refine d369_2_LSort6 (by with_unfolding_all rfl) (by kernel_rfl) ?_ | with_reducible refine d369_3_LSort6 (by with_unfolding_all rfl) (by kernel_rfl) ?_ | fail) <;> try simp only [go_sem, hA, e12, hA2, f1u, f2, gya, la, f1u, hd, dg, gu1, gu2, lu1, lu2, hsw, hgs, wu1, wu2] | fail)
              refine GC.now (hJ1 (uu + 1, u - 1, swp y uu u) _ _ (pt_dec hulu hul hgt) (by simp only [go_sem, hA, e12, hA2, f1u, f2]) ⟨?_, ?_, ?_, ?_⟩) <;> try simp only [go_sem, hA, e12, hA2, f1u, f2, wu1, wu2, hsw]
              exact ⟨Nat.succ_pos _, Nat.lt_of_le_of_lt (Nat.sub_le _ _) hun2, by rw [swp_size]; exact hys, hm⟩
theorem pt_eq {a i j : Nat} {y : Array Lot} {i2 j2 : Nat} (h1 : scanUp (fun x => lotLt x y[a]!) y j i = i2) (h2 : scanDown (fun x => !lotLt x y[a]!) y i2 j = j2) : partLoop lotLt a i j y = if i2 > j2 then (j2, y) else partLoop lotLt a (i2 + 1) (j2 - 1) (swp y i2 j2) := by
  subst h1
  subst h2
  exact partLoop_eq lotLt a i j y
theorem pt_top {d y0 : Array Lot} {a b pivot i0 j0 i2 j2 : Nat} (h0 : swp d a pivot = y0) (hi : a + 1 = i0) (hj : b - 1 = j0) (h1 : scanUp (fun x => lotLt x y0[a]!) y0 j0 i0 = i2) (h2 : scanDown (fun x => !lotLt x y0[a]!) y0 i2 j0 = j2) : partition lotLt d a b pivot = if i2 > j2 then (j2, true, swp y0 j2 a) else ((partLoop lotLt a (i2 + 1) (j2 - 1) (swp y0 i2 j2)).1, false, swp (partLoop lotLt a (i2 + 1) (j2 - 1) (swp y0 i2 j2)).2 (partLoop lotLt a (i2 + 1) (j2 - 1) (swp y0 i2 j2)).1 a) := by
  subst h0
  subst hi
  subst hj
  subst h1
  subst h2
  rfl
set_option maxHeartbeats 8000000 in
theorem s_partition (d : Array Lot) (n : Nat) (e : d.size = n) (g : Nat) (cap : Option Nat) (a b pivot : Nat) (hap : a ≤ pivot) (hpb : pivot < b) (hb : b ≤ n) (hn : n ≤ 1000) (K : AV → AH → Prop) (hk : K (.tup [(.one (.c (.int .i64 (((partition lotLt d a b pivot).1 : Int))))), (.one (.c (.bool ((partition lotLt d a b pivot).2.1))))]) [arrO g cap (partition lotLt d a b pivot).2.2]) : ACalls Tryz.prog 370 [.one (.sl 0 g 0 n), (.one (.c (.int .i64 ((a : Int))))), (.one (.c (.int .i64 ((b : Int))))), (.one (.c (.int .i64 ((pivot : Int))))), .one (.clo 251 [])] [arrO g cap d] K := by
  have hpn : pivot < n := Nat.lt_of_lt_of_le hpb hb
  have han : a < n := Nat.lt_of_le_of_lt hap hpn
  have hb0 : 0 < b := Nat.lt_of_le_of_lt (Nat.zero_le _) hpb
  have ga := arr_get d (e ▸ han)
  have gp := arr_get d (e ▸ hpn)
  have la : (a : Int) < (n : Int) := Int.ofNat_lt.2 han
  have lp : (pivot : Int) < (n : Int) := Int.ofNat_lt.2 hpn
  have hsw0 := arr_swp d a pivot
  have hgs0 := fun z => get_set_any d (i := a) (j := pivot) (e ▸ hpn) z
  have wa := pt_wi han hn
  have wb := rv_w (n := 0) hb0 (Nat.le_trans hb hn)
  have hys : (swp d a pivot).size = n := by rw [swp_size]; exact e
  have hjn : b - 1 < n := Nat.lt_of_lt_of_le (Nat.sub_lt hb0 Nat.zero_lt_one) hb
  have hii : 0 < a + 1 := Nat.succ_pos a
  obtain ⟨y0, hy0⟩ : ∃ q, swp d a pivot = q := ⟨_, rfl⟩
  obtain ⟨i0, hi00⟩ : ∃ q, a + 1 = q := ⟨_, rfl⟩
  obtain ⟨j0, hj00⟩ : ∃ q, b - 1 = q := ⟨_, rfl⟩
  have htop := fun (i2 j2 : Nat) h1 h2 => pt_top (i2 := i2) (j2 := j2) hy0 hi00 hj00 h1 h2
  rw [hy0] at hsw0 hys
  rw [hi00] at wa hii
  rw [hj00] at wb hjn
  have gya := arr_get y0 (hys ▸ han)
  refine acall_h Tryz.f370.results.toList mixed Tryz.func370 rfl rfl (by kernel_rfl) ?_
  intro Q hQ hQN
  simp only [go_sem, arrO]
  (try simp only [go_sem, ga, gp, la, lp, hsw0, hgs0, wa, wb]); repeat' (first | (with_reducible first | refine c_split ?_ ?_ | refine w_split ?_ ?_ | refine tw_split ?_ ?_) <;> intro hb <;> try simp only [go_sem, hb, ga, gp, la, lp, hsw0, hgs0, wa, wb] | (first | with_reducible refine d370_0_LSort6 (by with_unfolding_all rfl) (by kernel_rfl) ?_ | with_reducible refine d370_1_LSort6 (by with_unfolding_all rfl) (by kernel_rfl) ?_ | with_reducible refine d370_2_LSort6 (by with_unfolding_all rfl) (by kernel_rfl) ?_ | with_reducible refine d370_3_LSort6 (by with_unfolding_all rfl) (by kernel_rfl) ?_ | with_reducible refine d370_4_LSort6 (by with_unfolding_all rfl) (by kernel_rfl) ?_ | with_reducible refine d370_5_LSort6 (by with_unfolding_all rfl) (by kernel_rfl) ?_ | with_reducible refine d370_6_LSort6 (by with_unfolding_all rfl) (by kernel_rfl) ?_ | with_reducible refine d370_7_LSort6 (by with_unfolding_all rfl) (by kernel_rfl) ?_ | with_reducible refine d370_8_LSort6 (by with_unfolding_all rfl) (by kernel_rfl) ?_ | fail) <;> try simp only [go_sem, ga, gp, la, lp, hsw0, hgs0, wa, wb] | fail)
  refine while_at (α := Nat) (fun u => j0 + 1 - u) [0, 1, 4, 13] (fun u f h => f 12 = (.one (.c (.int .i64 ((u : Int))))) ∧ h = [.own g 112 5 cap (y0.toList.map lotC)] ∧ i0 ≤ u ∧ scanUp (fun x => lotLt x y0[a]!) y0 j0 i0 = scanUp (fun x => lotLt x y0[a]!) y0 j0 u) i0 (GC.now ?_) ?_
  · simp only [go_sem, nc_0, true_and, wa, wb]
  · rintro u f h J hA ⟨e12, rfl, hP⟩ hJ
    simp only [go_sem, wa, wb] at hA
    try dsimp only at hJ
    simp only [go_sem, hA, e12, wa, wb]
    obtain ⟨hul, hsc⟩ := hP
    by_cases hij : u ≤ j0
    · have hd : decide (((u : Nat) : Int) ≤ ((j0 : Nat) : Int)) = true := decide_eq_true (Int.ofNat_le.2 hij)
      have hun : u < n := Nat.lt_of_le_of_lt hij hjn
      have gu := arr_get y0 (hys ▸ hun)
      have lu : (u : Int) < (n : Int) := Int.ofNat_lt.2 hun
      have hw := pt_wi hun hn
      cases hc : lotLt y0[u]! y0[a]! with
      | true =>
        have kd : decide (lotCmp y0[u]! y0[a]! < 0) = true := by rw [← lotCmp_lt]; exact hc
        rw [su_go (i := u) hij (show ((fun x => lotLt x y0[a]!)) y0[u]! = true by simp [hc])] at hsc
        (try simp only [go_sem, hA, e12, wa, wb, gya, la, hd, gu, lu, kd, hw]); repeat' (first | (with_reducible first | refine c_split ?_ ?_ | refine w_split ?_ ?_ | refine tw_split ?_ ?_) <;> intro hb <;> try simp only [go_sem, hb, hA, e12, wa, wb, gya, la, hd, gu, lu, kd, hw] | (first | with_reducible refine d370_0_LSort6 (by with_unfolding_all rfl) (by kernel_rfl) ?_ | with_reducible refine d370_1_LSort6 (by with_unfolding_all rfl) (by kernel_rfl) ?_ | with_reducible refine d370_2_LSort6 (by with_unfolding_all rfl) (by kernel_rfl) ?_ | with_reducible refine d370_3_LSort6 (by with_unfolding_all rfl) (by kernel_rfl) ?_ | with_reducible refine d370_4_LSort6 (by with_unfolding_all rfl) (by kernel_rfl) ?_ | with_reducible refine d370_5_LSort6 (by with_unfolding_all rfl) (by kernel_rfl) ?_ | with_reducible refine d370_6_LSort6 (by with_unfolding_all rfl) (by kernel_rfl) ?_ | with_reducible refine d370_7_LSort6 (by with_unfolding_all rfl) (by kernel_rfl) ?_ | with_reducible refine d370_8_LSort6 (by with_unfolding_all rfl) (by kernel_rfl) ?_ | refine call_c (c_lotBefore _ _ _ ?_) | fail) <;> try simp only [go_sem, hA, e12, wa, wb, gya, la, hd, gu, lu, kd, hw] | fail)
        refine GC.now (hJ (u + 1) _ _ (by exact pt_m hij) (by simp only [go_sem, hA, e12, wa, wb]) ⟨?_, ?_, ?_⟩) <;> try simp only [go_sem, hA, e12, wa, wb, hw]
        exact ⟨Nat.le_succ_of_le hul, hsc⟩
      | false =>
        have kd : decide (lotCmp y0[u]! y0[a]! < 0) = false := by rw [← lotCmp_lt]; exact hc
        rw [su_stop (i := u) (.inr (show ((fun x => lotLt x y0[a]!)) y0[u]! = false by simp [hc]))] at hsc
        (try simp only [go_sem, hA, e12, wa, wb, gya, la, hd, gu, lu, kd, hw]); repeat' (first | (with_reducible first | refine c_split ?_ ?_ | refine w_split ?_ ?_ | refine tw_split ?_ ?_) <;> intro hb <;> try simp only [go_sem, hb, hA, e12, wa, wb, gya, la, hd, gu, lu, kd, hw] | (first | with_reducible refine d370_0_LSort6 (by with_unfolding_all rfl) (by kernel_rfl) ?_ | with_reducible refine d370_1_LSort6 (by with_unfolding_all rfl) (by kernel_rfl) ?_ | with_reducible refine d370_2_LSort6 (by with_unfolding_all rfl) (by kernel_rfl) ?_ | with_reducible refine d370_3_LSort6 (by with_unfolding_all rfl) (by kernel_rfl) ?_ | with_reducible refine d370_4_LSort6 (by with_unfolding_all rfl) (by kernel_rfl) ?_ | with_reducible refine d370_5_LSort6 (by with_unfolding_all rfl) (by kernel_rfl) ?_ | with_reducible refine d370_6_LSort6 (by with_unfolding_all rfl) (by kernel_rfl) ?_ | with_reducible refine d370_7_LSort6 (by with_unfolding_all rfl) (by kernel_rfl) ?_ | with_reducible refine d370_8_LSort6 (by with_unfolding_all rfl) (by kernel_rfl) ?_ | refine call_c (c_lotBefore _ _ _ ?_) | fail) <;> try simp only [go_sem, hA, e12, wa, wb, gya, la, hd, gu, lu, kd, hw] | fail)
        obtain ⟨uu, huu⟩ : ∃ q : Nat, q = u := ⟨_, rfl⟩
        rw [← huu] at hul hsc
        have hsu := hsc
        have hulu := hul
        have f1u := e12
        rw [← huu] at f1u
        have hA2 := hA
        have hi0 : 0 < uu := Nat.lt_of_lt_of_le hii hulu
        clear hJ
        refine while_at (α := Nat) (fun u => u) [0, 1, 4, 12] (fun u f h => f 13 = (.one (.c (.int .i64 ((u : Int))))) ∧ h = [.own g 112 5 cap (y0.toList.map lotC)] ∧ u ≤ j0 ∧ scanDown (fun x => !lotLt x y0[a]!) y0 uu j0 = scanDown (fun x => !lotLt x y0[a]!) y0 uu u) j0 (GC.now ?_) ?_
        · simp only [go_sem, nc_0, true_and, hA2, f1u]
        · rintro u f h J hA ⟨e13, rfl, hP⟩ hJ
          simp only [go_sem, hA2, f1u] at hA
          try dsimp only at hJ
          simp only [go_sem, hA, e13, hA2, f1u]
          obtain ⟨hul, hsc⟩ := hP
          by_cases hij : uu ≤ u
          · have hd : decide (((uu : Nat) : Int) ≤ ((u : Nat) : Int)) = true := decide_eq_true (Int.ofNat_le.2 hij)
            have hun : u < n := Nat.lt_of_le_of_lt hul hjn
            have gu := arr_get y0 (hys ▸ hun)
            have lu : (u : Int) < (n : Int) := Int.ofNat_lt.2 hun
            have hu0 : 0 < u := Nat.lt_of_lt_of_le hi0 hij
            have hw := pt_wj hu0 hun hn
            cases hc : lotLt y0[u]! y0[a]! with
            | true =>
              have kd : decide (lotCmp y0[u]! y0[a]! < 0) = true := by rw [← lotCmp_lt]; exact hc
              rw [sdn_stop (j := u) (.inr (show ((fun x => !lotLt x y0[a]!)) y0[u]! = false by simp [hc])) hi0] at hsc
              have hpe := htop _ _ hsu hsc
              by_cases hgt : uu > u
              · have dg : decide (((u : Nat) : Int) < ((uu : Nat) : Int)) = true := decide_eq_true (Int.ofNat_lt.2 hgt)
                rw [if_pos hgt] at hpe
                rw [hpe] at hk
                have hun2 : u < n := Nat.lt_of_le_of_lt hul hjn
                have gu2 := arr_get y0 (hys ▸ hun2)
                have lu2 : (u : Int) < (n : Int) := Int.ofNat_lt.2 hun2
                have hsw := arr_swp y0 u a
                have hgs := fun z => get_set_any y0 (i := u) (j := a) (hys ▸ han) z
                (try simp only [go_sem, hA, e13, hA2, f1u, gya, la, f1u, hd, gu, lu, kd, hw, dg, gu2, lu2, hsw, hgs]); repeat' (first | (with_reducible first | refine c_split ?_ ?_ | refine w_split ?_ ?_ | refine tw_split ?_ ?_) <;> intro hb <;> try simp only [go_sem, hb, hA, e13, hA2, f1u, gya, la, f1u, hd, gu, lu, kd, hw, dg, gu2, lu2, hsw, hgs] | (first | with_reducible refine d370_0_LSort6 (by with_unfolding_all rfl) (by kernel_rfl) ?_ | with_reducible refine d370_1_LSort6 (by with_unfolding_all rfl) (by kernel_rfl) ?_ | with_reducible refine d370_2_LSort6 (by with_unfolding_all rfl) (by kernel_rfl) ?_ | with_reducible refine d370_3_LSort6 (by with_unfolding_all rfl) (by kernel_rfl) ?_ | with_reducible refine d370_4_LSort6 (by with_unfolding_all rfl) (by kernel_rfl) ?_ | with_reducible refine d370_5_LSort6 (by with_unfolding_all rfl) (by kernel_rfl) ?_ | with_reducible refine d370_6_LSort6 (by with_unfolding_all rfl) (by kernel_rfl) ?_ | with_reducible refine d370_7_LSort6 (by with_unfolding_all rfl) (by kernel_rfl) ?_ | with_reducible refine d370_8_LSort6 (by with_unfolding_all rfl) (by kernel_rfl) ?_ | refine call_c (c_lotBefore _ _ _ ?_) | fail) <;> try simp only [go_sem, hA, e13, hA2, f1u, gya, la, f1u, hd, gu, lu, kd, hw, dg, gu2, lu2, hsw, hgs] | fail)
                refine hQ [] _ _ (GC.now ?_) <;> simp only [Tryz.f370, go_sem, List.nodup_cons, List.nodup_nil, List.mem_cons, List.not_mem_nil, or_false, not_false_eq_true, List.idxOf?_cons, List.idxOf?_nil, Option.map_none, forall_eq]
                exact hk
              · have dg : decide (((u : Nat) : Int) < ((uu : Nat) : Int)) = false := decide_eq_false (fun q => hgt (Int.ofNat_lt.1 q))
                rw [if_neg hgt] at hpe
                rw [hpe] at hk
                have hle : uu ≤ u := Nat.le_of_not_gt hgt
                have hun2 : u < n := Nat.lt_of_le_of_lt hul hjn
                have huun : uu < n := Nat.lt_of_le_of_lt hle hun2
                have hu0 : 0 < u := Nat.lt_of_lt_of_le hi0 hle
                have gu2 := arr_get y0 (hys ▸ hun2)
                have gu1 := arr_get y0 (hys ▸ huun)
                have lu2 : (u : Int) < (n : Int) := Int.ofNat_lt.2 hun2
                have lu1 : (uu : Int) < (n : Int) := Int.ofNat_lt.2 huun
                have hsw := arr_swp y0 uu u
                have hgs := fun z => get_set_any y0 (i := uu) (j := u) (hys ▸ hun2) z
                have wu1 := pt_wi huun hn
                have wu2 := pt_wj hu0 hun2 hn
                have hys0 := hys
                (try simp only [go_sem, hA, e13, hA2, f1u, gya, la, f1u, hd, gu, lu, kd, hw, dg, gu1, gu2, lu1, lu2, hsw, hgs, wu1, wu2]); repeat' (first | (with_reducible first | refine c_split ?_ ?_ | refine w_split ?_ ?_ | refine tw_split ?_ ?_) <;> intro hb <;> try simp only [go_sem, hb, hA, e13, hA2, f1u, gya, la, f1u, hd, gu, lu, kd, hw, dg, gu1, gu2, lu1, lu2, hsw, hgs, wu1, wu2] | (first | with_reducible refine d370_0_LSort6 (by with_unfolding_all rfl) (by kernel_rfl) ?_ | with_reducible refine d370_1_LSort6 (by with_unfolding_all rfl) (by kernel_rfl) ?_ | with_reducible refine d370_2_LSort6 (by with_unfolding_all rfl) (by kernel_rfl) ?_ | with_reducible refine d370_3_LSort6 (by with_unfolding_all rfl) (by kernel_rfl) ?_ | with_reducible refine d370_4_LSort6 (by with_unfolding_all rfl) (by kernel_rfl) ?_ | with_reducible refine d370_5_LSort6 (by with_unfolding_all rfl) (by kernel_rfl) ?_ | with_reducible refine d370_6_LSort6 (by with_unfolding_all rfl) (by kernel_rfl) ?_ | with_reducible refine d370_7_LSort6 (by with_unfolding_all rfl) (by kernel_rfl) ?_ | with_reducible refine d370_8_LSort6 (by with_unfolding_all rfl) (by kernel_rfl) ?_ | refine call_c (c_lotBefore _ _ _ ?_) | fail) <;> try simp only [go_sem, hA, e13, hA2, f1u, gya, la, f1u, hd, gu, lu, kd, hw, dg, gu1, gu2, lu1, lu2, hsw, hgs, wu1, wu2] | fail)
                have hA3 := hA
                clear hJ
                refine while_at (α := Nat × Nat × Array Lot) (fun ⟨i, j, y⟩ => j + 1 - i) [0, 1, 4] (fun ⟨i, j, y⟩ f h => f 12 = (.one (.c (.int .i64 ((i : Int))))) ∧ f 13 = (.one (.c (.int .i64 ((j : Int))))) ∧ h = [.own g 112 5 cap (y.toList.map lotC)] ∧ 0 < i ∧ j < n ∧ y.size = n ∧ partLoop lotLt a (uu + 1) (u - 1) (swp y0 uu u) = partLoop lotLt a i j y) (uu + 1, u - 1, swp y0 uu u) (GC.now ?_) ?_
                · simp only [go_sem, nc_0, true_and, hA3, hA2, f1u]
                  exact ⟨Nat.succ_pos _, Nat.lt_of_le_of_lt (Nat.sub_le _ _) hun2, by rw [swp_size]; exact hys0⟩
                · rintro ⟨i, j, y⟩ f h J hA ⟨e12, e13, rfl, hP⟩ hJ
                  simp only [go_sem, hA3, hA2, f1u] at hA
                  try dsimp only at hJ
                  simp only [go_sem, hA, e12, e13, hA3, hA2, f1u]
                  obtain ⟨hii, hjn, hys, hm⟩ := hP
                  have gya := arr_get y (hys ▸ han)
                  have hA1 := hA
                  have hJ1 := hJ
                  have f1 := e12
                  have f2 := e13
                  clear hJ
                  refine while_at (α := Nat) (fun u => j + 1 - u) [0, 1, 4, 13] (fun u f h => f 12 = (.one (.c (.int .i64 ((u : Int))))) ∧ h = [.own g 112 5 cap (y.toList.map lotC)] ∧ i ≤ u ∧ scanUp (fun x => lotLt x y[a]!) y j i = scanUp (fun x => lotLt x y[a]!) y j u) i (GC.now ?_) ?_
                  · simp only [go_sem, nc_0, true_and, hA1, f1, f2]
                  · rintro u f h J hA ⟨e12, rfl, hP⟩ hJ
                    simp only [go_sem, hA1, f1, f2] at hA
                    try dsimp only at hJ
                    simp only [go_sem, hA, e12, hA1, f1, f2]
                    obtain ⟨hul, hsc⟩ := hP
                    by_cases hij : u ≤ j
                    · have hd : decide (((u : Nat) : Int) ≤ ((j : Nat) : Int)) = true := decide_eq_true (Int.ofNat_le.2 hij)
                      have hun : u < n := Nat.lt_of_le_of_lt hij hjn
                      have gu := arr_get y (hys ▸ hun)
                      have lu : (u : Int) < (n : Int) := Int.ofNat_lt.2 hun
                      have hw := pt_wi hun hn
                      cases hc : lotLt y[u]! y[a]! with
                      | true =>
                        have kd : decide (lotCmp y[u]! y[a]! < 0) = true := by rw [← lotCmp_lt]; exact hc
                        rw [su_go (i := u) hij (show ((fun x => lotLt x y[a]!)) y[u]! = true by simp [hc])] at hsc
                        (try simp only [go_sem, hA, e12, hA1, f1, f2, gya, la, hd, gu, lu, kd, hw]); repeat' (first | (with_reducible first | refine c_split ?_ ?_ | refine w_split ?_ ?_ | refine tw_split ?_ ?_) <;> intro hb <;> try simp only [go_sem, hb, hA, e12, hA1, f1, f2, gya, la, hd, gu, lu, kd, hw] | (first | with_reducible refine d370_0_LSort6 (by with_unfolding_all rfl) (by kernel_rfl) ?_ | with_reducible refine d370_1_LSort6 (by with_unfolding_all rfl) (by kernel_rfl) ?_ | with_reducible refine d370_2_LSort6 (by with_unfolding_all rfl) (by kernel_rfl) ?_ | with_reducible refine d370_3_LSort6 (by with_unfolding_all rfl) (by kernel_rfl) ?_ | with_reducible refine d370_4_LSort6 (by with_unfolding_all rfl) (by kernel_rfl) ?_ | with_reducible refine d370_5_LSort6 (by with_unfolding_all rfl) (by kernel_rfl) ?_ | with_reducible refine d370_6_LSort6 (by with_unfolding_all rfl) (by kernel_rfl) ?_ | with_reducible refine d370_7_LSort6 (by with_unfolding_all rfl) (by kernel_rfl) ?_ | with_reducible refine d370_8_LSort6 (by with_unfolding_all rfl) (by kernel_rfl) ?_ | refine call_c (c_lotBefore _ _ _ ?_) | fail) <;> try simp only [go_sem, hA, e12, hA1, f1, f2, gya, la, hd, gu, lu, kd, hw] | fail)
                        refine GC.now (hJ (u + 1) _ _ (by exact pt_m hij) (by simp only [go_sem, hA, e12, hA1, f1, f2]) ⟨?_, ?_, ?_⟩) <;> try simp only [go_sem, hA, e12, hA1, f1, f2, hw]
                        exact ⟨Nat.le_succ_of_le hul, hsc⟩
                      | false =>
                        have kd : decide (lotCmp y[u]! y[a]! < 0) = false := by rw [← lotCmp_lt]; exact hc
                        rw [su_stop (i := u) (.inr (show ((fun x => lotLt x y[a]!)) y[u]! = false by simp [hc]))] at hsc
                        (try simp only [go_sem, hA, e12, hA1, f1, f2, gya, la, hd, gu, lu, kd, hw]); repeat' (first | (with_reducible first | refine c_split ?_ ?_ | refine w_split ?_ ?_ | refine tw_split ?_ ?_) <;> intro hb <;> try simp only [go_sem, hb, hA, e12, hA1, f1, f2, gya, la, hd, gu, lu, kd, hw] | (first | with_reducible refine d370_0_LSort6 (by with_unfolding_all rfl) (by kernel_rfl) ?_ | with_reducible refine d370_1_LSort6 (by with_unfolding_all rfl) (by kernel_rfl) ?_ | with_reducible refine d370_2_LSort6 (by with_unfolding_all rfl) (by kernel_rfl) ?_ | with_reducible refine d370_3_LSort6 (by with_unfolding_all rfl) (by kernel_rfl) ?_ | with_reducible refine d370_4_LSort6 (by with_unfolding_all rfl) (by kernel_rfl) ?_ | with_reducible refine d370_5_LSort6 (by with_unfolding_all rfl) (by kernel_rfl) ?_ | with_reducible refine d370_6_LSort6 (by with_unfolding_all rfl) (by kernel_rfl) ?_ | with_reducible refine d370_7_LSort6 (by with_unfolding_all rfl) (by kernel_rfl) ?_ | with_reducible refine d370_8_LSort6 (by with_unfolding_all rfl) (by kernel_rfl) ?_ | refine call_c (c_lotBefore _ _ _ ?_) | fail) <;> try simp only [go_sem, hA, e12, hA1, f1, f2, gya, la, hd, gu, lu, kd, hw] | fail)
                        obtain ⟨uu, huu⟩ : ∃ q : Nat, q = u := ⟨_, rfl⟩
                        rw [← huu] at hul hsc
                        have hsu := hsc
                        have hulu := hul
                        have f1u := e12
                        rw [← huu] at f1u
                        have hA2 := hA
                        have hi0 : 0 < uu := Nat.lt_of_lt_of_le hii hulu
                        clear hJ
                        refine while_at (α := Nat) (fun u => u) [0, 1, 4, 12] (fun u f h => f 13 = (.one (.c (.int .i64 ((u : Int))))) ∧ h = [.own g 112 5 cap (y.toList.map lotC)] ∧ u ≤ j ∧ scanDown (fun x => !lotLt x y[a]!) y uu j = scanDown (fun x => !lotLt x y[a]!) y uu u) j (GC.now ?_) ?_
                        · simp only [go_sem, nc_0, true_and, hA2, f1u, f2]
                        · rintro u f h J hA ⟨e13, rfl, hP⟩ hJ
                          simp only [go_sem, hA2, f1u, f2] at hA
                          try dsimp only at hJ
                          simp only [go_sem, hA, e13, hA2, f1u, f2]
                          obtain ⟨hul, hsc⟩ := hP
                          by_cases hij : uu ≤ u
                          · have hd : decide (((uu : Nat) : Int) ≤ ((u : Nat) : Int)) = true := decide_eq_true (Int.ofNat_le.2 hij)
                            have hun : u < n := Nat.lt_of_le_of_lt hul hjn
                            have gu := arr_get y (hys ▸ hun)
                            have lu : (u : Int) < (n : Int) := Int.ofNat_lt.2 hun
                            have hu0 : 0 < u := Nat.lt_of_lt_of_le hi0 hij
                            have hw := pt_wj hu0 hun hn
                            cases hc : lotLt y[u]! y[a]! with
                            | true =>
                              have kd : decide (lotCmp y[u]! y[a]! < 0) = true := by rw [← lotCmp_lt]; exact hc
                              rw [sdn_stop (j := u) (.inr (show ((fun x => !lotLt x y[a]!)) y[u]! = false by simp [hc])) hi0] at hsc
                              have hpe := pt_eq hsu hsc
                              by_cases hgt : uu > u
                              · have dg : decide (((u : Nat) : Int) < ((uu : Nat) : Int)) = true := decide_eq_true (Int.ofNat_lt.2 hgt)
                                rw [if_pos hgt] at hpe
                                rw [hm, hpe] at hk
                                have hun2 : u < n := Nat.lt_of_le_of_lt hul hjn
                                have gu2 := arr_get y (hys ▸ hun2)
                                have lu2 : (u : Int) < (n : Int) := Int.ofNat_lt.2 hun2
                                have hsw := arr_swp y u a
                                have hgs := fun z => get_set_any y (i := u) (j := a) (hys ▸ han) z
                                (try simp only [go_sem, hA, e13, hA2, f1u, f2, gya, la, f1u, hd, gu, lu, kd, hw, dg, gu2, lu2, hsw, hgs]); repeat' (first | (with_reducible first | refine c_split ?_ ?_ | refine w_split ?_ ?_ | refine tw_split ?_ ?_) <;> intro hb <;> try simp only [go_sem, hb, hA, e13, hA2, f1u, f2, gya, la, f1u, hd, gu, lu, kd, hw, dg, gu2, lu2, hsw, hgs] | (first | with_reducible refine d370_0_LSort6 (by with_unfolding_all rfl) (by kernel_rfl) ?_ | with_reducible refine d370_1_LSort6 (by with_unfolding_all rfl) (by kernel_rfl) ?_ | with_reducible refine d370_2_LSort6 (by with_unfolding_all rfl) (by kernel_rfl) ?_ | with_reducible refine d370_3_LSort6 (by with_unfolding_all rfl) (by kernel_rfl) ?_ | with_reducible refine d370_4_LSort6 (by with_unfolding_all rfl) (by kernel_rfl) ?_ | with_reducible refine d370_5_LSort6 (by with_unfolding_all rfl) (by kernel_rfl) ?_ | with_reducible refine d370_6_LSort6 (by with_unfolding_all rfl) (by kernel_rfl) ?_ | with_reducible refine d370_7_LSort6 (by with_unfolding_all rfl) (by kernel_rfl) ?_ | with_reducible refine d370_8_LSort6 (by with_unfolding_all rfl) (by kernel_rfl) ?_ | refine call_c (c_lotBefore _ _ _ ?_) | fail) <;> try simp only [go_sem, hA, e13, hA2, f1u, f2, gya, la, f1u, hd, gu, lu, kd, hw, dg, gu2, lu2, hsw, hgs] | fail)
                                refine hQ [] _ _ (GC.now ?_) <;> simp only [Tryz.f370, go_sem, List.nodup_cons, List.nodup_nil, List.mem_cons, List.not_mem_nil, or_false, not_false_eq_true, List.idxOf?_cons, List.idxOf?_nil, Option.map_none, forall_eq]
                                exact hk
                              · have dg : decide (((u : Nat) : Int) < ((uu : Nat) : Int)) = false := decide_eq_false (fun q => hgt (Int.ofNat_lt.1 q))
                                rw [if_neg hgt] at hpe
                                rw [hpe] at hm
                                have hle : uu ≤ u := Nat.le_of_not_gt hgt
                                have hun2 : u < n := Nat.lt_of_le_of_lt hul hjn
                                have huun : uu < n := Nat.lt_of_le_of_lt hle hun2
                                have hu0 : 0 < u := Nat.lt_of_lt_of_le hi0 hle
                                have gu2 := arr_get y (hys ▸ hun2)
                                have gu1 := arr_get y (hys ▸ huun)
                                have lu2 : (u : Int) < (n : Int) := Int.ofNat_lt.2 hun2
                                have lu1 : (uu : Int) < (n : Int) := Int.ofNat_lt.2 huun
                                have hsw := arr_swp y uu u
                                have hgs := fun z => get_set_any y (i := uu) (j := u) (hys ▸ hun2) z
                                have wu1 := pt_wi huun hn
                                have wu2 := pt_wj hu0 hun2 hn
                                (try simp only [go_sem, hA, e13, hA2, f1u, f2, gya, la, f1u, hd, gu, lu, kd, hw, dg, gu1, gu2, lu1, lu2, hsw, hgs, wu1, wu2]); repeat' (first | (with_reducible first | refine c_split ?_ ?_ | refine w_split ?_ ?_ | refine tw_split ?_ ?_) <;> intro hb <;> try simp only [go_sem, hb, hA, e13, hA2, f1u, f2, gya, la, f1u, hd, gu, lu, kd, hw, dg, gu1, gu2, lu1, lu2, hsw, hgs, wu1, wu2] | (first | with_reducible refine d370_0_LSort6 (by with_unfolding_all rfl) (by kernel_rfl) ?_ | with_reducible refine d370_1_LSort6 (by with_unfolding_all rfl) (by kernel_rfl) ?_ | with_reducible refine d370_2_LSort6 (by with_unfolding_all rfl) (by kernel_rfl) ?_ | with_reducible refine d370_3_LSort6 (by with_unfolding_all rfl) (by kernel_rfl) ?_ | with_reducible refine d370_4_LSort6 (by with_unfolding_all rfl) (by kernel_rfl) ?_ | with_reducible refine d370_5_LSort6 (by with_unfolding_all rfl) (by kernel_rfl) ?_ | with_reducible refine d370_6_LSort6 (by with_unfolding_all rfl) (by kernel_rfl) ?_ | with_reducible refine d370_7_LSort6 (by with_unfolding_all rfl) (by kernel_rfl) ?_ | with_reducible refine d370_8_LSort6 (by with_unfolding_all rfl) (by kernel_rfl) ?_ | refine call_c (c_lotBefore _ _ _ ?_) | fail) <;> try simp only [go_sem, hA, e13, hA2, f1u, f2, gya, la, f1u, hd, gu, lu, kd, hw, dg, gu1, gu2, lu1, lu2, hsw, hgs, wu1, wu2] | fail)
                                refine GC.now (hJ1 (uu + 1, u - 1, swp y uu u) _ _ (pt_dec hulu hul hgt) (by simp only [go_sem, hA, e13, hA2, f1u, f2, hA3]) ⟨?_, ?_, ?_, ?_⟩) <;> try simp only [go_sem, hA, e13, hA2, f1u, f2, wu1, wu2, hsw]
                                exact ⟨Nat.succ_pos _, Nat.lt_of_le_of_lt (Nat.sub_le _ _) hun2, by rw [swp_size]; exact hys, hm⟩
                            | false =>
                              have kd : decide (lotCmp y[u]! y[a]! < 0) = false := by rw [← lotCmp_lt]; exact hc
                              rw [sdn_go (j := u) hu0 hij (show ((fun x => !lotLt x y[a]!)) y[u]! = true by simp [hc])] at hsc
                              (try simp only [go_sem, hA, e13, hA2, f1u, f2, gya, la, f1u, hd, gu, lu, kd, hw]); repeat' (first | (with_reducible first | refine c_split ?_ ?_ | refine w_split ?_ ?_ | refine tw_split ?_ ?_) <;> intro hb <;> try simp only [go_sem, hb, hA, e13, hA2, f1u, f2, gya, la, f1u, hd, gu, lu, kd, hw] | (first | with_reducible refine d370_0_LSort6 (by with_unfolding_all rfl) (by kernel_rfl) ?_ | with_reducible refine d370_1_LSort6 (by with_unfolding_all rfl) (by kernel_rfl) ?_ | with_reducible refine d370_2_LSort6 (by with_unfolding_all rfl) (by kernel_rfl) ?_ | with_reducible refine d370_3_LSort6 (by with_unfolding_all rfl) (by kernel_rfl) ?_ | with_reducible refine d370_4_LSort6 (by with_unfolding_all rfl) (by kernel_rfl) ?_ | with_reducible refine d370_5_LSort6 (by with_unfolding_all rfl) (by kernel_rfl) ?_ | with_reducible refine d370_6_LSort6 (by with_unfolding_all rfl) (by kernel_rfl) ?_ | with_reducible refine d370_7_LSort6 (by with_unfolding_all rfl) (by kernel_rfl) ?_ | with_reducible refine d370_8_LSort6 (by with_unfolding_all rfl) (by kernel_rfl) ?_ | refine call_c (c_lotBefore _ _ _ ?_) | fail) <;> try simp only [go_sem, hA, e13, hA2, f1u, f2, gya, la, f1u, hd, gu, lu, kd, hw] | fail)
                              refine GC.now (hJ (u - 1) _ _ (by exact Nat.sub_lt hu0 Nat.zero_lt_one) (by simp only [go_sem, hA, e13, hA2, f1u, f2]) ⟨?_, ?_, ?_⟩) <;> try simp only [go_sem, hA, e13, hA2, f1u, f2, hw]
                              exact ⟨Nat.le_trans (Nat.sub_le _ _) hul, hsc⟩
                          · have hd : decide (((uu : Nat) : Int) ≤ ((u : Nat) : Int)) = false := decide_eq_false (fun q => hij (Int.ofNat_le.1 q))
                            rw [sdn_stop (j := u) (.inl hij) hi0] at hsc
                            have hpe := pt_eq hsu hsc
                            by_cases hgt : uu > u
                            · have dg : decide (((u : Nat) : Int) < ((uu : Nat) : Int)) = true := decide_eq_true (Int.ofNat_lt.2 hgt)
                              rw [if_pos hgt] at hpe
                              rw [hm, hpe] at hk
                              have hun2 : u < n := Nat.lt_of_le_of_lt hul hjn
                              have gu2 := arr_get y (hys ▸ hun2)
                              have lu2 : (u : Int) < (n : Int) := Int.ofNat_lt.2 hun2
                              have hsw := arr_swp y u a
                              have hgs := fun z => get_set_any y (i := u) (j := a) (hys ▸ han) z
                              (try simp only [go_sem, hA, e13, hA2, f1u, f2, gya, la, f1u, hd, dg, gu2, lu2, hsw, hgs]); repeat' (first | (with_reducible first | refine c_split ?_ ?_ | refine w_split ?_ ?_ | refine tw_split ?_ ?_) <;> intro hb <;> try simp only [go_sem, hb, hA, e13, hA2, f1u, f2, gya, la, f1u, hd, dg, gu2, lu2, hsw, hgs] | (first | with_reducible refine d370_0_LSort6 (by with_unfolding_all rfl) (by kernel_rfl) ?_ | with_reducible refine d370_1_LSort6 (by with_unfolding_all rfl) (by kernel_rfl) ?_ | with_reducible refine d370_2_LSort6 (by with_unfolding_all rfl) (by kernel_rfl) ?_ | with_reducible refine d370_3_LSort6 (by with_unfolding_all rfl) (by kernel_rfl) ?_ | with_reducible refine d370_4_LSort6 (by with_unfolding_all rfl) (by kernel_rfl) ?_ | with_reducible refine d370_5_LSort6 (by with_unfolding_all rfl) (by kernel_rfl) ?_ | with_reducible refine d370_6_LSort6 (by with_unfolding_all rfl) (by kernel_rfl) ?_ | with_reducible refine d370_7_LSort6 (by with_unfolding_all rfl) (by kernel_rfl) ?_ | with_reducible refine d370_8_LSort6 (by with_unfolding_all rfl) (by kernel_rfl) ?_ | fail) <;> try simp only [go_sem, hA, e13, hA2, f1u, f2, gya, la, f1u, hd, dg, gu2, lu2, hsw, hgs] | fail)
                              refine hQ [] _ _ (GC.now ?_) <;> simp only [Tryz.f370, go_sem, List.nodup_cons, List.nodup_nil, List.mem_cons, List.not_mem_nil, or_false, not_false_eq_true, List.idxOf?_cons, List.idxOf?_nil, Option.map_none, forall_eq]
                              exact hk
                            · have dg : decide (((u : Nat) : Int) < ((uu : Nat) : Int)) = false := decide_eq_false (fun q => hgt (Int.ofNat_lt.1 q))
                              rw [if_neg hgt] at hpe
                              rw [hpe] at hm
                              have hle : uu ≤ u := Nat.le_of_not_gt hgt
                              have hun2 : u < n := Nat.lt_of_le_of_lt hul hjn
                              have huun : uu < n := Nat.lt_of_le_of_lt hle hun2
                              have hu0 : 0 < u := Nat.lt_of_lt_of_le hi0 hle
                              have gu2 := arr_get y (hys ▸ hun2)
                              have gu1 := arr_get y (hys ▸ huun)
                              have lu2 : (u : Int) < (n : Int) := Int.ofNat_lt.2 hun2
                              have lu1 : (uu : Int) < (n : Int) := Int.ofNat_lt.2 huun
                              have hsw := arr_swp y uu u
                              have hgs := fun z => get_set_any y (i := uu) (j := u) (hys ▸ hun2) z
                              have wu1 := pt_wi huun hn
                              have wu2 := pt_wj hu0 hun2 hn
                              (try simp only [go_sem, hA, e13, hA2, f1u, f2, gya, la, f1u, hd, dg, gu1, gu2, lu1, lu2, hsw, hgs, wu1, wu2]); repeat' (first | (with_reducible first | refine c_split ?_ ?_ | refine w_split ?_ ?_ | refine tw_split ?_ ?_) <;> intro hb <;> try simp only [go_sem, hb, hA, e13, hA2, f1u, f2, gya, la, f1u, hd, dg, gu1, gu2, lu1, lu2, hsw, hgs, wu1, wu2] | (first | with_reducible refine d370_0_LSort6 (by with_unfolding_all rfl) (by kernel_rfl) ?_ | with_reducible refine d370_1_LSort6 (by with_unfolding_all rfl) (by kernel_rfl) ?_ | with_reducible refine d370_2_LSort6 (by with_unfolding_all rfl) (by kernel_rfl) ?_ | with_reducible refine d370_3_LSort6 (by with_unfolding_all rfl) (by kernel_rfl) ?_ | with_reducible refine d370_4_LSort6 (by with_unfolding_all rfl) (by kernel_rfl) ?_ | with_reducible refine d370_5_LSort6 (by with_unfolding_all rfl) (by kernel_rfl) ?_ | with_reducible refine d370_6_LSort6 (by with_unfolding_all rfl) (by kernel_rfl) ?_ | with_reducible refine d370_7_LSort6 (by with_unfolding_all rfl) (by kernel_rfl) ?_ | with_reducible refine d370_8_LSort6 (by with_unfolding_all rfl) (by kernel_rfl) ?_ | fail) <;> try simp only [go_sem, hA, e13, hA2, f1u, f2, gya, la, f1u, hd, dg, gu1, gu2, lu1, lu2, hsw, hgs, wu1, wu2] | fail)
                              refine GC.now (hJ1 (uu + 1, u - 1, swp y uu u) _ _ (pt_dec hulu hul hgt) (by simp only [go_sem, hA, e13, hA2, f1u, f2, hA3]) ⟨?_, ?_, ?_, ?_⟩) <;> try simp only [go_sem, hA, e13, hA2, f1u, f2, wu1, wu2, hsw]
                              exact ⟨Nat.succ_pos _, Nat.lt_of_le_of_lt (Nat.sub_le _ _) hun2, by rw [swp_size]; exact hys, hm⟩
                    · have hd : decide (((u : Nat) : Int) ≤ ((j : Nat) : Int)) = false := decide_eq_false (fun q => hij (Int.ofNat_le.1 q))
                      rw [su_stop (i := u) (.inl hij)] at hsc
                      (try simp only [go_sem, hA, e12, hA1, f1, f2, gya, la, hd]); repeat' (first | (with_reducible first | refine c_split ?_ ?_ | refine w_split ?_ ?_ | refine tw_split ?_ ?_) <;> intro hb <;> try simp only [go_sem, hb, hA, e12, hA1, f1, f2, gya, la, hd] | (first | with_reducible refine d370_0_LSort6 (by with_unfolding_all rfl) (by kernel_rfl) ?_ | with_reducible refine d370_1_LSort6 (by with_unfolding_all rfl) (by kernel_rfl) ?_ | with_reducible refine d370_2_LSort6 (by with_unfolding_all rfl) (by kernel_rfl) ?_ | with_reducible refine d370_3_LSort6 (by with_unfolding_all rfl) (by kernel_rfl) ?_ | with_reducible refine d370_4_LSort6 (by with_unfolding_all rfl) (by kernel_rfl) ?_ | with_reducible refine d370_5_LSort6 (by with_unfolding_all rfl) (by kernel_rfl) ?_ | with_reducible refine d370_6_LSort6 (by with_unfolding_all rfl) (by kernel_rfl) ?_ | with_reducible refine d370_7_LSort6 (by with_unfolding_all rfl) (by kernel_rfl) ?_ | with_reducible refine d370_8_LSort6 (by with_unfolding_all rfl) (by kernel_rfl) ?_ | fail) <;> try simp only [go_sem, hA, e12, hA1, f1, f2, gya, la, hd] | fail)
                      obtain ⟨uu, huu⟩ : ∃ q : Nat, q = u := ⟨_, rfl⟩
                      rw [← huu] at hul hsc
                      have hsu := hsc
                      have hulu := hul
                      have f1u := e12
                      rw [← huu] at f1u
                      have hA2 := hA
                      have hi0 : 0 < uu := Nat.lt_of_lt_of_le hii hulu
                      clear hJ
                      refine while_at (α := Nat) (fun u => u) [0, 1, 4, 12] (fun u f h => f 13 = (.one (.c (.int .i64 ((u : Int))))) ∧ h = [.own g 112 5 cap (y.toList.map lotC)] ∧ u ≤ j ∧ scanDown (fun x => !lotLt x y[a]!) y uu j = scanDown (fun x => !lotLt x y[a]!) y uu u) j (GC.now ?_) ?_
                      · simp only [go_sem, nc_0, true_and, hA2, f1u, f2]
                      · rintro u f h J hA ⟨e13, rfl, hP⟩ hJ
                        simp only [go_sem, hA2, f1u, f2] at hA
                        try dsimp only at hJ
                        simp only [go_sem, hA, e13, hA2, f1u, f2]
                        obtain ⟨hul, hsc⟩ := hP
                        by_cases hij : uu ≤ u
                        · have hd : decide (((uu : Nat) : Int) ≤ ((u : Nat) : Int)) = true := decide_eq_true (Int.ofNat_le.2 hij)
                          have hun : u < n := Nat.lt_of_le_of_lt hul hjn
                          have gu := arr_get y (hys ▸ hun)
                          have lu : (u : Int) < (n : Int) := Int.ofNat_lt.2 hun
                          have hu0 : 0 < u := Nat.lt_of_lt_of_le hi0 hij
                          have hw := pt_wj hu0 hun hn
                          cases hc : lotLt y[u]! y[a]! with
                          | true =>
                            have kd : decide (lotCmp y[u]! y[a]! < 0) = true := by rw [← lotCmp_lt]; exact hc
                            rw [sdn_stop (j := u) (.inr (show ((fun x => !lotLt x y[a]!)) y[u]! = false by simp [hc])) hi0] at hsc
                            have hpe := pt_eq hsu hsc
                            by_cases hgt : uu > u
                            · have dg : decide (((u : Nat) : Int) < ((uu : Nat) : Int)) = true := decide_eq_true (Int.ofNat_lt.2 hgt)
                              rw [if_pos hgt] at hpe
                              rw [hm, hpe] at hk
                              have hun2 : u < n := Nat.lt_of_le_of_lt hul hjn
                              have gu2 := arr_get y (hys ▸ hun2)
                              have lu2 : (u : Int) < (n : Int) := Int.ofNat_lt.2 hun2
                              have hsw := arr_swp y u a
                              have hgs := fun z => get_set_any y (i := u) (j := a) (hys ▸ han) z
                              (try simp only [go_sem, hA, e13, hA2, f1u, f2, gya, la, f1u, hd, gu, lu, kd, hw, dg, gu2, lu2, hsw, hgs]); repeat' (first | (with_reducible first | refine c_split ?_ ?_ | refine w_split ?_ ?_ | refine tw_split ?_ ?_) <;> intro hb <;> try simp only [go_sem, hb, hA, e13, hA2, f1u, f2, gya, la, f1u, hd, gu, lu, kd, hw, dg, gu2, lu2, hsw, hgs] | (first | with_reducible refine d370_0_LSort6 (by with_unfolding_all rfl) (by kernel_rfl) ?_ | with_reducible refine d370_1_LSort6 (by with_unfolding_all rfl) (by kernel_rfl) ?_ | with_reducible refine d370_2_LSort6 (by with_unfolding_all rfl) (by kernel_rfl) ?_ | with_reducible refine d370_3_LSort6 (by with_unfolding_all rfl) (by kernel_rfl) ?_ | with_reducible refine d370_4_LSort6 (by with_unfolding_all rfl) (by kernel_rfl) ?_ | with_reducible refine d370_5_LSort6 (by with_unfolding_all rfl) (by kernel_rfl) ?_ | with_reducible refine d370_6_LSort6 (by with_unfolding_all rfl) (by kernel_rfl) ?_ | with_reducible refine d370_7_LSort6 (by with_unfolding_all rfl) (by kernel_rfl) ?_ | with_reducible refine d370_8_LSort6 (by with_unfolding_all rfl) (by kernel_rfl) ?_ | refine call_c (c_lotBefore _ _ _ ?_) | fail) <;> try simp only [go_sem, hA, e13, hA2, f1u, f2, gya, la, f1u, hd, gu, lu, kd, hw, dg, gu2, lu2, hsw, hgs] | fail)
                              refine hQ [] _ _ (GC.now ?_) <;> simp only [Tryz.f370, go_sem, List.nodup_cons, List.nodup_nil, List.mem_cons, List.not_mem_nil, or_false, not_false_eq_true, List.idxOf?_cons, List.idxOf?_nil, Option.map_none, forall_eq]
                              exact hk
                            · have dg : decide (((u : Nat) : Int) < ((uu : Nat) : Int)) = false := decide_eq_false (fun q => hgt (Int.ofNat_lt.1 q))
                              rw [if_neg hgt] at hpe
                              rw [hpe] at hm
                              have hle : uu ≤ u := Nat.le_of_not_gt hgt
                              have hun2 : u < n := Nat.lt_of_le_of_lt hul hjn
                              have huun : uu < n := Nat.lt_of_le_of_lt hle hun2
                              have hu0 : 0 < u := Nat.lt_of_lt_of_le hi0 hle
                              have gu2 := arr_get y (hys ▸ hun2)
                              have gu1 := arr_get y (hys ▸ huun)
                              have lu2 : (u : Int) < (n : Int) := Int.ofNat_lt.2 hun2
                              have lu1 : (uu : Int) < (n : Int) := Int.ofNat_lt.2 huun
                              have hsw := arr_swp y uu u
                              have hgs := fun z => get_set_any y (i := uu) (j := u) (hys ▸ hun2) z
                              have wu1 := pt_wi huun hn
                              have wu2 := pt_wj hu0 hun2 hn
                              (try simp only [go_sem, hA, e13, hA2, f1u, f2, gya, la, f1u, hd, gu, lu, kd, hw, dg, gu1, gu2, lu1, lu2, hsw, hgs, wu1, wu2]); repeat' (first | (with_reducible first | refine c_split ?_ ?_ | refine w_split ?_ ?_ | refine tw_split ?_ ?_) <;> intro hb <;> try simp only [go_sem, hb, hA, e13, hA2, f1u, f2, gya, la, f1u, hd, gu, lu, kd, hw, dg, gu1, gu2, lu1, lu2, hsw, hgs, wu1, wu2] | (first | with_reducible refine d370_0_LSort6 (by with_unfolding_all rfl) (by kernel_rfl) ?_ | with_reducible refine d370_1_LSort6 (by with_unfolding_all rfl) (by kernel_rfl) ?_ | with_reducible refine d370_2_LSort6 (by with_unfolding_all rfl) (by kernel_rfl) ?_ | with_reducible refine d370_3_LSort6 (by with_unfolding_all rfl) (by kernel_rfl) ?_ | with_reducible refine d370_4_LSort6 (by with_unfolding_all rfl) (by kernel_rfl) ?_ | with_reducible refine d370_5_LSort6 (by with_unfolding_all rfl) (by kernel_rfl) ?_ | with_reducible refine d370_6_LSort6 (by with_unfolding_all rfl) (by kernel_rfl) ?_ | with_reducible refine d370_7_LSort6 (by with_unfolding_all rfl) (by kernel_rfl) ?_ | with_reducible refine d370_8_LSort6 (by with_unfolding_all rfl) (by kernel_rfl) ?_ | refine call_c (c_lotBefore _ _ _ ?_) | fail) <;> try simp only [go_sem, hA, e13, hA2, f1u, f2, gya, la, f1u, hd, gu, lu, kd, hw, dg, gu1, gu2, lu1, lu2, hsw, hgs, wu1, wu2] | fail)
                              refine GC.now (hJ1 (uu + 1, u - 1, swp y uu u) _ _ (pt_dec hulu hul hgt) (by simp only [go_sem, hA, e13, hA2, f1u, f2, hA3]) ⟨?_, ?_, ?_, ?_⟩) <;> try simp only [go_sem, hA, e13, hA2, f1u, f2, wu1, wu2, hsw]
                              exact ⟨Nat.succ_pos _, Nat.lt_of_le_of_lt (Nat.sub_le _ _) hun2, by rw [swp_size]; exact hys, hm⟩
                          | false =>
                            have kd : decide (lotCmp y[u]! y[a]! < 0) = false := by rw [← lotCmp_lt]; exact hc
                            rw [sdn_go (j := u) hu0 hij (show ((fun x => !lotLt x y[a]!)) y[u]! = true by simp [hc])] at hsc
                            (try simp only [go_sem, hA, e13, hA2, f1u, f2, gya, la, f1u, hd, gu, lu, kd, hw]); repeat' (first | (with_reducible first | refine c_split ?_ ?_ | refine w_split ?_ ?_ | refine tw_split ?_ ?_) <;> intro hb <;> try simp only [go_sem, hb, hA, e13, hA2, f1u, f2, gya, la, f1u, hd, gu, lu, kd, hw] | (first | with_reducible refine d370_0_LSort6 (by with_unfolding_all rfl) (by kernel_rfl) ?_ | with_reducible refine d370_1_LSort6 (by with_unfolding_all rfl) (by kernel_rfl) ?_ | with_reducible refine d370_2_LSort6 (by with_unfolding_all rfl) (by kernel_rfl) ?_ | with_reducible refine d370_3_LSort6 (by with_unfolding_all rfl) (by kernel_rfl) ?_ | with_reducible refine d370_4_LSort6 (by with_unfolding_all rfl) (by kernel_rfl) ?_ | with_reducible refine d370_5_LSort6 (by with_unfolding_all rfl) (by kernel_rfl) ?_ | with_reducible refine d370_6_LSort6 (by with_unfolding_all rfl) (by kernel_rfl) ?_ | with_reducible refine d370_7_LSort6 (by with_unfolding_all rfl) (by kernel_rfl) ?_ | with_reducible refine d370_8_LSort6 (by with_unfolding_all rfl) (by kernel_rfl) ?_ | refine call_c (c_lotBefore _ _ _ ?_) | fail) <;> try simp only [go_sem, hA, e13, hA2, f1u, f2, gya, la, f1u, hd, gu, lu, kd, hw] | fail)
                            refine GC.now (hJ (u - 1) _ _ (by exact Nat.sub_lt hu0 Nat.zero_lt_one) (by simp only [go_sem, hA, e13, hA2, f1u, f2]) ⟨?_, ?_, ?_⟩) <;> try simp only [go_sem, hA, e13, hA2, f1u, f2, hw]
                            exact ⟨Nat.le_trans (Nat.sub_le _ _) hul, hsc⟩
                        · have hd : decide (((uu : Nat) : Int) ≤ ((u : Nat) : Int)) = false := decide_eq_false (fun q => hij (Int.ofNat_le.1 q))
                          rw [sdn_stop (j := u) (.inl hij) hi0] at hsc
                          have hpe := pt_eq hsu hsc
                          by_cases hgt : uu > u
                          · have dg : decide (((u : Nat) : Int) < ((uu : Nat) : Int)) = true := decide_eq_true (Int.ofNat_lt.2 hgt)
                            rw [if_pos hgt] at hpe
                            rw [hm, hpe] at hk
                            have hun2 : u < n := Nat.lt_of_le_of_lt hul hjn
                            have gu2 := arr_get y (hys ▸ hun2)
                            have lu2 : (u : Int) < (n : Int) := Int.ofNat_lt.2 hun2
                            have hsw := arr_swp y u a
                            have hgs := fun z => get_set_any y (i := u) (j := a) (hys ▸ han) z
                            (try simp only [go_sem, hA, e13, hA2, f1u, f2, gya, la, f1u, hd, dg, gu2, lu2, hsw, hgs]); repeat' (first | (with_reducible first | refine c_split ?_ ?_ | refine w_split ?_ ?_ | refine tw_split ?_ ?_) <;> intro hb <;> try simp only [go_sem, hb, hA, e13, hA2, f1u, f2, gya, la, f1u, hd, dg, gu2, lu2, hsw, hgs] | (first | with_reducible refine d370_0_LSort6 (by with_unfolding_all rfl) (by kernel_rfl) ?_ | with_reducible refine d370_1_LSort6 (by with_unfolding_all rfl) (by kernel_rfl) ?_ | with_reducible refine d370_2_LSort6 (by with_unfolding_all rfl) (by kernel_rfl) ?_ | with_reducible refine d370_3_LSort6 (by with_unfolding_all rfl) (by kernel_rfl) ?_ | with_reducible refine d370_4_LSort6 (by with_unfolding_all rfl) (by kernel_rfl) ?_ | with_reducible refine d370_5_LSort6 (by with_unfolding_all rfl) (by kernel_rfl) ?_ | with_reducible refine d370_6_LSort6 (by with_unfolding_all rfl) (by kernel_rfl) ?_ | with_reducible refine d370_7_LSort6 (by with_unfolding_all rfl) (by kernel_rfl) ?_ | with_reducible refine d370_8_LSort6 (by with_unfolding_all rfl) (by kernel_rfl) ?_ | fail) <;> try simp only [go_sem, hA, e13, hA2, f1u, f2, gya, la, f1u, hd, dg, gu2, lu2, hsw, hgs] | fail)
                            refine hQ [] _ _ (GC.now ?_) <;> simp only [Tryz.f370, go_sem, List.nodup_cons, List.nodup_nil, List.mem_cons, List.not_mem_nil, or_false, not_false_eq_true, List.idxOf?_cons, List.idxOf?_nil, Option.map_none, forall_eq]
                            exact hk
                          · have dg : decide (((u : Nat) : Int) < ((uu : Nat) : Int)) = false := decide_eq_false (fun q => hgt (Int.ofNat_lt.1 q))
                            rw [if_neg hgt] at hpe
                            rw [hpe] at hm
                            have hle : uu ≤ u := Nat.le_of_not_gt hgt
                            have hun2 : u < n := Nat.lt_of_le_of_lt hul hjn
                            have huun : uu < n := Nat.lt_of_le_of_lt hle hun2
                            have hu0 : 0 < u := Nat.lt_of_lt_of_le hi0 hle
                            have gu2 := arr_get y (hys ▸ hun2)
                            have gu1 := arr_get y (hys ▸ huun)
                            have lu2 : (u : Int) < (n : Int) := Int.ofNat_lt.2 hun2
                            have lu1 : (uu : Int) < (n : Int) := Int.ofNat_lt.2 huun
                            have hsw := arr_swp y uu u
                            have hgs := fun z => get_set_any y (i := uu) (j := u) (hys ▸ hun2) z
                            have wu1 := pt_wi huun hn
                            have wu2 := pt_wj hu0 hun2 hn
                            (try simp only [go_sem, hA, e13, hA2, f1u, f2, gya, la, f1u, hd, dg, gu1, gu2, lu1, lu2, hsw, hgs, wu1, wu2]); repeat' (first | (with_reducible first | refine c_split ?_ ?_ | refine w_split ?_ ?_ | refine tw_split ?_ ?_) <;> intro hb <;> try simp only [go_sem, hb, hA, e13, hA2, f1u, f2, gya, la, f1u, hd, dg, gu1, gu2, lu1, lu2, hsw, hgs, wu1, wu2] | (first | with_reducible refine d370_0_LSort6 (by with_unfolding_all rfl) (by kernel_rfl) ?_ | with_reducible refine d370_1_LSort6 (by with_unfolding_all rfl) (by kernel_rfl) ?_ | with_reducible refine d370_2_LSort6 (by with_unfolding_all rfl) (by kernel_rfl) ?_ | with_reducible refine d370_3_LSort6 (by with_unfolding_all rfl) (by kernel_rfl) ?_ | with_reducible refine d370_4_LSort6 (by with_unfolding_all rfl) (by kernel_rfl) ?_ | with_reducible refine d370_5_LSort6 (by with_unfolding_all rfl) (by kernel_rfl) ?_ | with_reducible refine d370_6_LSort6 (by with_unfolding_all rfl) (by kernel_rfl) ?_ | with_reducible refine d370_7_LSort6 (by with_unfolding_all rfl) (by kernel_rfl) ?_ | with_reducible refine d370_8_LSort6 (by with_unfolding_all rfl) (by kernel_rfl) ?_ | fail) <;> try simp only [go_sem, hA, e13, hA2, f1u, f2, gya, la, f1u, hd, dg, gu1, gu2, lu1, lu2, hsw, hgs, wu1, wu2] | fail)
                            refine GC.now (hJ1 (uu + 1, u - 1, swp y uu u) _ _ (pt_dec hulu hul hgt) (by simp only [go_sem, hA, e13, hA2, f1u, f2, hA3]) ⟨?_, ?_, ?_, ?_⟩) <;> try simp only [go_sem, hA, e13, hA2, f1u, f2, wu1, wu2, hsw]
                            exact ⟨Nat.succ_pos _, Nat.lt_of_le_of_lt (Nat.sub_le _ _) hun2, by rw [swp_size]; exact hys, hm⟩
            | false =>
              have kd : decide (lotCmp y0[u]! y0[a]! < 0) = false := by rw [← lotCmp_lt]; exact hc
              rw [sdn_go (j := u) hu0 hij (show ((fun x => !lotLt x y0[a]!)) y0[u]! = true by simp [hc])] at hsc
              (try simp only [go_sem, hA, e13, hA2, f1u, gya, la, f1u, hd, gu, lu, kd, hw]); repeat' (first | (with_reducible first | refine c_split ?_ ?_ | refine w_split ?_ ?_ | refine tw_split ?_ ?_) <;> intro hb <;> try simp only [go_sem, hb, hA, e13, hA2, f1u, gya, la, f1u, hd, gu, lu, kd, hw] | (first | with_reducible refine d370_0_LSort6 (by with_unfolding_all rfl) (by kernel_rfl) ?_ | with_reducible refine d370_1_LSort6 (by with_unfolding_all rfl) (by kernel_rfl) ?_ | with_reducible refine d370_2_LSort6 (by with_unfolding_all rfl) (by kernel_rfl) ?_ | with_reducible refine d370_3_LSort6 (by with_unfolding_all rfl) (by kernel_rfl) ?_ | with_reducible refine d370_4_LSort6 (by with_unfolding_all rfl) (by kernel_rfl) ?_ | with_reducible refine d370_5_LSort6 (by with_unfolding_all rfl) (by kernel_rfl) ?_ | with_reducible refine d370_6_LSort6 (by with_unfolding_all rfl) (by kernel_rfl) ?_ | with_reducible refine d370_7_LSort6 (by with_unfolding_all rfl) (by kernel_rfl) ?_ | with_reducible refine d370_8_LSort6 (by with_unfolding_all rfl) (by kernel_rfl) ?_ | refine call_c (c_lotBefore _ _ _ ?_) | fail) <;> try simp only [go_sem, hA, e13, hA2, f1u, gya, la, f1u, hd, gu, lu, kd, hw] | fail)
              refine GC.now (hJ (u - 1) _ _ (by exact Nat.sub_lt hu0 Nat.zero_lt_one) (by simp only [go_sem, hA, e13, hA2, f1u]) ⟨?_, ?_, ?_⟩) <;> try simp only [go_sem, hA, e13, hA2, f1u, hw]
              exact ⟨Nat.le_trans (Nat.sub_le _ _) hul, hsc⟩
          · have hd : decide (((uu : Nat) : Int) ≤ ((u : Nat) : Int)) = false := decide_eq_false (fun q => hij (Int.ofNat_le.1 q))
            rw [sdn_stop (j := u) (.inl hij) hi0] at hsc
            have hpe := htop _ _ hsu hsc
            by_cases hgt : uu > u
            · have dg : decide (((u : Nat) : Int) < ((uu : Nat) : Int)) = true := decide_eq_true (Int.ofNat_lt.2 hgt)
              rw [if_pos hgt] at hpe
              rw [hpe] at hk
              have hun2 : u < n := Nat.lt_of_le_of_lt hul hjn
              have gu2 := arr_get y0 (hys ▸ hun2)
              have lu2 : (u : Int) < (n : Int) := Int.ofNat_lt.2 hun2
              have hsw := arr_swp y0 u a
              have hgs := fun z => get_set_any y0 (i := u) (j := a) (hys ▸ han) z
              (try simp only [go_sem, hA, e13, hA2, f1u, gya, la, f1u, hd, dg, gu2, lu2, hsw, hgs]); repeat' (first | (with_reducible first | refine c_split ?_ ?_ | refine w_split ?_ ?_ | refine tw_split ?_ ?_) <;> intro hb <;> try simp only [go_sem, hb, hA, e13, hA2, f1u, gya, la, f1u, hd, dg, gu2, lu2, hsw, hgs] | (first | with_reducible refine d370_0_LSort6 (by with_unfolding_all rfl) (by kernel_rfl) ?_ | with_reducible refine d370_1_LSort6 (by with_unfolding_all rfl) (by kernel_rfl) ?_ | with_reducible refine d370_2_LSort6 (by with_unfolding_all rfl) (by kernel_rfl) ?_ | with_reducible refine d370_3_LSort6 (by with_unfolding_all rfl) (by kernel_rfl) ?_ | with_reducible refine d370_4_LSort6 (by with_unfolding_all rfl) (by kernel_rfl) ?_ | with_reducible refine d370_5_LSort6 (by with_unfolding_all rfl) (by kernel_rfl) ?_ | with_reducible refine d370_6_LSort6 (by with_unfolding_all rfl) (by kernel_rfl) ?_ | with_reducible refine d370_7_LSort6 (by with_unfolding_all rfl) (by kernel_rfl) ?_ | with_reducible refine d370_8_LSort6 (by with_unfolding_all rfl) (by kernel_rfl) ?_ | fail) <;> try simp only [go_sem, hA, e13, hA2, f1u, gya, la, f1u, hd, dg, gu2, lu2, hsw, hgs] | fail)
              refine hQ [] _ _ (GC.now ?_) <;> simp only [Tryz.f370, go_sem, List.nodup_cons, List.nodup_nil, List.mem_cons, List.not_mem_nil, or_false, not_false_eq_true, List.idxOf?_cons, List.idxOf?_nil, Option.map_none, forall_eq]
              exact hk
            · have dg : decide (((u : Nat) : Int) < ((uu : Nat) : Int)) = false := decide_eq_false (fun q => hgt (Int.ofNat_lt.1 q))
              rw [if_neg hgt] at hpe
              rw [hpe] at hk
              have hle : uu ≤ u := Nat.le_of_not_gt hgt
              have hun2 : u < n := Nat.lt_of_le_of_lt hul hjn
              have huun : uu < n := Nat.lt_of_le_of_lt hle hun2
              have hu0 : 0 < u := Nat.lt_of_lt_of_le hi0 hle
              have gu2 := arr_get y0 (hys ▸ hun2)
              have gu1 := arr_get y0 (hys ▸ huun)
              have lu2 : (u : Int) < (n : Int) := Int.ofNat_lt.2 hun2
              have lu1 : (uu : Int) < (n : Int) := Int.ofNat_lt.2 huun
              have hsw := arr_swp y0 uu u
              have hgs := fun z => get_set_any y0 (i := uu) (j := u) (hys ▸ hun2) z
              have wu1 := pt_wi huun hn
              have wu2 := pt_wj hu0 hun2 hn
              have hys0 := hys
              (try simp only [go_sem, hA, e13, hA2, f1u, gya, la, f1u, hd, dg, gu1, gu2, lu1, lu2, hsw, hgs, wu1, wu2]); repeat' (first | (with_reducible first | refine c_split ?_ ?_ | refine w_split ?_ ?_ | refine tw_split ?_ ?_) <;> intro hb <;> try simp only [go_sem, hb, hA, e13, hA2, f1u, gya, la, f1u, hd, dg, gu1, gu2, lu1, lu2, hsw, hgs, wu1, wu2] | (first | with_reducible refine d370_0_LSort6 (by with_unfolding_all rfl) (by kernel_rfl) ?_ | with_reducible refine d370_1_LSort6 (by with_unfolding_all rfl) (by kernel_rfl) ?_ | with_reducible refine d370_2_LSort6 (by with_unfolding_all rfl) (by kernel_rfl) ?_ | with_reducible refine d370_3_LSort6 (by with_unfolding_all rfl) (by kernel_rfl) ?_ | with_reducible refine d370_4_LSort6 (by with_unfolding_all rfl) (by kernel_rfl) ?_ | with_reducible refine d370_5_LSort6 (by with_unfolding_all rfl) (by kernel_rfl) ?_ | with_reducible refine d370_6_LSort6 (by with_unfolding_all rfl) (by kernel_rfl) ?_ | with_reducible refine d370_7_LSort6 (by with_unfolding_all rfl) (by kernel_rfl) ?_ | with_reducible refine d370_8_LSort6 (by with_unfolding_all rfl) (by kernel_rfl) ?_ | fail) <;> try simp only [go_sem, hA, e13, hA2, f1u, gya, la, f1u, hd, dg, gu1, gu2, lu1, lu2, hsw, hgs, wu1, wu2] | fail)
              have hA3 := hA
              clear hJ
              refine while_at (α := Nat × Nat × Array Lot) (fun ⟨i, j, y⟩ => j + 1 - i) [0, 1, 4] (fun ⟨i, j, y⟩ f h => f 12 = (.one (.c (.int .i64 ((i : Int))))) ∧ f 13 = (.one (.c (.int .i64 ((j : Int))))) ∧ h = [.own g 112 5 cap (y.toList.map lotC)] ∧ 0 < i ∧ j < n ∧ y.size = n ∧ partLoop lotLt a (uu + 1) (u - 1) (swp y0 uu u) = partLoop lotLt a i j y) (uu + 1, u - 1, swp y0 uu u) (GC.now ?_) ?_
              · simp only [go_sem, nc_0, true_and, hA3, hA2, f1u]
                exact ⟨Nat.succ_pos _, Nat.lt_of_le_of_lt (Nat.sub_le _ _) hun2, by rw [swp_size]; exact hys0⟩
              · rintro ⟨i, j, y⟩ f h J hA ⟨e12, e13, rfl, hP⟩ hJ
                simp only [go_sem, hA3, hA2, f1u] at hA
                try dsimp only at hJ
                simp only [go_sem, hA, e12, e13, hA3, hA2, f1u]
                obtain ⟨hii, hjn, hys, hm⟩ := hP
                have gya := arr_get y (hys ▸ han)
                have hA1 := hA
                have hJ1 := hJ
                have f1 := e12
                have f2 := e13
                clear hJ
                refine while_at (α := Nat) (fun u => j + 1 - u) [0, 1, 4, 13] (fun u f h => f 12 = (.one (.c (.int .i64 ((u : Int))))) ∧ h = [.own g 112 5 cap (y.toList.map lotC)] ∧ i ≤ u ∧ scanUp (fun x => lotLt x y[a]!) y j i = scanUp (fun x => lotLt x y[a]!) y j u) i (GC.now ?_) ?_
                · simp only [go_sem, nc_0, true_and, hA1, f1, f2]
                · rintro u f h J hA ⟨e12, rfl, hP⟩ hJ
                  simp only [go_sem, hA1, f1, f2] at hA
                  try dsimp only at hJ
                  simp only [go_sem, hA, e12, hA1, f1, f2]
                  obtain ⟨hul, hsc⟩ := hP
                  by_cases hij : u ≤ j
                  · have hd : decide (((u : Nat) : Int) ≤ ((j : Nat) : Int)) = true := decide_eq_true (Int.ofNat_le.2 hij)
                    have hun : u < n := Nat.lt_of_le_of_lt hij hjn
                    have gu := arr_get y (hys ▸ hun)
                    have lu : (u : Int) < (n : Int) := Int.ofNat_lt.2 hun
                    have hw := pt_wi hun hn
                    cases hc : lotLt y[u]! y[a]! with
                    | true =>
                      have kd : decide (lotCmp y[u]! y[a]! < 0) = true := by rw [← lotCmp_lt]; exact hc
                      rw [su_go (i := u) hij (show ((fun x => lotLt x y[a]!)) y[u]! = true by simp [hc])] at hsc
                      (try simp only [go_sem, hA, e12, hA1, f1, f2, gya, la, hd, gu, lu, kd, hw]); repeat' (first | (with_reducible first | refine c_split ?_ ?_ | refine w_split ?_ ?_ | refine tw_split ?_ ?_) <;> intro hb <;> try simp only [go_sem, hb, hA, e12, hA1, f1, f2, gya, la, hd, gu, lu, kd, hw] | (first | with_reducible refine d370_0_LSort6 (by with_unfolding_all rfl) (by kernel_rfl) ?_ | with_reducible refine d370_1_LSort6 (by with_unfolding_all rfl) (by kernel_rfl) ?_ | with_reducible refine d370_2_LSort6 (by with_unfolding_all rfl) (by kernel_rfl) ?_ | with_reducible refine d370_3_LSort6 (by with_unfolding_all rfl) (by kernel_rfl) ?_ | with_reducible refine d370_4_LSort6 (by with_unfolding_all rfl) (by kernel_rfl) ?_ | with_reducible refine d370_5_LSort6 (by with_unfolding_all rfl) (by kernel_rfl) ?_ | with_reducible refine d370_6_LSort6 (by with_unfolding_all rfl) (by kernel_rfl) ?_ | with_reducible refine d370_7_LSort6 (by with_unfolding_all rfl) (by kernel_rfl) ?_ | with_reducible refine d370_8_LSort6 (by with_unfolding_all rfl) (by kernel_rfl) ?_ | refine call_c (c_lotBefore _ _ _ ?_) | fail) <;> try simp only [go_sem, hA, e12, hA1, f1, f2, gya, la, hd, gu, lu, kd, hw] | fail)
                      refine GC.now (hJ (u + 1) _ _ (by exact pt_m hij) (by simp only [go_sem, hA, e12, hA1, f1, f2]) ⟨?_, ?_, ?_⟩) <;> try simp only [go_sem, hA, e12, hA1, f1, f2, hw]
                      exact ⟨Nat.le_succ_of_le hul, hsc⟩
                    | false =>
                      have kd : decide (lotCmp y[u]! y[a]! < 0) = false := by rw [← lotCmp_lt]; exact hc
                      rw [su_stop (i := u) (.inr (show ((fun x => lotLt x y[a]!)) y[u]! = false by simp [hc]))] at hsc
                      (try simp only [go_sem, hA, e12, hA1, f1, f2, gya, la, hd, gu, lu, kd, hw]); repeat' (first | (with_reducible first | refine c_split ?_ ?_ | refine w_split ?_ ?_ | refine tw_split ?_ ?_) <;> intro hb <;> try simp only [go_sem, hb, hA, e12, hA1, f1, f2, gya, la, hd, gu, lu, kd, hw] | (first | with_reducible refine d370_0_LSort6 (by with_unfolding_all rfl) (by kernel_rfl) ?_ | with_reducible refine d370_1_LSort6 (by with_unfolding_all rfl) (by kernel_rfl) ?_ | with_reducible refine d370_2_LSort6 (by with_unfolding_all rfl) (by kernel_rfl) ?_ | with_reducible refine d370_3_LSort6 (by with_unfolding_all rfl) (by kernel_rfl) ?_ | with_reducible refine d370_4_LSort6 (by with_unfolding_all rfl) (by kernel_rfl) ?_ | with_reducible refine d370_5_LSort6 (by with_unfolding_all rfl) (by kernel_rfl) ?_ | with_reducible refine d370_6_LSort6 (by with_unfolding_all rfl) (by kernel_rfl) ?_ | with_reducible refine d370_7_LSort6 (by with_unfolding_all rfl) (by kernel_rfl) ?_ | with_reducible refine d370_8_LSort6 (by with_unfolding_all rfl) (by kernel_rfl) ?_ | refine call_c (c_lotBefore _ _ _ ?_) | fail) <;> try simp only [go_sem, hA, e12, hA1, f1, f2, gya, la, hd, gu, lu, kd, hw] | fail)
                      obtain ⟨uu, huu⟩ : ∃ q : Nat, q = u := ⟨_, rfl⟩
                      rw [← huu] at hul hsc
                      have hsu := hsc
                      have hulu := hul
                      have f1u := e12
                      rw [← huu] at f1u
                      have hA2 := hA
                      have hi0 : 0 < uu := Nat.lt_of_lt_of_le hii hulu
                      clear hJ
                      refine while_at (α := Nat) (fun u => u) [0, 1, 4, 12] (fun u f h => f 13 = (.one (.c (.int .i64 ((u : Int))))) ∧ h = [.own g 112 5 cap (y.toList.map lotC)] ∧ u ≤ j ∧ scanDown (fun x => !lotLt x y[a]!) y uu j = scanDown (fun x => !lotLt x y[a]!) y uu u) j (GC.now ?_) ?_
                      · simp only [go_sem, nc_0, true_and, hA2, f1u, f2]
                      · rintro u f h J hA ⟨e13, rfl, hP⟩ hJ
                        simp only [go_sem, hA2, f1u, f2] at hA
                        try dsimp only at hJ
                        simp only [go_sem, hA, e13, hA2, f1u, f2]
                        obtain ⟨hul, hsc⟩ := hP
                        by_cases hij : uu ≤ u
                        · have hd : decide (((uu : Nat) : Int) ≤ ((u : Nat) : Int)) = true := decide_eq_true (Int.ofNat_le.2 hij)
                          have hun : u < n := Nat.lt_of_le_of_lt hul hjn
                          have gu := arr_get y (hys ▸ hun)
                          have lu : (u : Int) < (n : Int) := Int.ofNat_lt.2 hun
                          have hu0 : 0 < u := Nat.lt_of_lt_of_le hi0 hij
                          have hw := pt_wj hu0 hun hn
                          cases hc : lotLt y[u]! y[a]! with
                          | true =>
                            have kd : decide (lotCmp y[u]! y[a]! < 0) = true := by rw [← lotCmp_lt]; exact hc
                            rw [sdn_stop (j := u) (.inr (show ((fun x => !lotLt x y[a]!)) y[u]! = false by simp [hc])) hi0] at hsc
                            have hpe := pt_eq hsu hsc
                            by_cases hgt : uu > u
                            · have dg : decide (((u : Nat) : Int) < ((uu : Nat) : Int)) = true := decide_eq_true (Int.ofNat_lt.2 hgt)
                              rw [if_pos hgt] at hpe
                              rw [hm, hpe] at hk
                              have hun2 : u < n := Nat.lt_of_le_of_lt hul hjn
                              have gu2 := arr_get y (hys ▸ hun2)
                              have lu2 : (u : Int) < (n : Int) := Int.ofNat_lt.2 hun2
                              have hsw := arr_swp y u a
                              have hgs := fun z => get_set_any y (i := u) (j := a) (hys ▸ han) z
                              (try simp only [go_sem, hA, e13, hA2, f1u, f2, gya, la, f1u, hd, gu, lu, kd, hw, dg, gu2, lu2, hsw, hgs]); repeat' (first | (with_reducible first | refine c_split ?_ ?_ | refine w_split ?_ ?_ | refine tw_split ?_ ?_) <;> intro hb <;> try simp only [go_sem, hb, hA, e13, hA2, f1u, f2, gya, la, f1u, hd, gu, lu, kd, hw, dg, gu2, lu2, hsw, hgs] | (first | with_reducible refine d370_0_LSort6 (by with_unfolding_all rfl) (by kernel_rfl) ?_ | with_reducible refine d370_1_LSort6 (by with_unfolding_all rfl) (by kernel_rfl) ?_ | with_reducible refine d370_2_LSort6 (by with_unfolding_all rfl) (by kernel_rfl) ?_ | with_reducible refine d370_3_LSort6 (by with_unfolding_all rfl) (by kernel_rfl) ?_ | with_reducible refine d370_4_LSort6 (by with_unfolding_all rfl) (by kernel_rfl) ?_ | with_reducible refine d370_5_LSort6 (by with_unfolding_all rfl) (by kernel_rfl) ?_ | with_reducible refine d370_6_LSort6 (by with_unfolding_all rfl) (by kernel_rfl) ?_ | with_reducible refine d370_7_LSort6 (by with_unfolding_all rfl) (by kernel_rfl) ?_ | with_reducible refine d370_8_LSort6 (by with_unfolding_all rfl) (by kernel_rfl) ?_ | refine call_c (c_lotBefore _ _ _ ?_) | fail) <;> try simp only [go_sem, hA, e13, hA2, f1u, f2, gya, la, f1u, hd, gu, lu, kd, hw, dg, gu2, lu2, hsw, hgs] | fail)
                              refine hQ [] _ _ (GC.now ?_) <;> simp only [Tryz.f370, go_sem, List.nodup_cons, List.nodup_nil, List.mem_cons, List.not_mem_nil, or_false, not_false_eq_true, List.idxOf?_cons, List.idxOf?_nil, Option.map_none, forall_eq]
                              exact hk
                            · have dg : decide (((u : Nat) : Int) < ((uu : Nat) : Int)) = false := decide_eq_false (fun q => hgt (Int.ofNat_lt.1 q))
                              rw [if_neg hgt] at hpe
                              rw [hpe] at hm
                              have hle : uu ≤ u := Nat.le_of_not_gt hgt
                              have hun2 : u < n := Nat.lt_of_le_of_lt hul hjn
                              have huun : uu < n := Nat.lt_of_le_of_lt hle hun2
                              have hu0 : 0 < u := Nat.lt_of_lt_of_le hi0 hle
                              have gu2 := arr_get y (hys ▸ hun2)
                              have gu1 := arr_get y (hys ▸ huun)
                              have lu2 : (u : Int) < (n : Int) := Int.ofNat_lt.2 hun2
                              have lu1 : (uu : Int) < (n : Int) := Int.ofNat_lt.2 huun
                              have hsw := arr_swp y uu u
                              have hgs := fun z => get_set_any y (i := uu) (j := u) (hys ▸ hun2) z
                              have wu1 := pt_wi huun hn
                              have wu2 := pt_wj hu0 hun2 hn
                              (try simp only [go_sem, hA, e13, hA2, f1u, f2, gya, la, f1u, hd, gu, lu, kd, hw, dg, gu1, gu2, lu1, lu2, hsw, hgs, wu1, wu2]); repeat' (first | (with_reducible first | refine c_split ?_ ?_ | refine w_split ?_ ?_ | refine tw_split ?_ ?_) <;> intro hb <;> try simp only [go_sem, hb, hA, e13, hA2, f1u, f2, gya, la, f1u, hd, gu, lu, kd, hw, dg, gu1, gu2, lu1, lu2, hsw, hgs, wu1, wu2] | (first | with_reducible refine d370_0_LSort6 (by with_unfolding_all rfl) (by kernel_rfl) ?_ | with_reducible refine d370_1_LSort6 (by with_unfolding_all rfl) (by kernel_rfl) ?_ | with_reducible refine d370_2_LSort6 (by with_unfolding_all rfl) (by kernel_rfl) ?_ | with_reducible refine d370_3_LSort6 (by with_unfolding_all rfl) (by kernel_rfl) ?_ | with_reducible refine d370_4_LSort6 (by with_unfolding_all rfl) (by kernel_rfl) ?_ | with_reducible refine d370_5_LSort6 (by with_unfolding_all rfl) (by kernel_rfl) ?_ | with_reducible refine d370_6_LSort6 (by with_unfolding_all rfl) (by kernel_rfl) ?_ | with_reducible refine d370_7_LSort6 (by with_unfolding_all rfl) (by kernel_rfl) ?_ | with_reducible refine d370_8_LSort6 (by with_unfolding_all rfl) (by kernel_rfl) ?_ | refine call_c (c_lotBefore _ _ _ ?_) | fail) <;> try simp only [go_sem, hA, e13, hA2, f1u, f2, gya, la, f1u, hd, gu, lu, kd, hw, dg, gu1, gu2, lu1, lu2, hsw, hgs, wu1, wu2] | fail)
                              refine GC.now (hJ1 (uu + 1, u - 1, swp y uu u) _ _ (pt_dec hulu hul hgt) (by simp only [go_sem, hA, e13, hA2, f1u, f2, hA3]) ⟨?_, ?_, ?_, ?_⟩) <;> try simp only [go_sem, hA, e13, hA2, f1u, f2, wu1, wu2, hsw]
                              exact ⟨Nat.succ_pos _, Nat.lt_of_le_of_lt (Nat.sub_le _ _) hun2, by rw [swp_size]; exact hys, hm⟩
                          | false =>
                            have kd : decide (lotCmp y[u]! y[a]! < 0) = false := by rw [← lotCmp_lt]; exact hc
                            rw [sdn_go (j := u) hu0 hij (show ((fun x => !lotLt x y[a]!)) y[u]! = true by simp [hc])] at hsc
                            (try simp only [go_sem, hA, e13, hA2, f1u, f2, gya, la, f1u, hd, gu, lu, kd, hw]); repeat' (first | (with_reducible first | refine c_split ?_ ?_ | refine w_split ?_ ?_ | refine tw_split ?_ ?_) <;> intro hb <;> try simp only [go_sem, hb, hA, e13, hA2, f1u, f2, gya, la, f1u, hd, gu, lu, kd, hw] | (first | with_reducible refine d370_0_LSort6 (by with_unfolding_all rfl) (by kernel_rfl) ?_ | with_reducible refine d370_1_LSort6 (by with_unfolding_all rfl) (by kernel_rfl) ?_ | with_reducible refine d370_2_LSort6 (by with_unfolding_all rfl) (by kernel_rfl) ?_ | with_reducible refine d370_3_LSort6 (by with_unfolding_all rfl) (by kernel_rfl) ?_ | with_reducible refine d370_4_LSort6 (by with_unfolding_all rfl) (by kernel_rfl) ?_ | with_reducible refine d370_5_LSort6 (by with_unfolding_all rfl) (by kernel_rfl) ?_ | with_reducible refine d370_6_LSort6 (by with_unfolding_all rfl) (by kernel_rfl) ?_ | with_reducible refine d370_7_LSort6 (by with_unfolding_all rfl) (by kernel_rfl) ?_ | with_reducible refine d370_8_LSort6 (by with_unfolding_all rfl) (by kernel_rfl) ?_ | refine call_c (c_lotBefore _ _ _ ?_) | fail) <;> try simp only [go_sem, hA, e13, hA2, f1u, f2, gya, la, f1u, hd, gu, lu, kd, hw] | fail)
                            refine GC.now (hJ (u - 1) _ _ (by exact Nat.sub_lt hu0 Nat.zero_lt_one) (by simp only [go_sem, hA, e13, hA2, f1u, f2]) ⟨?_, ?_, ?_⟩) <;> try simp only [go_sem, hA, e13, hA2, f1u, f2, hw]
                            exact ⟨Nat.le_trans (Nat.sub_le _ _) hul, hsc⟩
                        · have hd : decide (((uu : Nat) : Int) ≤ ((u : Nat) : Int)) = false := decide_eq_false (fun q => hij (Int.ofNat_le.1 q))
                          rw [sdn_stop (j := u) (.inl hij) hi0] at hsc
                          have hpe := pt_eq hsu hsc
                          by_cases hgt : uu > u
                          · have dg : decide (((u : Nat) : Int) < ((uu : Nat) : Int)) = true := decide_eq_true (Int.ofNat_lt.2 hgt)
                            rw [if_pos hgt] at hpe
                            rw [hm, hpe] at hk
                            have hun2 : u < n := Nat.lt_of_le_of_lt hul hjn
                            have gu2 := arr_get y (hys ▸ hun2)
                            have lu2 : (u : Int) < (n : Int) := Int.ofNat_lt.2 hun2
                            have hsw := arr_swp y u a
                            have hgs := fun z => get_set_any y (i := u) (j := a) (hys ▸ han) z
                            (try simp only [go_sem, hA, e13, hA2, f1u, f2, gya, la, f1u, hd, dg, gu2, lu2, hsw, hgs]); repeat' (first | (with_reducible first | refine c_split ?_ ?_ | refine w_split ?_ ?_ | refine tw_split ?_ ?_) <;> intro hb <;> try simp only [go_sem, hb, hA, e13, hA2, f1u, f2, gya, la, f1u, hd, dg, gu2, lu2, hsw, hgs] | (first | with_reducible refine d370_0_LSort6 (by with_unfolding_all rfl) (by kernel_rfl) ?_ | with_reducible refine d370_1_LSort6 (by with_unfolding_all rfl) (by kernel_rfl) ?_ | with_reducible refine d370_2_LSort6 (by with_unfolding_all rfl) (by kernel_rfl) ?_ | with_reducible refine d370_3_LSort6 (by with_unfolding_all rfl) (by kernel_rfl) ?_ | with_reducible refine d370_4_LSort6 (by with_unfolding_all rfl) (by kernel_rfl) ?_ | with_reducible refine d370_5_LSort6 (by with_unfolding_all rfl) (by kernel_rfl) ?_ | with_reducible refine d370_6_LSort6 (by with_unfolding_all rfl) (by kernel_rfl) ?_ | with_reducible refine d370_7_LSort6 (by with_unfolding_all rfl) (by kernel_rfl) ?_ | with_reducible refine d370_8_LSort6 (by with_unfolding_all rfl) (by kernel_rfl) ?_ | fail) <;> try simp only [go_sem, hA, e13, hA2, f1u, f2, gya, la, f1u, hd, dg, gu2, lu2, hsw, hgs] | fail)
                            refine hQ [] _ _ (GC.now ?_) <;> simp only [Tryz.f370, go_sem, List.nodup_cons, List.nodup_nil, List.mem_cons, List.not_mem_nil, or_false, not_false_eq_true, List.idxOf?_cons, List.idxOf?_nil, Option.map_none, forall_eq]
                            exact hk
                          · have dg : decide (((u : Nat) : Int) < ((uu : Nat) : Int)) = false := decide_eq_false (fun q => hgt (Int.ofNat_lt.1 q))
                            rw [if_neg hgt] at hpe
                            rw [hpe] at hm
                            have hle : uu ≤ u := Nat.le_of_not_gt hgt
                            have hun2 : u < n := Nat.lt_of_le_of_lt hul hjn
                            have huun : uu < n := Nat.lt_of_le_of_lt hle hun2
                            have hu0 : 0 < u := Nat.lt_of_lt_of_le hi0 hle
                            have gu2 := arr_get y (hys ▸ hun2)
                            have gu1 := arr_get y (hys ▸ huun)
                            have lu2 : (u : Int) < (n : Int) := Int.ofNat_lt.2 hun2
                            have lu1 : (uu : Int) < (n : Int) := Int.ofNat_lt.2 huun
                            have hsw := arr_swp y uu u
                            have hgs := fun z => get_set_any y (i := uu) (j := u) (hys ▸ hun2) z
                            have wu1 := pt_wi huun hn
                            have wu2 := pt_wj hu0 hun2 hn
                            (try simp only [go_sem, hA, e13, hA2, f1u, f2, gya, la, f1u, hd, dg, gu1, gu2, lu1, lu2, hsw, hgs, wu1, wu2]); repeat' (first | (with_reducible first | refine c_split ?_ ?_ | refine w_split ?_ ?_ | refine tw_split ?_ ?_) <;> intro hb <;> try simp only [go_sem, hb, hA, e13, hA2, f1u, f2, gya, la, f1u, hd, dg, gu1, gu2, lu1, lu2, hsw, hgs, wu1, wu2] | (first | with_reducible refine d370_0_LSort6 (by with_unfolding_all rfl) (by kernel_rfl) ?_ | with_reducible refine d370_1_LSort6 (by with_unfolding_all rfl) (by kernel_rfl) ?_ | with_reducible refine d370_2_LSort6 (by with_unfolding_all rfl) (by kernel_rfl) ?_ | with_reducible refine d370_3_LSort6 (by with_unfolding_all rfl) (by kernel_rfl) ?_ | with_reducible refine d370_4_LSort6 (by with_unfolding_all rfl) (by kernel_rfl) ?_ | with_reducible refine d370_5_LSort6 (by with_unfolding_all rfl) (by kernel_rfl) ?_ | with_reducible refine d370_6_LSort6 (by with_unfolding_all rfl) (by kernel_rfl) ?_ | with_reducible refine d370_7_LSort6 (by with_unfolding_all rfl) (by kernel_rfl) ?_ | with_reducible refine d370_8_LSort6 (by with_unfolding_all rfl) (by kernel_rfl) ?_ | fail) <;> try simp only [go_sem, hA, e13, hA2, f1u, f2, gya, la, f1u, hd, dg, gu1, gu2, lu1, lu2, hsw, hgs, wu1, wu2] | fail)
                            refine GC.now (hJ1 (uu + 1, u - 1, swp y uu u) _ _ (pt_dec hulu hul hgt) (by simp only [go_sem, hA, e13, hA2, f1u, f2, hA3]) ⟨?_, ?_, ?_, ?_⟩) <;> try simp only [go_sem, hA, e13, hA2, f1u, f2, wu1, wu2, hsw]
                            exact ⟨Nat.succ_pos _, Nat.lt_of_le_of_lt (Nat.sub_le _ _) hun2, by rw [swp_size]; exact hys, hm⟩
                  · have hd : decide (((u : Nat) : Int) ≤ ((j : Nat) : Int)) = false := decide_eq_false (fun q => hij (Int.ofNat_le.1 q))
                    rw [su_stop (i := u) (.inl hij)] at hsc
                    (try simp only [go_sem, hA, e12, hA1, f1, f2, gya, la, hd]); repeat' (first | (with_reducible first | refine c_split ?_ ?_ | refine w_split ?_ ?_ | refine tw_split ?_ ?_) <;> intro hb <;> try simp only [go_sem, hb, hA, e12, hA1, f1, f2, gya, la, hd] | (first | with_reducible refine d370_0_LSort6 (by with_unfolding_all rfl) (by kernel_rfl) ?_ | with_reducible refine d370_1_LSort6 (by with_unfolding_all rfl) (by kernel_rfl) ?_ | with_reducible refine d370_2_LSort6 (by with_unfolding_all rfl) (by kernel_rfl) ?_ | with_reducible refine d370_3_LSort6 (by with_unfolding_all rfl) (by kernel_rfl) ?_ | with_reducible refine d370_4_LSort6 (by with_unfolding_all rfl) (by kernel_rfl) ?_ | with_reducible refine d370_5_LSort6 (by with_unfolding_all rfl) (by kernel_rfl) ?_ | with_reducible refine d370_6_LSort6 (by with_unfolding_all rfl) (by kernel_rfl) ?_ | with_reducible refine d370_7_LSort6 (by with_unfolding_all rfl) (by kernel_rfl) ?_ | with_reducible refine d370_8_LSort6 (by with_unfolding_all rfl) (by kernel_rfl) ?_ | fail) <;> try simp only [go_sem, hA, e12, hA1, f1, f2, gya, la, hd] | fail)
                    obtain ⟨uu, huu⟩ : ∃ q : Nat, q = u := ⟨_, rfl⟩
                    rw [← huu] at hul hsc
                    have hsu := hsc
                    have hulu := hul
                    have f1u := e12
                    rw [← huu] at f1u
                    have hA2 := hA
                    have hi0 : 0 < uu := Nat.lt_of_lt_of_le hii hulu
                    clear hJ
                    refine while_at (α := Nat) (fun u => u) [0, 1, 4, 12] (fun u f h => f 13 = (.one (.c (.int .i64 ((u : Int))))) ∧ h = [.own g 112 5 cap (y.toList.map lotC)] ∧ u ≤ j ∧ scanDown (fun x => !lotLt x y[a]!) y uu j = scanDown (fun x => !lotLt x y[a]!) y uu u) j (GC.now ?_) ?_
                    · simp only [go_sem, nc_0, true_and, hA2, f1u, f2]
                    · rintro u f h J hA ⟨e13, rfl, hP⟩ hJ
                      simp only [go_sem, hA2, f1u, f2] at hA
                      try dsimp only at hJ
                      simp only [go_sem, hA, e13, hA2, f1u, f2]
                      obtain ⟨hul, hsc⟩ := hP
                      by_cases hij : uu ≤ u
                      · have hd : decide (((uu : Nat) : Int) ≤ ((u : Nat) : Int)) = true := decide_eq_true (Int.ofNat_le.2 hij)
                        have hun : u < n := Nat.lt_of_le_of_lt hul hjn
                        have gu := arr_get y (hys ▸ hun)
                        have lu : (u : Int) < (n : Int) := Int.ofNat_lt.2 hun
                        have hu0 : 0 < u := Nat.lt_of_lt_of_le hi0 hij
                        have hw := pt_wj hu0 hun hn
                        cases hc : lotLt y[u]! y[a]! with
                        | true =>
                          have kd : decide (lotCmp y[u]! y[a]! < 0) = true := by rw [← lotCmp_lt]; exact hc
                          rw [sdn_stop (j := u) (.inr (show ((fun x => !lotLt x y[a]!)) y[u]! = false by simp [hc])) hi0] at hsc
                          have hpe := pt_eq hsu hsc
                          by_cases hgt : uu > u
                          · have dg : decide (((u : Nat) : Int) < ((uu : Nat) : Int)) = true := decide_eq_true (Int.ofNat_lt.2 hgt)
                            rw [if_pos hgt] at hpe
                            rw [hm, hpe] at hk
                            have hun2 : u < n := Nat.lt_of_le_of_lt hul hjn
                            have gu2 := arr_get y (hys ▸ hun2)
                            have lu2 : (u : Int) < (n : Int) := Int.ofNat_lt.2 hun2
                            have hsw := arr_swp y u a
                            have hgs := fun z => get_set_any y (i := u) (j := a) (hys ▸ han) z
                            (try simp only [go_sem, hA, e13, hA2, f1u, f2, gya, la, f1u, hd, gu, lu, kd, hw, dg, gu2, lu2, hsw, hgs]); repeat' (first | (with_reducible first | refine c_split ?_ ?_ | refine w_split ?_ ?_ | refine tw_split ?_ ?_) <;> intro hb <;> try simp only [go_sem, hb, hA, e13, hA2, f1u, f2, gya, la, f1u, hd, gu, lu, kd, hw, dg, gu2, lu2, hsw, hgs] | (first | with_reducible refine d370_0_LSort6 (by with_unfolding_all rfl) (by kernel_rfl) ?_ | with_reducible refine d370_1_LSort6 (by with_unfolding_all rfl) (by kernel_rfl) ?_ | with_reducible refine d370_2_LSort6 (by with_unfolding_all rfl) (by kernel_rfl) ?_ | with_reducible refine d370_3_LSort6 (by with_unfolding_all rfl) (by kernel_rfl) ?_ | with_reducible refine d370_4_LSort6 (by with_unfolding_all rfl) (by kernel_rfl) ?_ | with_reducible refine d370_5_LSort6 (by with_unfolding_all rfl) (by kernel_rfl) ?_ | with_reducible refine d370_6_LSort6 (by with_unfolding_all rfl) (by kernel_rfl) ?_ | with_reducible refine d370_7_LSort6 (by with_unfolding_all rfl) (by kernel_rfl) ?_ | with_reducible refine d370_8_LSort6 (by with_unfolding_all rfl) (by kernel_rfl) ?_ | refine call_c (c_lotBefore _ _ _ ?_) | fail) <;> try simp only [go_sem, hA, e13, hA2, f1u, f2, gya, la, f1u, hd, gu, lu, kd, hw, dg, gu2, lu2, hsw, hgs] | fail)
                            refine hQ [] _ _ (GC.now ?_) <;> simp only [Tryz.f370, go_sem, List.nodup_cons, List.nodup_nil, List.mem_cons, List.not_mem_nil, or_false, not_false_eq_true, List.idxOf?_cons, List.idxOf?_nil, Option.map_none, forall_eq]
                            exact hk
                          · have dg : decide (((u : Nat) : Int) < ((uu : Nat) : Int)) = false := decide_eq_false (fun q => hgt (Int.ofNat_lt.1 q))
                            rw [if_neg hgt] at hpe
                            rw [hpe] at hm
                            have hle : uu ≤ u := Nat.le_of_not_gt hgt
                            have hun2 : u < n := Nat.lt_of_le_of_lt hul hjn
                            have huun : uu < n := Nat.lt_of_le_of_lt hle hun2
                            have hu0 : 0 < u := Nat.lt_of_lt_of_le hi0 hle
                            have gu2 := arr_get y (hys ▸ hun2)
                            have gu1 := arr_get y (hys ▸ huun)
                            have lu2 : (u : Int) < (n : Int) := Int.ofNat_lt.2 hun2
                            have lu1 : (uu : Int) < (n : Int) := Int.ofNat_lt.2 huun
                            have hsw := arr_swp y uu u
                            have hgs := fun z => get_set_any y (i := uu) (j := u) (hys ▸ hun2) z
                            have wu1 := pt_wi huun hn
                            have wu2 := pt_wj hu0 hun2 hn
                            (try simp only [go_sem, hA, e13, hA2, f1u, f2, gya, la, f1u, hd, gu, lu, kd, hw, dg, gu1, gu2, lu1, lu2, hsw, hgs, wu1, wu2]); repeat' (first | (with_reducible first | refine c_split ?_ ?_ | refine w_split ?_ ?_ | refine tw_split ?_ ?_) <;> intro hb <;> try simp only [go_sem, hb, hA, e13, hA2, f1u, f2, gya, la, f1u, hd, gu, lu, kd, hw, dg, gu1, gu2, lu1, lu2, hsw, hgs, wu1, wu2] | (first | with_reducible refine d370_0_LSort6 (by with_unfolding_all rfl) (by kernel_rfl) ?_ | with_reducible refine d370_1_LSort6 (by with_unfolding_all rfl) (by kernel_rfl) ?_ | with_reducible refine d370_2_LSort6 (by with_unfolding_all rfl) (by kernel_rfl) ?_ | with_reducible refine d370_3_LSort6 (by with_unfolding_all rfl) (by kernel_rfl) ?_ | with_reducible refine d370_4_LSort6 (by with_unfolding_all rfl) (by kernel_rfl) ?_ | with_reducible refine d370_5_LSort6 (by with_unfolding_all rfl) (by kernel_rfl) ?_ | with_reducible refine d370_6_LSort6 (by with_unfolding_all rfl) (by kernel_rfl) ?_ | with_reducible refine d370_7_LSort6 (by with_unfolding_all rfl) (by kernel_rfl) ?_ | with_reducible refine d370_8_LSort6 (by with_unfolding_all rfl) (by kernel_rfl) ?_ | refine call_c (c_lotBefore _ _ _ ?_) | fail) <;> try simp only [go_sem, hA, e13, hA2, f1u, f2, gya, la, f1u, hd, gu, lu, kd, hw, dg, gu1, gu2, lu1, lu2, hsw, hgs, wu1, wu2] | fail)
                            refine GC.now (hJ1 (uu + 1, u - 1, swp y uu u) _ _ (pt_dec hulu hul hgt) (by simp only [go_sem, hA, e13, hA2, f1u, f2, hA3]) ⟨?_, ?_, ?_, ?_⟩) <;> try simp only [go_sem, hA, e13, hA2, f1u, f2, wu1, wu2, hsw]
                            exact ⟨Nat.succ_pos _, Nat.lt_of_le_of_lt (Nat.sub_le _ _) hun2, by rw [swp_size]; exact hys, hm⟩
                        | false =>
                          have kd : decide (lotCmp y[u]! y[a]! < 0) = false := by rw [← lotCmp_lt]; exact hc
                          rw [sdn_go (j := u) hu0 hij (show ((fun x => !lotLt x y[a]!)) y[u]! = true by simp [hc])] at hsc
                          (try simp only [go_sem, hA, e13, hA2, f1u, f2, gya, la, f1u, hd, gu, lu, kd, hw]); repeat' (first | (with_reducible first | refine c_split ?_ ?_ | refine w_split ?_ ?_ | refine tw_split ?_ ?_) <;> intro hb <;> try simp only [go_sem, hb, hA, e13, hA2, f1u, f2, gya, la, f1u, hd, gu, lu, kd, hw] | (first | with_reducible refine d370_0_LSort6 (by with_unfolding_all rfl) (by kernel_rfl) ?_ | with_reducible refine d370_1_LSort6 (by with_unfolding_all rfl) (by kernel_rfl) ?_ | with_reducible refine d370_2_LSort6 (by with_unfolding_all rfl) (by kernel_rfl) ?_ | with_reducible refine d370_3_LSort6 (by with_unfolding_all rfl) (by kernel_rfl) ?_ | with_reducible refine d370_4_LSort6 (by with_unfolding_all rfl) (by kernel_rfl) ?_ | with_reducible refine d370_5_LSort6 (by with_unfolding_all rfl) (by kernel_rfl) ?_ | with_reducible refine d370_6_LSort6 (by with_unfolding_all rfl) (by kernel_rfl) ?_ | with_reducible refine d370_7_LSort6 (by with_unfolding_all rfl) (by kernel_rfl) ?_ | with_reducible refine d370_8_LSort6 (by with_unfolding_all rfl) (by kernel_rfl) ?_ | refine call_c (c_lotBefore _ _ _ ?_) | fail) <;> try simp only [go_sem, hA, e13, hA2, f1u, f2, gya, la, f1u, hd, gu, lu, kd, hw] | fail)
                          refine GC.now (hJ (u - 1) _ _ (by exact Nat.sub_lt hu0 Nat.zero_lt_one) (by simp only [go_sem, hA, e13, hA2, f1u, f2]) ⟨?_, ?_, ?_⟩) <;> try simp only [go_sem, hA, e13, hA2, f1u, f2, hw]
                          exact ⟨Nat.le_trans (Nat.sub_le _ _) hul, hsc⟩
                      · have hd : decide (((uu : Nat) : Int) ≤ ((u : Nat) : Int)) = false := decide_eq_false (fun q => hij (Int.ofNat_le.1 q))
                        rw [sdn_stop (j := u) (.inl hij) hi0] at hsc
                        have hpe := pt_eq hsu hsc
                        by_cases hgt : uu > u
                        · have dg : decide (((u : Nat) : Int) < ((uu : Nat) : Int)) = true := decide_eq_true (Int.ofNat_lt.2 hgt)
                          rw [if_pos hgt] at hpe
                          rw [hm, hpe] at hk
                          have hun2 : u < n := Nat.lt_of_le_of_lt hul hjn
                          have gu2 := arr_get y (hys ▸ hun2)
                          have lu2 : (u : Int) < (n : Int) := Int.ofNat_lt.2 hun2
                          have hsw := arr_swp y u a
                          have hgs := fun z => get_set_any y (i := u) (j := a) (hys ▸ han) z
                          (try simp only [go_sem, hA, e13, hA2, f1u, f2, gya, la, f1u, hd, dg, gu2, lu2, hsw, hgs]); repeat' (first | (with_reducible first | refine c_split ?_ ?_ | refine w_split ?_ ?_ | refine tw_split ?_ ?_) <;> intro hb <;> try simp only [go_sem, hb, hA, e13, hA2, f1u, f2, gya, la, f1u, hd, dg, gu2, lu2, hsw, hgs] | (first | with_reducible refine d370_0_LSort6 (by with_unfolding_all rfl) (by kernel_rfl) ?_ | with_reducible refine d370_1_LSort6 (by with_unfolding_all rfl) (by kernel_rfl) ?_ | with_reducible refine d370_2_LSort6 (by with_unfolding_all rfl) (by kernel_rfl) ?_ | with_reducible refine d370_3_LSort6 (by with_unfolding_all rfl) (by kernel_rfl) ?_ | with_reducible refine d370_4_LSort6 (by with_unfolding_all rfl) (by kernel_rfl) ?_ | with_reducible refine d370_5_LSort6 (by with_unfolding_all rfl) (by kernel_rfl) ?_ | with_reducible refine d370_6_LSort6 (by with_unfolding_all rfl) (by kernel_rfl) ?_ | with_reducible refine d370_7_LSort6 (by with_unfolding_all rfl) (by kernel_rfl) ?_ | with_reducible refine d370_8_LSort6 (by with_unfolding_all rfl) (by kernel_rfl) ?_ | fail) <;> try simp only [go_sem, hA, e13, hA2, f1u, f2, gya, la, f1u, hd, dg, gu2, lu2, hsw, hgs] | fail)
                          refine hQ [] _ _ (GC.now ?_) <;> simp only [Tryz.f370, go_sem, List.nodup_cons, List.nodup_nil, List.mem_cons, List.not_mem_nil, or_false, not_false_eq_true, List.idxOf?_cons, List.idxOf?_nil, Option.map_none, forall_eq]
                          exact hk
                        · have dg : decide (((u : Nat) : Int) < ((uu : Nat) : Int)) = false := decide_eq_false (fun q => hgt (Int.ofNat_lt.1 q))
                          rw [if_neg hgt] at hpe
                          rw [hpe] at hm
                          have hle : uu ≤ u := Nat.le_of_not_gt hgt
                          have hun2 : u < n := Nat.lt_of_le_of_lt hul hjn
                          have huun : uu < n := Nat.lt_of_le_of_lt hle hun2
                          have hu0 : 0 < u := Nat.lt_of_lt_of_le hi0 hle
                          have gu2 := arr_get y (hys ▸ hun2)
                          have gu1 := arr_get y (hys ▸ huun)
                          have lu2 : (u : Int) < (n : Int) := Int.ofNat_lt.2 hun2
                          have lu1 : (uu : Int) < (n : Int) := Int.ofNat_lt.2 huun
                          have hsw := arr_swp y uu u
                          have hgs := fun z => get_set_any y (i := uu) (j := u) (hys ▸ hun2) z
                          have wu1 := pt_wi huun hn
                          have wu2 := pt_wj hu0 hun2 hn
                          (try simp only [go_sem, hA, e13, hA2, f1u, f2, gya, la, f1u, hd, dg, gu1, gu2, lu1, lu2, hsw, hgs, wu1, wu2]); repeat' (first | (with_reducible first | refine c_split ?_ ?_ | refine w_split ?_ ?_ | refine tw_split ?_ ?_) <;> intro hb <;> try simp only [go_sem, hb, hA, e13, hA2, f1u, f2, gya, la, f1u, hd, dg, gu1, gu2, lu1, lu2, hsw, hgs, wu1, wu2] | (first | with_reducible refine d370_0_LSort6 (by with_unfolding_all rfl) (by kernel_rfl) ?_ | with_reducible refine d370_1_LSort6 (by with_unfolding_all rfl) (by kernel_rfl) ?_ | with_reducible refine d370_2_LSort6 (by with_unfolding_all rfl) (by kernel_rfl) ?_ | with_reducible refine d370_3_LSort6 (by with_unfolding_all rfl) (by kernel_rfl) ?_ | with_reducible refine d370_4_LSort6 (by with_unfolding_all rfl) (by kernel_rfl) ?_ | with_reducible refine d370_5_LSort6 (by with_unfolding_all rfl) (by kernel_rfl) ?_ | with_reducible refine d370_6_LSort6 (by with_unfolding_all rfl) (by kernel_rfl) ?_ | with_reducible refine d370_7_LSort6 (by with_unfolding_all rfl) (by kernel_rfl) ?_ | with_reducible refine d370_8_LSort6 (by with_unfolding_all rfl) (by kernel_rfl) ?_ | fail) <;> try simp only [go_sem, hA, e13, hA2, f1u, f2, gya, la, f1u, hd, dg, gu1, gu2, lu1, lu2, hsw, hgs, wu1, wu2] | fail)
                          refine GC.now (hJ1 (uu + 1, u - 1, swp y uu u) _ _ (pt_dec hulu hul hgt) (by simp only [go_sem, hA, e13, hA2, f1u, f2, hA3]) ⟨?_, ?_, ?_, ?_⟩) <;> try simp only [go_sem, hA, e13, hA2, f1u, f2, wu1, wu2, hsw]
                          exact ⟨Nat.succ_pos _, Nat.lt_of_le_of_lt (Nat.sub_le _ _) hun2, by rw [swp_size]; exact hys, hm⟩
    · have hd : decide (((u : Nat) : Int) ≤ ((j0 : Nat) : Int)) = false := decide_eq_false (fun q => hij (Int.ofNat_le.1 q))
      rw [su_stop (i := u) (.inl hij)] at hsc
      (try simp only [go_sem, hA, e12, wa, wb, gya, la, hd]); repeat' (first | (with_reducible first | refine c_split ?_ ?_ | refine w_split ?_ ?_ | refine tw_split ?_ ?_) <;> intro hb <;> try simp only [go_sem, hb, hA, e12, wa, wb, gya, la, hd] | (first | with_reducible refine d370_0_LSort6 (by with_unfolding_all rfl) (by kernel_rfl) ?_ | with_reducible refine d370_1_LSort6 (by with_unfolding_all rfl) (by kernel_rfl) ?_ | with_reducible refine d370_2_LSort6 (by with_unfolding_all rfl) (by kernel_rfl) ?_ | with_reducible refine d370_3_LSort6 (by with_unfolding_all rfl) (by kernel_rfl) ?_ | with_reducible refine d370_4_LSort6 (by with_unfolding_all rfl) (by kernel_rfl) ?_ | with_reducible refine d370_5_LSort6 (by with_unfolding_all rfl) (by kernel_rfl) ?_ | with_reducible refine d370_6_LSort6 (by with_unfolding_all rfl) (by kernel_rfl) ?_ | with_reducible refine d370_7_LSort6 (by with_unfolding_all rfl) (by kernel_rfl) ?_ | with_reducible refine d370_8_LSort6 (by with_unfolding_all rfl) (by kernel_rfl) ?_ | fail) <;> try simp only [go_sem, hA, e12, wa, wb, gya, la, hd] | fail)
      obtain ⟨uu, huu⟩ : ∃ q : Nat, q = u := ⟨_, rfl⟩
      rw [← huu] at hul hsc
      have hsu := hsc
      have hulu := hul
      have f1u := e12
      rw [← huu] at f1u
      have hA2 := hA
      have hi0 : 0 < uu := Nat.lt_of_lt_of_le hii hulu
      clear hJ
      refine while_at (α := Nat) (fun u => u) [0, 1, 4, 12] (fun u f h => f 13 = (.one (.c (.int .i64 ((u : Int))))) ∧ h = [.own g 112 5 cap (y0.toList.map lotC)] ∧ u ≤ j0 ∧ scanDown (fun x => !lotLt x y0[a]!) y0 uu j0 = scanDown (fun x => !lotLt x y0[a]!) y0 uu u) j0 (GC.now ?_) ?_
      · simp only [go_sem, nc_0, true_and, hA2, f1u]
      · rintro u f h J hA ⟨e13, rfl, hP⟩ hJ
        simp only [go_sem, hA2, f1u] at hA
        try dsimp only at hJ
        simp only [go_sem, hA, e13, hA2, f1u]
        obtain ⟨hul, hsc⟩ := hP
        by_cases hij : uu ≤ u
        · have hd : decide (((uu : Nat) : Int) ≤ ((u : Nat) : Int)) = true := decide_eq_true (Int.ofNat_le.2 hij)
          have hun : u < n := Nat.lt_of_le_of_lt hul hjn
          have gu := arr_get y0 (hys ▸ hun)
          have lu : (u : Int) < (n : Int) := Int.ofNat_lt.2 hun
          have hu0 : 0 < u := Nat.lt_of_lt_of_le hi0 hij
          have hw := pt_wj hu0 hun hn
          cases hc : lotLt y0[u]! y0[a]! with
          | true =>
            have kd : decide (lotCmp y0[u]! y0[a]! < 0) = true := by rw [← lotCmp_lt]; exact hc
            rw [sdn_stop (j := u) (.inr (show ((fun x => !lotLt x y0[a]!)) y0[u]! = false by simp [hc])) hi0] at hsc
            have hpe := htop _ _ hsu hsc
            by_cases hgt : uu > u
            · have dg : decide (((u : Nat) : Int) < ((uu : Nat) : Int)) = true := decide_eq_true (Int.ofNat_lt.2 hgt)
              rw [if_pos hgt] at hpe
              rw [hpe] at hk
              have hun2 : u < n := Nat.lt_of_le_of_lt hul hjn
              have gu2 := arr_get y0 (hys ▸ hun2)
              have lu2 : (u : Int) < (n : Int) := Int.ofNat_lt.2 hun2
              have hsw := arr_swp y0 u a
              have hgs := fun z => get_set_any y0 (i := u) (j := a) (hys ▸ han) z
              (try simp only [go_sem, hA, e13, hA2, f1u, gya, la, f1u, hd, gu, lu, kd, hw, dg, gu2, lu2, hsw, hgs]); repeat' (first | (with_reducible first | refine c_split ?_ ?_ | refine w_split ?_ ?_ | refine tw_split ?_ ?_) <;> intro hb <;> try simp only [go_sem, hb, hA, e13, hA2, f1u, gya, la, f1u, hd, gu, lu, kd, hw, dg, gu2, lu2, hsw, hgs] | (first | with_reducible refine d370_0_LSort6 (by with_unfolding_all rfl) (by kernel_rfl) ?_ | with_reducible refine d370_1_LSort6 (by with_unfolding_all rfl) (by kernel_rfl) ?_ | with_reducible refine d370_2_LSort6 (by with_unfolding_all rfl) (by kernel_rfl) ?_ | with_reducible refine d370_3_LSort6 (by with_unfolding_all rfl) (by kernel_rfl) ?_ | with_reducible refine d370_4_LSort6 (by with_unfolding_all rfl) (by kernel_rfl) ?_ | with_reducible refine d370_5_LSort6 (by with_unfolding_all rfl) (by kernel_rfl) ?_ | with_reducible refine d370_6_LSort6 (by with_unfolding_all rfl) (by kernel_rfl) ?_ | with_reducible refine d370_7_LSort6 (by with_unfolding_all rfl) (by kernel_rfl) ?_ | with_reducible refine d370_8_LSort6 (by with_unfolding_all rfl) (by kernel_rfl) ?_ | refine call_c (c_lotBefore _ _ _ ?_) | fail) <;> try simp only [go_sem, hA, e13, hA2, f1u, gya, la, f1u, hd, gu, lu, kd, hw, dg, gu2, lu2, hsw, hgs] | fail)
              refine hQ [] _ _ (GC.now ?_) <;> simp only [Tryz.f370, go_sem, List.nodup_cons, List.nodup_nil, List.mem_cons, List.not_mem_nil, or_false, not_false_eq_true, List.idxOf?_cons, List.idxOf?_nil, Option.map_none, forall_eq]
              exact hk
            · have dg : decide (((u : Nat) : Int) < ((uu : Nat) : Int)) = false := decide_eq_false (fun q => hgt (Int.ofNat_lt.1 q))
              rw [if_neg hgt] at hpe
              rw [hpe] at hk
              have hle : uu ≤ u := Nat.le_of_not_gt hgt
              have hun2 : u < n := Nat.lt_of_le_of_lt hul hjn
              have huun : uu < n := Nat.lt_of_le_of_lt hle hun2
              have hu0 : 0 < u := Nat.lt_of_lt_of_le hi0 hle
              have gu2 := arr_get y0 (hys ▸ hun2)
              have gu1 := arr_get y0 (hys ▸ huun)
              have lu2 : (u : Int) < (n : Int) := Int.ofNat_lt.2 hun2
              have lu1 : (uu : Int) < (n : Int) := Int.ofNat_lt.2 huun
              have hsw := arr_swp y0 uu u
              have hgs := fun z => get_set_any y0 (i := uu) (j := u) (hys ▸ hun2) z
              have wu1 := pt_wi huun hn
              have wu2 := pt_wj hu0 hun2 hn
              have hys0 := hys
              (try simp only [go_sem, hA, e13, hA2, f1u, gya, la, f1u, hd, gu, lu, kd, hw, dg, gu1, gu2, lu1, lu2, hsw, hgs, wu1, wu2]); repeat' (first | (with_reducible first | refine c_split ?_ ?_ | refine w_split ?_ ?_ | refine tw_split ?_ ?_) <;> intro hb <;> try simp only [go_sem, hb, hA, e13, hA2, f1u, gya, la, f1u, hd, gu, lu, kd, hw, dg, gu1, gu2, lu1, lu2, hsw, hgs, wu1, wu2] | (first | with_reducible refine d370_0_LSort6 (by with_unfolding_all rfl) (by kernel_rfl) ?_ | with_reducible refine d370_1_LSort6 (by with_unfolding_all rfl) (by kernel_rfl) ?_ | with_reducible refine d370_2_LSort6 (by with_unfolding_all rfl) (by kernel_rfl) ?_ | with_reducible refine d370_3_LSort6 (by with_unfolding_all rfl) (by kernel_rfl) ?_ | with_reducible refine d370_4_LSort6 (by with_unfolding_all rfl) (by kernel_rfl) ?_ | with_reducible refine d370_5_LSort6 (by with_unfolding_all rfl) (by kernel_rfl) ?_ | with_reducible refine d370_6_LSort6 (by with_unfolding_all rfl) (by kernel_rfl) ?_ | with_reducible refine d370_7_LSort6 (by with_unfolding_all rfl) (by kernel_rfl) ?_ | with_reducible refine d370_8_LSort6 (by with_unfolding_all rfl) (by kernel_rfl) ?_ | refine call_c (c_lotBefore _ _ _ ?_) | fail) <;> try simp only [go_sem, hA, e13, hA2, f1u, gya, la, f1u, hd, gu, lu, kd, hw, dg, gu1, gu2, lu1, lu2, hsw, hgs, wu1, wu2] | fail)
              have hA3 := hA
              clear hJ
              refine while_at (α := Nat × Nat × Array Lot) (fun ⟨i, j, y⟩ => j + 1 - i) [0, 1, 4] (fun ⟨i, j, y⟩ f h => f 12 = (.one (.c (.int .i64 ((i : Int))))) ∧ f 13 = (.one (.c (.int .i64 ((j : Int))))) ∧ h = [.own g 112 5 cap (y.toList.map lotC)] ∧ 0 < i ∧ j < n ∧ y.size = n ∧ partLoop lotLt a (uu + 1) (u - 1) (swp y0 uu u) = partLoop lotLt a i j y) (uu + 1, u - 1, swp y0 uu u) (GC.now ?_) ?_
              · simp only [go_sem, nc_0, true_and, hA3, hA2, f1u]
                exact ⟨Nat.succ_pos _, Nat.lt_of_le_of_lt (Nat.sub_le _ _) hun2, by rw [swp_size]; exact hys0⟩
              · rintro ⟨i, j, y⟩ f h J hA ⟨e12, e13, rfl, hP⟩ hJ
                simp only [go_sem, hA3, hA2, f1u] at hA
                try dsimp only at hJ
                simp only [go_sem, hA, e12, e13, hA3, hA2, f1u]
                obtain ⟨hii, hjn, hys, hm⟩ := hP
                have gya := arr_get y (hys ▸ han)
                have hA1 := hA
                have hJ1 := hJ
                have f1 := e12
                have f2 := e13
                clear hJ
                refine while_at (α := Nat) (fun u => j + 1 - u) [0, 1, 4, 13] (fun u f h => f 12 = (.one (.c (.int .i64 ((u : Int))))) ∧ h = [.own g 112 5 cap (y.toList.map lotC)] ∧ i ≤ u ∧ scanUp (fun x => lotLt x y[a]!) y j i = scanUp (fun x => lotLt x y[a]!) y j u) i (GC.now ?_) ?_
                · simp only [go_sem, nc_0, true_and, hA1, f1, f2]
                · rintro u f h J hA ⟨e12, rfl, hP⟩ hJ
                  simp only [go_sem, hA1, f1, f2] at hA
                  try dsimp only at hJ
                  simp only [go_sem, hA, e12, hA1, f1, f2]
                  obtain ⟨hul, hsc⟩ := hP
                  by_cases hij : u ≤ j
                  · have hd : decide (((u : Nat) : Int) ≤ ((j : Nat) : Int)) = true := decide_eq_true (Int.ofNat_le.2 hij)
                    have hun : u < n := Nat.lt_of_le_of_lt hij hjn
                    have gu := arr_get y (hys ▸ hun)
                    have lu : (u : Int) < (n : Int) := Int.ofNat_lt.2 hun
                    have hw := pt_wi hun hn
                    cases hc : lotLt y[u]! y[a]! with
                    | true =>
                      have kd : decide (lotCmp y[u]! y[a]! < 0) = true := by rw [← lotCmp_lt]; exact hc
                      rw [su_go (i := u) hij (show ((fun x => lotLt x y[a]!)) y[u]! = true by simp [hc])] at hsc
                      (try simp only [go_sem, hA, e12, hA1, f1, f2, gya, la, hd, gu, lu, kd, hw]); repeat' (first | (with_reducible first | refine c_split ?_ ?_ | refine w_split ?_ ?_ | refine tw_split ?_ ?_) <;> intro hb <;> try simp only [go_sem, hb, hA, e12, hA1, f1, f2, gya, la, hd, gu, lu, kd, hw] | (first | with_reducible refine d370_0_LSort6 (by with_unfolding_all rfl) (by kernel_rfl) ?_ | with_reducible refine d370_1_LSort6 (by with_unfolding_all rfl) (by kernel_rfl) ?_ | with_reducible refine d370_2_LSort6 (by with_unfolding_all rfl) (by kernel_rfl) ?_ | with_reducible refine d370_3_LSort6 (by with_unfolding_all rfl) (by kernel_rfl) ?_ | with_reducible refine d370_4_LSort6 (by with_unfolding_all rfl) (by kernel_rfl) ?_ | with_reducible refine d370_5_LSort6 (by with_unfolding_all rfl) (by kernel_rfl) ?_ | with_reducible refine d370_6_LSort6 (by with_unfolding_all rfl) (by kernel_rfl) ?_ | with_reducible refine d370_7_LSort6 (by with_unfolding_all rfl) (by kernel_rfl) ?_ | with_reducible refine d370_8_LSort6 (by with_unfolding_all rfl) (by kernel_rfl) ?_ | refine call_c (c_lotBefore _ _ _ ?_) | fail) <;> try simp only [go_sem, hA, e12, hA1, f1, f2, gya, la, hd, gu, lu, kd, hw] | fail)
                      refine GC.now (hJ (u + 1) _ _ (by exact pt_m hij) (by simp only [go_sem, hA, e12, hA1, f1, f2]) ⟨?_, ?_, ?_⟩) <;> try simp only [go_sem, hA, e12, hA1, f1, f2, hw]
                      exact ⟨Nat.le_succ_of_le hul, hsc⟩
                    | false =>
                      have kd : decide (lotCmp y[u]! y[a]! < 0) = false := by rw [← lotCmp_lt]; exact hc
                      rw [su_stop (i := u) (.inr (show ((fun x => lotLt x y[a]!)) y[u]! = false by simp [hc]))] at hsc
                      (try simp only [go_sem, hA, e12, hA1, f1, f2, gya, la, hd, gu, lu, kd, hw]); repeat' (first | (with_reducible first | refine c_split ?_ ?_ | refine w_split ?_ ?_ | refine tw_split ?_ ?_) <;> intro hb <;> try simp only [go_sem, hb, hA, e12, hA1, f1, f2, gya, la, hd, gu, lu, kd, hw] | (first | with_reducible refine d370_0_LSort6 (by with_unfolding_all rfl) (by kernel_rfl) ?_ | with_reducible refine d370_1_LSort6 (by with_unfolding_all rfl) (by kernel_rfl) ?_ | with_reducible refine d370_2_LSort6 (by with_unfolding_all rfl) (by kernel_rfl) ?_ | with_reducible refine d370_3_LSort6 (by with_unfolding_all rfl) (by kernel_rfl) ?_ | with_reducible refine d370_4_LSort6 (by with_unfolding_all rfl) (by kernel_rfl) ?_ | with_reducible refine d370_5_LSort6 (by with_unfolding_all rfl) (by kernel_rfl) ?_ | with_reducible refine d370_6_LSort6 (by with_unfolding_all rfl) (by kernel_rfl) ?_ | with_reducible refine d370_7_LSort6 (by with_unfolding_all rfl) (by kernel_rfl) ?_ | with_reducible refine d370_8_LSort6 (by with_unfolding_all rfl) (by kernel_rfl) ?_ | refine call_c (c_lotBefore _ _ _ ?_) | fail) <;> try simp only [go_sem, hA, e12, hA1, f1, f2, gya, la, hd, gu, lu, kd, hw] | fail)
                      obtain ⟨uu, huu⟩ : ∃ q : Nat, q = u := ⟨_, rfl⟩
                      rw [← huu] at hul hsc
                      have hsu := hsc
                      have hulu := hul
                      have f1u := e12
                      rw [← huu] at f1u
                      have hA2 := hA
                      have hi0 : 0 < uu := Nat.lt_of_lt_of_le hii hulu
                      clear hJ
                      refine while_at (α := Nat) (fun u => u) [0, 1, 4, 12] (fun u f h => f 13 = (.one (.c (.int .i64 ((u : Int))))) ∧ h = [.own g 112 5 cap (y.toList.map lotC)] ∧ u ≤ j ∧ scanDown (fun x => !lotLt x y[a]!) y uu j = scanDown (fun x => !lotLt x y[a]!) y uu u) j (GC.now ?_) ?_
                      · simp only [go_sem, nc_0, true_and, hA2, f1u, f2]
                      · rintro u f h J hA ⟨e13, rfl, hP⟩ hJ
                        simp only [go_sem, hA2, f1u, f2] at hA
                        try dsimp only at hJ
                        simp only [go_sem, hA, e13, hA2, f1u, f2]
                        obtain ⟨hul, hsc⟩ := hP
                        by_cases hij : uu ≤ u
                        · have hd : decide (((uu : Nat) : Int) ≤ ((u : Nat) : Int)) = true := decide_eq_true (Int.ofNat_le.2 hij)
                          have hun : u < n := Nat.lt_of_le_of_lt hul hjn
                          have gu := arr_get y (hys ▸ hun)
                          have lu : (u : Int) < (n : Int) := Int.ofNat_lt.2 hun
                          have hu0 : 0 < u := Nat.lt_of_lt_of_le hi0 hij
                          have hw := pt_wj hu0 hun hn
                          cases hc : lotLt y[u]! y[a]! with
                          | true =>
                            have kd : decide (lotCmp y[u]! y[a]! < 0) = true := by rw [← lotCmp_lt]; exact hc
                            rw [sdn_stop (j := u) (.inr (show ((fun x => !lotLt x y[a]!)) y[u]! = false by simp [hc])) hi0] at hsc
                            have hpe := pt_eq hsu hsc
                            by_cases hgt : uu > u
                            · have dg : decide (((u : Nat) : Int) < ((uu : Nat) : Int)) = true := decide_eq_true (Int.ofNat_lt.2 hgt)
                              rw [if_pos hgt] at hpe
                              rw [hm, hpe] at hk
                              have hun2 : u < n := Nat.lt_of_le_of_lt hul hjn
                              have gu2 := arr_get y (hys ▸ hun2)
                              have lu2 : (u : Int) < (n : Int) := Int.ofNat_lt.2 hun2
                              have hsw := arr_swp y u a
                              have hgs := fun z => get_set_any y (i := u) (j := a) (hys ▸ han) z
                              (try simp only [go_sem, hA, e13, hA2, f1u, f2, gya, la, f1u, hd, gu, lu, kd, hw, dg, gu2, lu2, hsw, hgs]); repeat' (first | (with_reducible first | refine c_split ?_ ?_ | refine w_split ?_ ?_ | refine tw_split ?_ ?_) <;> intro hb <;> try simp only [go_sem, hb, hA, e13, hA2, f1u, f2, gya, la, f1u, hd, gu, lu, kd, hw, dg, gu2, lu2, hsw, hgs] | (first | with_reducible refine d370_0_LSort6 (by with_unfolding_all rfl) (by kernel_rfl) ?_ | with_reducible refine d370_1_LSort6 (by with_unfolding_all rfl) (by kernel_rfl) ?_ | with_reducible refine d370_2_LSort6 (by with_unfolding_all rfl) (by kernel_rfl) ?_ | with_reducible refine d370_3_LSort6 (by with_unfolding_all rfl) (by kernel_rfl) ?_ | with_reducible refine d370_4_LSort6 (by with_unfolding_all rfl) (by kernel_rfl) ?_ | with_reducible refine d370_5_LSort6 (by with_unfolding_all rfl) (by kernel_rfl) ?_ | with_reducible refine d370_6_LSort6 (by with_unfolding_all rfl) (by kernel_rfl) ?_ | with_reducible refine d370_7_LSort6 (by with_unfolding_all rfl) (by kernel_rfl) ?_ | with_reducible refine d370_8_LSort6 (by with_unfolding_all rfl) (by kernel_rfl) ?_ | refine call_c (c_lotBefore _ _ _ ?_) | fail) <;> try simp only [go_sem, hA, e13, hA2, f1u, f2, gya, la, f1u, hd, gu, lu, kd, hw, dg, gu2, lu2, hsw, hgs] | fail)
                              refine hQ [] _ _ (GC.now ?_) <;> simp only [Tryz.f370, go_sem, List.nodup_cons, List.nodup_nil, List.mem_cons, List.not_mem_nil, or_false, not_false_eq_true, List.idxOf?_cons, List.idxOf?_nil, Option.map_none, forall_eq]
                              exact hk
                            · have dg : decide (((u : Nat) : Int) < ((uu : Nat) : Int)) = false := decide_eq_false (fun q => hgt (Int.ofNat_lt.1 q))
                              rw [if_neg hgt] at hpe
                              rw [hpe] at hm
                              have hle : uu ≤ u := Nat.le_of_not_gt hgt
                              have hun2 : u < n := Nat.lt_of_le_of_lt hul hjn
                              have huun : uu < n := Nat.lt_of_le_of_lt hle hun2
                              have hu0 : 0 < u := Nat.lt_of_lt_of_le hi0 hle
                              have gu2 := arr_get y (hys ▸ hun2)
                              have gu1 := arr_get y (hys ▸ huun)
                              have lu2 : (u : Int) < (n : Int) := Int.ofNat_lt.2 hun2
                              have lu1 : (uu : Int) < (n : Int) := Int.ofNat_lt.2 huun
                              have hsw := arr_swp y uu u
                              have hgs := fun z => get_set_any y (i := uu) (j := u) (hys ▸ hun2) z
                              have wu1 := pt_wi huun hn
                              have wu2 := pt_wj hu0 hun2 hn
                              (try simp only [go_sem, hA, e13, hA2, f1u, f2, gya, la, f1u, hd, gu, lu, kd, hw, dg, gu1, gu2, lu1, lu2, hsw, hgs, wu1, wu2]); repeat' (first | (with_reducible first | refine c_split ?_ ?_ | refine w_split ?_ ?_ | refine tw_split ?_ ?_) <;> intro hb <;> try simp only [go_sem, hb, hA, e13, hA2, f1u, f2, gya, la, f1u, hd, gu, lu, kd, hw, dg, gu1, gu2, lu1, lu2, hsw, hgs, wu1, wu2] | (first | with_reducible refine d370_0_LSort6 (by with_unfolding_all rfl) (by kernel_rfl) ?_ | with_reducible refine d370_1_LSort6 (by with_unfolding_all rfl) (by kernel_rfl) ?_ | with_reducible refine d370_2_LSort6 (by with_unfolding_all rfl) (by kernel_rfl) ?_ | with_reducible refine d370_3_LSort6 (by with_unfolding_all rfl) (by kernel_rfl) ?_ | with_reducible refine d370_4_LSort6 (by with_unfolding_all rfl) (by kernel_rfl) ?_ | with_reducible refine d370_5_LSort6 (by with_unfolding_all rfl) (by kernel_rfl) ?_ | with_reducible refine d370_6_LSort6 (by with_unfolding_all rfl) (by kernel_rfl) ?_ | with_reducible refine d370_7_LSort6 (by with_unfolding_all rfl) (by kernel_rfl) ?_ | with_reducible refine d370_8_LSort6 (by with_unfolding_all rfl) (by kernel_rfl) ?_ | refine call_c (c_lotBefore _ _ _ ?_) | fail) <;> try simp only [go_sem, hA, e13, hA2, f1u, f2, gya, la, f1u, hd, gu, lu, kd, hw, dg, gu1, gu2, lu1, lu2, hsw, hgs, wu1, wu2] | fail)
                              refine GC.now (hJ1 (uu + 1, u - 1, swp y uu u) _ _ (pt_dec hulu hul hgt) (by simp only [go_sem, hA, e13, hA2, f1u, f2, hA3]) ⟨?_, ?_, ?_, ?_⟩) <;> try simp only [go_sem, hA, e13, hA2, f1u, f2, wu1, wu2, hsw]
                              exact ⟨Nat.succ_pos _, Nat.lt_of_le_of_lt (Nat.sub_le _ _) hun2, by rw [swp_size]; exact hys, hm⟩
                          | false =>
                            have kd : decide (lotCmp y[u]! y[a]! < 0) = false := by rw [← lotCmp_lt]; exact hc
                            rw [sdn_go (j := u) hu0 hij (show ((fun x => !lotLt x y[a]!)) y[u]! = true by simp [hc])] at hsc
                            (try simp only [go_sem, hA, e13, hA2, f1u, f2, gya, la, f1u, hd, gu, lu, kd, hw]); repeat' (first | (with_reducible first | refine c_split ?_ ?_ | refine w_split ?_ ?_ | refine tw_split ?_ ?_) <;> intro hb <;> try simp only [go_sem, hb, hA, e13, hA2, f1u, f2, gya, la, f1u, hd, gu, lu, kd, hw] | (first | with_reducible refine d370_0_LSort6 (by with_unfolding_all rfl) (by kernel_rfl) ?_ | with_reducible refine d370_1_LSort6 (by with_unfolding_all rfl) (by kernel_rfl) ?_ | with_reducible refine d370_2_LSort6 (by with_unfolding_all rfl) (by kernel_rfl) ?_ | with_reducible refine d370_3_LSort6 (by with_unfolding_all rfl) (by kernel_rfl) ?_ | with_reducible refine d370_4_LSort6 (by with_unfolding_all rfl) (by kernel_rfl) ?_ | with_reducible refine d370_5_LSort6 (by with_unfolding_all rfl) (by kernel_rfl) ?_ | with_reducible refine d370_6_LSort6 (by with_unfolding_all rfl) (by kernel_rfl) ?_ | with_reducible refine d370_7_LSort6 (by with_unfolding_all rfl) (by kernel_rfl) ?_ | with_reducible refine d370_8_LSort6 (by with_unfolding_all rfl) (by kernel_rfl) ?_ | refine call_c (c_lotBefore _ _ _ ?_) | fail) <;> try simp only [go_sem, hA, e13, hA2, f1u, f2, gya, la, f1u, hd, gu, lu, kd, hw] | fail)
                            refine GC.now (hJ (u - 1) _ _ (by exact Nat.sub_lt hu0 Nat.zero_lt_one) (by simp only [go_sem, hA, e13, hA2, f1u, f2]) ⟨?_, ?_, ?_⟩) <;> try simp only [go_sem, hA, e13, hA2, f1u, f2, hw]
                            exact ⟨Nat.le_trans (Nat.sub_le _ _) hul, hsc⟩
                        · have hd : decide (((uu : Nat) : Int) ≤ ((u : Nat) : Int)) = false := decide_eq_false (fun q => hij (Int.ofNat_le.1 q))
                          rw [sdn_stop (j := u) (.inl hij) hi0] at hsc
                          have hpe := pt_eq hsu hsc
                          by_cases hgt : uu > u
                          · have dg : decide (((u : Nat) : Int) < ((uu : Nat) : Int)) = true := decide_eq_true (Int.ofNat_lt.2 hgt)
                            rw [if_pos hgt] at hpe
                            rw [hm, hpe] at hk
                            have hun2 : u < n := Nat.lt_of_le_of_lt hul hjn
                            have gu2 := arr_get y (hys ▸ hun2)
                            have lu2 : (u : Int) < (n : Int) := Int.ofNat_lt.2 hun2
                            have hsw := arr_swp y u a
                            have hgs := fun z => get_set_any y (i := u) (j := a) (hys ▸ han) z
                            (try simp only [go_sem, hA, e13, hA2, f1u, f2, gya, la, f1u, hd, dg, gu2, lu2, hsw, hgs]); repeat' (first | (with_reducible first | refine c_split ?_ ?_ | refine w_split ?_ ?_ | refine tw_split ?_ ?_) <;> intro hb <;> try simp only [go_sem, hb, hA, e13, hA2, f1u, f2, gya, la, f1u, hd, dg, gu2, lu2, hsw, hgs] | (first | with_reducible refine d370_0_LSort6 (by with_unfolding_all rfl) (by kernel_rfl) ?_ | with_reducible refine d370_1_LSort6 (by with_unfolding_all rfl) (by kernel_rfl) ?_ | with_reducible refine d370_2_LSort6 (by with_unfolding_all rfl) (by kernel_rfl) ?_ | with_reducible refine d370_3_LSort6 (by with_unfolding_all rfl) (by kernel_rfl) ?_ | with_reducible refine d370_4_LSort6 (by with_unfolding_all rfl) (by kernel_rfl) ?_ | with_reducible refine d370_5_LSort6 (by with_unfolding_all rfl) (by kernel_rfl) ?_ | with_reducible refine d370_6_LSort6 (by with_unfolding_all rfl) (by kernel_rfl) ?_ | with_reducible refine d370_7_LSort6 (by with_unfolding_all rfl) (by kernel_rfl) ?_ | with_reducible refine d370_8_LSort6 (by with_unfolding_all rfl) (by kernel_rfl) ?_ | fail) <;> try simp only [go_sem, hA, e13, hA2, f1u, f2, gya, la, f1u, hd, dg, gu2, lu2, hsw, hgs] | fail)
                            refine hQ [] _ _ (GC.now ?_) <;> simp only [Tryz.f370, go_sem, List.nodup_cons, List.nodup_nil, List.mem_cons, List.not_mem_nil, or_false, not_false_eq_true, List.idxOf?_cons, List.idxOf?_nil, Option.map_none, forall_eq]
                            exact hk
                          · have dg : decide (((u : Nat) : Int) < ((uu : Nat) : Int)) = false := decide_eq_false (fun q => hgt (Int.ofNat_lt.1 q))
                            rw [if_neg hgt] at hpe
                            rw [hpe] at hm
                            have hle : uu ≤ u := Nat.le_of_not_gt hgt
                            have hun2 : u < n := Nat.lt_of_le_of_lt hul hjn
                            have huun : uu < n := Nat.lt_of_le_of_lt hle hun2
                            have hu0 : 0 < u := Nat.lt_of_lt_of_le hi0 hle
                            have gu2 := arr_get y (hys ▸ hun2)
                            have gu1 := arr_get y (hys ▸ huun)
                            have lu2 : (u : Int) < (n : Int) := Int.ofNat_lt.2 hun2
                            have lu1 : (uu : Int) < (n : Int) := Int.ofNat_lt.2 huun
                            have hsw := arr_swp y uu u
                            have hgs := fun z => get_set_any y (i := uu) (j := u) (hys ▸ hun2) z
                            have wu1 := pt_wi huun hn
                            have wu2 := pt_wj hu0 hun2 hn
                            (try simp only [go_sem, hA, e13, hA2, f1u, f2, gya, la, f1u, hd, dg, gu1, gu2, lu1, lu2, hsw, hgs, wu1, wu2]); repeat' (first | (with_reducible first | refine c_split ?_ ?_ | refine w_split ?_ ?_ | refine tw_split ?_ ?_) <;> intro hb <;> try simp only [go_sem, hb, hA, e13, hA2, f1u, f2, gya, la, f1u, hd, dg, gu1, gu2, lu1, lu2, hsw, hgs, wu1, wu2] | (first | with_reducible refine d370_0_LSort6 (by with_unfolding_all rfl) (by kernel_rfl) ?_ | with_reducible refine d370_1_LSort6 (by with_unfolding_all rfl) (by kernel_rfl) ?_ | with_reducible refine d370_2_LSort6 (by with_unfolding_all rfl) (by kernel_rfl) ?_ | with_reducible refine d370_3_LSort6 (by with_unfolding_all rfl) (by kernel_rfl) ?_ | with_reducible refine d370_4_LSort6 (by with_unfolding_all rfl) (by kernel_rfl) ?_ | with_reducible refine d370_5_LSort6 (by with_unfolding_all rfl) (by kernel_rfl) ?_ | with_reducible refine d370_6_LSort6 (by with_unfolding_all rfl) (by kernel_rfl) ?_ | with_reducible refine d370_7_LSort6 (by with_unfolding_all rfl) (by kernel_rfl) ?_ | with_reducible refine d370_8_LSort6 (by with_unfolding_all rfl) (by kernel_rfl) ?_ | fail) <;> try simp only [go_sem, hA, e13, hA2, f1u, f2, gya, la, f1u, hd, dg, gu1, gu2, lu1, lu2, hsw, hgs, wu1, wu2] | fail)
                            refine GC.now (hJ1 (uu + 1, u - 1, swp y uu u) _ _ (pt_dec hulu hul hgt) (by simp only [go_sem, hA, e13, hA2, f1u, f2, hA3]) ⟨?_, ?_, ?_, ?_⟩) <;> try simp only [go_sem, hA, e13, hA2, f1u, f2, wu1, wu2, hsw]
                            exact ⟨Nat.succ_pos _, Nat.lt_of_le_of_lt (Nat.sub_le _ _) hun2, by rw [swp_size]; exact hys, hm⟩
                  · have hd : decide (((u : Nat) : Int) ≤ ((j : Nat) : Int)) = false := decide_eq_false (fun q => hij (Int.ofNat_le.1 q))
                    rw [su_stop (i := u) (.inl hij)] at hsc
                    (try simp only [go_sem, hA, e12, hA1, f1, f2, gya, la, hd]); repeat' (first | (with_reducible first | refine c_split ?_ ?_ | refine w_split ?_ ?_ | refine tw_split ?_ ?_) <;> intro hb <;> try simp only [go_sem, hb, hA, e12, hA1, f1, f2, gya, la, hd] | (first | with_reducible refine d370_0_LSort6 (by with_unfolding_all rfl) (by kernel_rfl) ?_ | with_reducible refine d370_1_LSort6 (by with_unfolding_all rfl) (by kernel_rfl) ?_ | with_reducible refine d370_2_LSort6 (by with_unfolding_all rfl) (by kernel_rfl) ?_ | with_reducible refine d370_3_LSort6 (by with_unfolding_all rfl) (by kernel_rfl) ?_ | with_reducible refine d370_4_LSort6 (by with_unfolding_all rfl) (by kernel_rfl) ?_ | with_reducible refine d370_5_LSort6 (by with_unfolding_all rfl) (by kernel_rfl) ?_ | with_reducible refine d370_6_LSort6 (by with_unfolding_all rfl) (by kernel_rfl) ?_ | with_reducible refine d370_7_LSort6 (by with_unfolding_all rfl) (by kernel_rfl) ?_ | with_reducible refine d370_8_LSort6 (by with_unfolding_all rfl) (by kernel_rfl) ?_ | fail) <;> try simp only [go_sem, hA, e12, hA1, f1, f2, gya, la, hd] | fail)
                    obtain ⟨uu, huu⟩ : ∃ q : Nat, q = u := ⟨_, rfl⟩
                    rw [← huu] at hul hsc
                    have hsu := hsc
                    have hulu := hul
                    have f1u := e12
                    rw [← huu] at f1u
                    have hA2 := hA
                    have hi0 : 0 < uu := Nat.lt_of_lt_of_le hii hulu
                    clear hJ
                    refine while_at (α := Nat) (fun u => u) [0, 1, 4, 12] (fun u f h => f 13 = (.one (.c (.int .i64 ((u : Int))))) ∧ h = [.own g 112 5 cap (y.toList.map lotC)] ∧ u ≤ j ∧ scanDown (fun x => !lotLt x y[a]!) y uu j = scanDown (fun x => !lotLt x y[a]!) y uu u) j (GC.now ?_) ?_
                    · simp only [go_sem, nc_0, true_and, hA2, f1u, f2]
                    · rintro u f h J hA ⟨e13, rfl, hP⟩ hJ
                      simp only [go_sem, hA2, f1u, f2] at hA
                      try dsimp only at hJ
                      simp only [go_sem, hA, e13, hA2, f1u, f2]
                      obtain ⟨hul, hsc⟩ := hP
                      by_cases hij : uu ≤ u
                      · have hd : decide (((uu : Nat) : Int) ≤ ((u : Nat) : Int)) = true := decide_eq_true (Int.ofNat_le.2 hij)
                        have hun : u < n := Nat.lt_of_le_of_lt hul hjn
                        have gu := arr_get y (hys ▸ hun)
                        have lu : (u : Int) < (n : Int) := Int.ofNat_lt.2 hun
                        have hu0 : 0 < u := Nat.lt_of_lt_of_le hi0 hij
                        have hw := pt_wj hu0 hun hn
                        cases hc : lotLt y[u]! y[a]! with
                        | true =>
                          have kd : decide (lotCmp y[u]! y[a]! < 0) = true := by rw [← lotCmp_lt]; exact hc
                          rw [sdn_stop (j := u) (.inr (show ((fun x => !lotLt x y[a]!)) y[u]! = false by simp [hc])) hi0] at hsc
                          have hpe := pt_eq hsu hsc
                          by_cases hgt : uu > u
                          · have dg : decide (((u : Nat) : Int) < ((uu : Nat) : Int)) = true := decide_eq_true (Int.ofNat_lt.2 hgt)
                            rw [if_pos hgt] at hpe
                            rw [hm, hpe] at hk
                            have hun2 : u < n := Nat.lt_of_le_of_lt hul hjn
                            have gu2 := arr_get y (hys ▸ hun2)
                            have lu2 : (u : Int) < (n : Int) := Int.ofNat_lt.2 hun2
                            have hsw := arr_swp y u a
                            have hgs := fun z => get_set_any y (i := u) (j := a) (hys ▸ han) z
                            (try simp only [go_sem, hA, e13, hA2, f1u, f2, gya, la, f1u, hd, gu, lu, kd, hw, dg, gu2, lu2, hsw, hgs]); repeat' (first | (with_reducible first | refine c_split ?_ ?_ | refine w_split ?_ ?_ | refine tw_split ?_ ?_) <;> intro hb <;> try simp only [go_sem, hb, hA, e13, hA2, f1u, f2, gya, la, f1u, hd, gu, lu, kd, hw, dg, gu2, lu2, hsw, hgs] | (first | with_reducible refine d370_0_LSort6 (by with_unfolding_all rfl) (by kernel_rfl) ?_ | with_reducible refine d370_1_LSort6 (by with_unfolding_all rfl) (by kernel_rfl) ?_ | with_reducible refine d370_2_LSort6 (by with_unfolding_all rfl) (by kernel_rfl) ?_ | with_reducible refine d370_3_LSort6 (by with_unfolding_all rfl) (by kernel_rfl) ?_ | with_reducible refine d370_4_LSort6 (by with_unfolding_all rfl) (by kernel_rfl) ?_ | with_reducible refine d370_5_LSort6 (by with_unfolding_all rfl) (by kernel_rfl) ?_ | with_reducible refine d370_6_LSort6 (by with_unfolding_all rfl) (by kernel_rfl) ?_ | with_reducible refine d370_7_LSort6 (by with_unfolding_all rfl) (by kernel_rfl) ?_ | with_reducible refine d370_8_LSort6 (by with_unfolding_all rfl) (by kernel_rfl) ?_ | refine call_c (c_lotBefore _ _ _ ?_) | fail) <;> try simp only [go_sem, hA, e13, hA2, f1u, f2, gya, la, f1u, hd, gu, lu, kd, hw, dg, gu2, lu2, hsw, hgs] | fail)
                            refine hQ [] _ _ (GC.now ?_) <;> simp only [Tryz.f370, go_sem, List.nodup_cons, List.nodup_nil, List.mem_cons, List.not_mem_nil, or_false, not_false_eq_true, List.idxOf?_cons, List.idxOf?_nil, Option.map_none, forall_eq]
                            exact hk
                          · have dg : decide (((u : Nat) : Int) < ((uu : Nat) : Int)) = false := decide_eq_false (fun q => hgt (Int.ofNat_lt.1 q))
                            rw [if_neg hgt] at hpe
                            rw [hpe] at hm
                            have hle : uu ≤ u := Nat.le_of_not_gt hgt
                            have hun2 : u < n := Nat.lt_of_le_of_lt hul hjn
                            have huun : uu < n := Nat.lt_of_le_of_lt hle hun2
                            have hu0 : 0 < u := Nat.lt_of_lt_of_le hi0 hle
                            have gu2 := arr_get y (hys ▸ hun2)
                            have gu1 := arr_get y (hys ▸ huun)
                            have lu2 : (u : Int) < (n : Int) := Int.ofNat_lt.2 hun2
                            have lu1 : (uu : Int) < (n : Int) := Int.ofNat_lt.2 huun
                            have hsw := arr_swp y uu u
                            have hgs := fun z => get_set_any y (i := uu) (j := u) (hys ▸ hun2) z
                            have wu1 := pt_wi huun hn
                            have wu2 := pt_wj hu0 hun2 hn
                            (try simp only [go_sem, hA, e13, hA2, f1u, f2, gya, la, f1u, hd, gu, lu, kd, hw, dg, gu1, gu2, lu1, lu2, hsw, hgs, wu1, wu2]); repeat' (first | (with_reducible first | refine c_split ?_ ?_ | refine w_split ?_ ?_ | refine tw_split ?_ ?_) <;> intro hb <;> try simp only [go_sem, hb, hA, e13, hA2, f1u, f2, gya, la, f1u, hd, gu, lu, kd, hw, dg, gu1, gu2, lu1, lu2, hsw, hgs, wu1, wu2] | (first | with_reducible refine d370_0_LSort6 (by with_unfolding_all rfl) (by kernel_rfl) ?_ | with_reducible refine d370_1_LSort6 (by with_unfolding_all rfl) (by kernel_rfl) ?_ | with_reducible refine d370_2_LSort6 (by with_unfolding_all rfl) (by kernel_rfl) ?_ | with_reducible refine d370_3_LSort6 (by with_unfolding_all rfl) (by kernel_rfl) ?_ | with_reducible refine d370_4_LSort6 (by with_unfolding_all rfl) (by kernel_rfl) ?_ | with_reducible refine d370_5_LSort6 (by with_unfolding_all rfl) (by kernel_rfl) ?_ | with_reducible refine d370_6_LSort6 (by with_unfolding_all rfl) (by kernel_rfl) ?_ | with_reducible refine d370_7_LSort6 (by with_unfolding_all rfl) (by kernel_rfl) ?_ | with_reducible refine d370_8_LSort6 (by with_unfolding_all rfl) (by kernel_rfl) ?_ | refine call_c (c_lotBefore _ _ _ ?_) | fail) <;> try simp only [go_sem, hA, e13, hA2, f1u, f2, gya, la, f1u, hd, gu, lu, kd, hw, dg, gu1, gu2, lu1, lu2, hsw, hgs, wu1, wu2] | fail)
                            refine GC.now (hJ1 (uu + 1, u - 1, swp y uu u) _ _ (pt_dec hulu hul hgt) (by simp only [go_sem, hA, e13, hA2, f1u, f2, hA3]) ⟨?_, ?_, ?_, ?_⟩) <;> try simp only [go_sem, hA, e13, hA2, f1u, f2, wu1, wu2, hsw]
                            exact ⟨Nat.succ_pos _, Nat.lt_of_le_of_lt (Nat.sub_le _ _) hun2, by rw [swp_size]; exact hys, hm⟩
                        | false =>
                          have kd : decide (lotCmp y[u]! y[a]! < 0) = false := by rw [← lotCmp_lt]; exact hc
                          rw [sdn_go (j := u) hu0 hij (show ((fun x => !lotLt x y[a]!)) y[u]! = true by simp [hc])] at hsc
                          (try simp only [go_sem, hA, e13, hA2, f1u, f2, gya, la, f1u, hd, gu, lu, kd, hw]); repeat' (first | (with_reducible first | refine c_split ?_ ?_ | refine w_split ?_ ?_ | refine tw_split ?_ ?_) <;> intro hb <;> try simp only [go_sem, hb, hA, e13, hA2, f1u, f2, gya, la, f1u, hd, gu, lu, kd, hw] | (first | with_reducible refine d370_0_LSort6 (by with_unfolding_all rfl) (by kernel_rfl) ?_ | with_reducible refine d370_1_LSort6 (by with_unfolding_all rfl) (by kernel_rfl) ?_ | with_reducible refine d370_2_LSort6 (by with_unfolding_all rfl) (by kernel_rfl) ?_ | with_reducible refine d370_3_LSort6 (by with_unfolding_all rfl) (by kernel_rfl) ?_ | with_reducible refine d370_4_LSort6 (by with_unfolding_all rfl) (by kernel_rfl) ?_ | with_reducible refine d370_5_LSort6 (by with_unfolding_all rfl) (by kernel_rfl) ?_ | with_reducible refine d370_6_LSort6 (by with_unfolding_all rfl) (by kernel_rfl) ?_ | with_reducible refine d370_7_LSort6 (by with_unfolding_all rfl) (by kernel_rfl) ?_ | with_reducible refine d370_8_LSort6 (by with_unfolding_all rfl) (by kernel_rfl) ?_ | refine call_c (c_lotBefore _ _ _ ?_) | fail) <;> try simp only [go_sem, hA, e13, hA2, f1u, f2, gya, la, f1u, hd, gu, lu, kd, hw] | fail)
                          refine GC.now (hJ (u - 1) _ _ (by exact Nat.sub_lt hu0 Nat.zero_lt_one) (by simp only [go_sem, hA, e13, hA2, f1u, f2]) ⟨?_, ?_, ?_⟩) <;> try simp only [go_sem, hA, e13, hA2, f1u, f2, hw]
                          exact ⟨Nat.le_trans (Nat.sub_le _ _) hul, hsc⟩
                      · have hd : decide (((uu : Nat) : Int) ≤ ((u : Nat) : Int)) = false := decide_eq_false (fun q => hij (Int.ofNat_le.1 q))
                        rw [sdn_stop (j := u) (.inl hij) hi0] at hsc
                        have hpe := pt_eq hsu hsc
                        by_cases hgt : uu > u
                        · have dg : decide (((u : Nat) : Int) < ((uu : Nat) : Int)) = true := decide_eq_true (Int.ofNat_lt.2 hgt)
                          rw [if_pos hgt] at hpe
                          rw [hm, hpe] at hk
                          have hun2 : u < n := Nat.lt_of_le_of_lt hul hjn
                          have gu2 := arr_get y (hys ▸ hun2)
                          have lu2 : (u : Int) < (n : Int) := Int.ofNat_lt.2 hun2
                          have hsw := arr_swp y u a
                          have hgs := fun z => get_set_any y (i := u) (j := a) (hys ▸ han) z
                          (try simp only [go_sem, hA, e13, hA2, f1u, f2, gya, la, f1u, hd, dg, gu2, lu2, hsw, hgs]); repeat' (first | (with_reducible first | refine c_split ?_ ?_ | refine w_split ?_ ?_ | refine tw_split ?_ ?_) <;> intro hb <;> try simp only [go_sem, hb, hA, e13, hA2, f1u, f2, gya, la, f1u, hd, dg, gu2, lu2, hsw, hgs] | (first | with_reducible refine d370_0_LSort6 (by with_unfolding_all rfl) (by kernel_rfl) ?_ | with_reducible refine d370_1_LSort6 (by with_unfolding_all rfl) (by kernel_rfl) ?_ | with_reducible refine d370_2_LSort6 (by with_unfolding_all rfl) (by kernel_rfl) ?_ | with_reducible refine d370_3_LSort6 (by with_unfolding_all rfl) (by kernel_rfl) ?_ | with_reducible refine d370_4_LSort6 (by with_unfolding_all rfl) (by kernel_rfl) ?_ | with_reducible refine d370_5_LSort6 (by with_unfolding_all rfl) (by kernel_rfl) ?_ | with_reducible refine d370_6_LSort6 (by with_unfolding_all rfl) (by kernel_rfl) ?_ | with_reducible refine d370_7_LSort6 (by with_unfolding_all rfl) (by kernel_rfl) ?_ | with_reducible refine d370_8_LSort6 (by with_unfolding_all rfl) (by kernel_rfl) ?_ | fail) <;> try simp only [go_sem, hA, e13, hA2, f1u, f2, gya, la, f1u, hd, dg, gu2, lu2, hsw, hgs] | fail)
                          refine hQ [] _ _ (GC.now ?_) <;> simp only [Tryz.f370, go_sem, List.nodup_cons, List.nodup_nil, List.mem_cons, List.not_mem_nil, or_false, not_false_eq_true, List.idxOf?_cons, List.idxOf?_nil, Option.map_none, forall_eq]
                          exact hk
                        · have dg : decide (((u : Nat) : Int) < ((uu : Nat) : Int)) = false := decide_eq_false (fun q => hgt (Int.ofNat_lt.1 q))
                          rw [if_neg hgt] at hpe
                          rw [hpe] at hm
                          have hle : uu ≤ u := Nat.le_of_not_gt hgt
                          have hun2 : u < n := Nat.lt_of_le_of_lt hul hjn
                          have huun : uu < n := Nat.lt_of_le_of_lt hle hun2
                          have hu0 : 0 < u := Nat.lt_of_lt_of_le hi0 hle
                          have gu2 := arr_get y (hys ▸ hun2)
                          have gu1 := arr_get y (hys ▸ huun)
                          have lu2 : (u : Int) < (n : Int) := Int.ofNat_lt.2 hun2
                          have lu1 : (uu : Int) < (n : Int) := Int.ofNat_lt.2 huun
                          have hsw := arr_swp y uu u
                          have hgs := fun z => get_set_any y (i := uu) (j := u) (hys ▸ hun2) z
                          have wu1 := pt_wi huun hn
                          have wu2 := pt_wj hu0 hun2 hn
                          (try simp only [go_sem, hA, e13, hA2, f1u, f2, gya, la, f1u, hd, dg, gu1, gu2, lu1, lu2, hsw, hgs, wu1, wu2]); repeat' (first | (with_reducible first | refine c_split ?_ ?_ | refine w_split ?_ ?_ | refine tw_split ?_ ?_) <;> intro hb <;> try simp only [go_sem, hb, hA, e13, hA2, f1u, f2, gya, la, f1u, hd, dg, gu1, gu2, lu1, lu2, hsw, hgs, wu1, wu2] | (first | with_reducible refine d370_0_LSort6 (by with_unfolding_all rfl) (by kernel_rfl) ?_ | with_reducible refine d370_1_LSort6 (by with_unfolding_all rfl) (by kernel_rfl) ?_ | with_reducible refine d370_2_LSort6 (by with_unfolding_all rfl) (by kernel_rfl) ?_ | with_reducible refine d370_3_LSort6 (by with_unfolding_all rfl) (by kernel_rfl) ?_ | with_reducible refine d370_4_LSort6 (by with_unfolding_all rfl) (by kernel_rfl) ?_ | with_reducible refine d370_5_LSort6 (by with_unfolding_all rfl) (by kernel_rfl) ?_ | with_reducible refine d370_6_LSort6 (by with_unfolding_all rfl) (by kernel_rfl) ?_ | with_reducible refine d370_7_LSort6 (by with_unfolding_all rfl) (by kernel_rfl) ?_ | with_reducible refine d370_8_LSort6 (by with_unfolding_all rfl) (by kernel_rfl) ?_ | fail) <;> try simp only [go_sem, hA, e13, hA2, f1u, f2, gya, la, f1u, hd, dg, gu1, gu2, lu1, lu2, hsw, hgs, wu1, wu2] | fail)
                          refine GC.now (hJ1 (uu + 1, u - 1, swp y uu u) _ _ (pt_dec hulu hul hgt) (by simp only [go_sem, hA, e13, hA2, f1u, f2, hA3]) ⟨?_, ?_, ?_, ?_⟩) <;> try simp only [go_sem, hA, e13, hA2, f1u, f2, wu1, wu2, hsw]
                          exact ⟨Nat.succ_pos _, Nat.lt_of_le_of_lt (Nat.sub_le _ _) hun2, by rw [swp_size]; exact hys, hm⟩
          | false =>
            have kd : decide (lotCmp y0[u]! y0[a]! < 0) = false := by rw [← lotCmp_lt]; exact hc
            rw [sdn_go (j := u) hu0 hij (show ((fun x => !lotLt x y0[a]!)) y0[u]! = true by simp [hc])] at hsc
            (try simp only [go_sem, hA, e13, hA2, f1u, gya, la, f1u, hd, gu, lu, kd, hw]); repeat' (first | (with_reducible first | refine c_split ?_ ?_ | refine w_split ?_ ?_ | refine tw_split ?_ ?_) <;> intro hb <;> try simp only [go_sem, hb, hA, e13, hA2, f1u, gya, la, f1u, hd, gu, lu, kd, hw] | (first | with_reducible refine d370_0_LSort6 (by with_unfolding_all rfl) (by kernel_rfl) ?_ | with_reducible refine d370_1_LSort6 (by with_unfolding_all rfl) (by kernel_rfl) ?_ | with_reducible refine d370_2_LSort6 (by with_unfolding_all rfl) (by kernel_rfl) ?_ | with_reducible refine d370_3_LSort6 (by with_unfolding_all rfl) (by kernel_rfl) ?_ | with_reducible refine d370_4_LSort6 (by with_unfolding_all rfl) (by kernel_rfl) ?_ | with_reducible refine d370_5_LSort6 (by with_unfolding_all rfl) (by kernel_rfl) ?_ | with_reducible refine d370_6_LSort6 (by with_unfolding_all rfl) (by kernel_rfl) ?_ | with_reducible refine d370_7_LSort6 (by with_unfolding_all rfl) (by kernel_rfl) ?_ | with_reducible refine d370_8_LSort6 (by with_unfolding_all rfl) (by kernel_rfl) ?_ | refine call_c (c_lotBefore _ _ _ ?_) | fail) <;> try simp only [go_sem, hA, e13, hA2, f1u, gya, la, f1u, hd, gu, lu, kd, hw] | fail)
            refine GC.now (hJ (u - 1) _ _ (by exact Nat.sub_lt hu0 Nat.zero_lt_one) (by simp only [go_sem, hA, e13, hA2, f1u]) ⟨?_, ?_, ?_⟩) <;> try simp only [go_sem, hA, e13, hA2, f1u, hw]
            exact ⟨Nat.le_trans (Nat.sub_le _ _) hul, hsc⟩
        · have hd : decide (((uu : Nat) : Int) ≤ ((u : Nat) : Int)) = false := decide_eq_false (fun q => hij (Int.ofNat_le.1 q))
          rw [sdn_stop (j := u) (.inl hij) hi0] at hsc
          have hpe := htop _ _ hsu hsc
          by_cases hgt : uu > u
          · have dg : decide (((u : Nat) : Int) < ((uu : Nat) : Int)) = true := decide_eq_true (Int.ofNat_lt.2 hgt)
            rw [if_pos hgt] at hpe
            rw [hpe] at hk
            have hun2 : u < n := Nat.lt_of_le_of_lt hul hjn
            have gu2 := arr_get y0 (hys ▸ hun2)
            have lu2 : (u : Int) < (n : Int) := Int.ofNat_lt.2 hun2
            have hsw := arr_swp y0 u a
            have hgs := fun z => get_set_any y0 (i := u) (j := a) (hys ▸ han) z
            (try simp only [go_sem, hA, e13, hA2, f1u, gya, la, f1u, hd, dg, gu2, lu2, hsw, hgs]); repeat' (first | (with_reducible first | refine c_split ?_ ?_ | refine w_split ?_ ?_ | refine tw_split ?_ ?_) <;> intro hb <;> try simp only [go_sem, hb, hA, e13, hA2, f1u, gya, la, f1u, hd, dg, gu2, lu2, hsw, hgs] | (first | with_reducible refine d370_0_LSort6 (by with_unfolding_all rfl) (by kernel_rfl) ?_ | with_reducible refine d370_1_LSort6 (by with_unfolding_all rfl) (by kernel_rfl) ?_ | with_reducible refine d370_2_LSort6 (by with_unfolding_all rfl) (by kernel_rfl) ?_ | with_reducible refine d370_3_LSort6 (by with_unfolding_all rfl) (by kernel_rfl) ?_ | with_reducible refine d370_4_LSort6 (by with_unfolding_all rfl) (by kernel_rfl) ?_ | with_reducible refine d370_5_LSort6 (by with_unfolding_all rfl) (by kernel_rfl) ?_ | with_reducible refine d370_6_LSort6 (by with_unfolding_all rfl) (by kernel_rfl) ?_ | with_reducible refine d370_7_LSort6 (by with_unfolding_all rfl) (by kernel_rfl) ?_ | with_reducible refine d370_8_LSort6 (by with_unfolding_all rfl) (by kernel_rfl) ?_ | fail) <;> try simp only [go_sem, hA, e13, hA2, f1u, gya, la, f1u, hd, dg, gu2, lu2, hsw, hgs] | fail)
            refine hQ [] _ _ (GC.now ?_) <;> simp only [Tryz.f370, go_sem, List.nodup_cons, List.nodup_nil, List.mem_cons, List.not_mem_nil, or_false, not_false_eq_true, List.idxOf?_cons, List.idxOf?_nil, Option.map_none, forall_eq]
            exact hk
          · have dg : decide (((u : Nat) : Int) < ((uu : Nat) : Int)) = false := decide_eq_false (fun q => hgt (Int.ofNat_lt.1 q))
            rw [if_neg hgt] at hpe
            rw [hpe] at hk
            have hle : uu ≤ u := Nat.le_of_not_gt hgt
            have hun2 : u < n := Nat.lt_of_le_of_lt hul hjn
            have huun : uu < n := Nat.lt_of_le_of_lt hle hun2
            have hu0 : 0 < u := Nat.lt_of_lt_of_le hi0 hle
            have gu2 := arr_get y0 (hys ▸ hun2)
            have gu1 := arr_get y0 (hys ▸ huun)
            have lu2 : (u : Int) < (n : Int) := Int.ofNat_lt.2 hun2
            have lu1 : (uu : Int) < (n : Int) := Int.ofNat_lt.2 huun
            have hsw := arr_swp y0 uu u
            have hgs := fun z => get_set_any y0 (i := uu) (j := u) (hys ▸ hun2) z
            have wu1 := pt_wi huun hn
            have wu2 := pt_wj hu0 hun2 hn
            have hys0 := hys
            (try simp only [go_sem, hA, e13, hA2, f1u, gya, la, f1u, hd, dg, gu1, gu2, lu1, lu2, hsw, hgs, wu1, wu2]); repeat' (first | (with_reducible first | refine c_split ?_ ?_ | refine w_split ?_ ?_ | refine tw_split ?_ ?_) <;> intro hb <;> try simp only [go_sem, hb, hA, e13, hA2, f1u, gya, la, f1u, hd, dg, gu1, gu2, lu1, lu2, hsw, hgs, wu1, wu2] | (first | with_reducible refine d370_0_LSort6 (by with_unfolding_all rfl) (by kernel_rfl) ?_ | with_reducible refine d370_1_LSort6 (by with_unfolding_all rfl) (by kernel_rfl) ?_ | with_reducible refine d370_2_LSort6 (by with_unfolding_all rfl) (by kernel_rfl) ?_ | with_reducible refine d370_3_LSort6 (by with_unfolding_all rfl) (by kernel_rfl) ?_ | with_reducible refine d370_4_LSort6 (by with_unfolding_all rfl) (by kernel_rfl) ?_ | with_reducible refine d370_5_LSort6 (by with_unfolding_all rfl) (by kernel_rfl) ?_ | with_reducible refine d370_6_LSort6 (by with_unfolding_all rfl) (by kernel_rfl) ?_ | with_reducible refine d370_7_LSort6 (by with_unfolding_all rfl) (by kernel_rfl) ?_ | with_reducible refine d370_8_LSort6 (by with_unfolding_all rfl) (by kernel_rfl) ?_ | fail) <;> try simp only [go_sem, hA, e13, hA2, f1u, gya, la, f1u, hd, dg, gu1, gu2, lu1, lu2, hsw, hgs, wu1, wu2] | fail)
            have hA3 := hA
            clear hJ
            refine while_at (α := Nat × Nat × Array Lot) (fun ⟨i, j, y⟩ => j + 1 - i) [0, 1, 4] (fun ⟨i, j, y⟩ f h => f 12 = (.one (.c (.int .i64 ((i : Int))))) ∧ f 13 = (.one (.c (.int .i64 ((j : Int))))) ∧ h = [.own g 112 5 cap (y.toList.map lotC)] ∧ 0 < i ∧ j < n ∧ y.size = n ∧ partLoop lotLt a (uu + 1) (u - 1) (swp y0 uu u) = partLoop lotLt a i j y) (uu + 1, u - 1, swp y0 uu u) (GC.now ?_) ?_
            · simp only [go_sem, nc_0, true_and, hA3, hA2, f1u]
              exact ⟨Nat.succ_pos _, Nat.lt_of_le_of_lt (Nat.sub_le _ _) hun2, by rw [swp_size]; exact hys0⟩
            · rintro ⟨i, j, y⟩ f h J hA ⟨e12, e13, rfl, hP⟩ hJ
              simp only [go_sem, hA3, hA2, f1u] at hA
              try dsimp only at hJ
              simp only [go_sem, hA, e12, e13, hA3, hA2, f1u]
              obtain ⟨hii, hjn, hys, hm⟩ := hP
              have gya := arr_get y (hys ▸ han)
              have hA1 := hA
              have hJ1 := hJ
              have f1 := e12
              have f2 := e13
              clear hJ
              refine while_at (α := Nat) (fun u => j + 1 - u) [0, 1, 4, 13] (fun u f h => f 12 = (.one (.c (.int .i64 ((u : Int))))) ∧ h = [.own g 112 5 cap (y.toList.map lotC)] ∧ i ≤ u ∧ scanUp (fun x => lotLt x y[a]!) y j i = scanUp (fun x => lotLt x y[a]!) y j u) i (GC.now ?_) ?_
              · simp only [go_sem, nc_0, true_and, hA1, f1, f2]
              · rintro u f h J hA ⟨e12, rfl, hP⟩ hJ
                simp only [go_sem, hA1, f1, f2] at hA
                try dsimp only at hJ
                simp only [go_sem, hA, e12, hA1, f1, f2]
                obtain ⟨hul, hsc⟩ := hP
                by_cases hij : u ≤ j
                · have hd : decide (((u : Nat) : Int) ≤ ((j : Nat) : Int)) = true := decide_eq_true (Int.ofNat_le.2 hij)
                  have hun : u < n := Nat.lt_of_le_of_lt hij hjn
                  have gu := arr_get y (hys ▸ hun)
                  have lu : (u : Int) < (n : Int) := Int.ofNat_lt.2 hun
                  have hw := pt_wi hun hn
                  cases hc : lotLt y[u]! y[a]! with
                  | true =>
                    have kd : decide (lotCmp y[u]! y[a]! < 0) = true := by rw [← lotCmp_lt]; exact hc
                    rw [su_go (i := u) hij (show ((fun x => lotLt x y[a]!)) y[u]! = true by simp [hc])] at hsc
                    (try simp only [go_sem, hA, e12, hA1, f1, f2, gya, la, hd, gu, lu, kd, hw]); repeat' (first | (with_reducible first | refine c_split ?_ ?_ | refine w_split ?_ ?_ | refine tw_split ?_ ?_) <;> intro hb <;> try simp only [go_sem, hb, hA, e12, hA1, f1, f2, gya, la, hd, gu, lu, kd, hw] | (first | with_reducible refine d370_0_LSort6 (by with_unfolding_all rfl) (by kernel_rfl) ?_ | with_reducible refine d370_1_LSort6 (by with_unfolding_all rfl) (by kernel_rfl) ?_ | with_reducible refine d370_2_LSort6 (by with_unfolding_all rfl) (by kernel_rfl) ?_ | with_reducible refine d370_3_LSort6 (by with_unfolding_all rfl) (by kernel_rfl) ?_ | with_reducible refine d370_4_LSort6 (by with_unfolding_all rfl) (by kernel_rfl) ?_ | with_reducible refine d370_5_LSort6 (by with_unfolding_all rfl) (by kernel_rfl) ?_ | with_reducible refine d370_6_LSort6 (by with_unfolding_all rfl) (by kernel_rfl) ?_ | with_reducible refine d370_7_LSort6 (by with_unfolding_all rfl) (by kernel_rfl) ?_ | with_reducible refine d370_8_LSort6 (by with_unfolding_all rfl) (by kernel_rfl) ?_ | refine call_c (c_lotBefore _ _ _ ?_) | fail) <;> try simp only [go_sem, hA, e12, hA1, f1, f2, gya, la, hd, gu, lu, kd, hw] | fail)
                    refine GC.now (hJ (u + 1) _ _ (by exact pt_m hij) (by simp only [go_sem, hA, e12, hA1, f1, f2]) ⟨?_, ?_, ?_⟩) <;> try simp only [go_sem, hA, e12, hA1, f1, f2, hw]
                    exact ⟨Nat.le_succ_of_le hul, hsc⟩
                  | false =>
                    have kd : decide (lotCmp y[u]! y[a]! < 0) = false := by rw [← lotCmp_lt]; exact hc
                    rw [su_stop (i := u) (.inr (show ((fun x => lotLt x y[a]!)) y[u]! = false by simp [hc]))] at hsc
                    (try simp only [go_sem, hA, e12, hA1, f1, f2, gya, la, hd, gu, lu, kd, hw]); repeat' (first | (with_reducible first | refine c_split ?_ ?_ | refine w_split ?_ ?_ | refine tw_split ?_ ?_) <;> intro hb <;> try simp only [go_sem, hb, hA, e12, hA1, f1, f2, gya, la, hd, gu, lu, kd, hw] | (first | with_reducible refine d370_0_LSort6 (by with_unfolding_all rfl) (by kernel_rfl) ?_ | with_reducible refine d370_1_LSort6 (by with_unfolding_all rfl) (by kernel_rfl) ?_ | with_reducible refine d370_2_LSort6 (by with_unfolding_all rfl) (by kernel_rfl) ?_ | with_reducible refine d370_3_LSort6 (by with_unfolding_all rfl) (by kernel_rfl) ?_ | with_reducible refine d370_4_LSort6 (by with_unfolding_all rfl) (by kernel_rfl) ?_ | with_reducible refine d370_5_LSort6 (by with_unfolding_all rfl) (by kernel_rfl) ?_ | with_reducible refine d370_6_LSort6 (by with_unfolding_all rfl) (by kernel_rfl) ?_ | with_reducible refine d370_7_LSort6 (by with_unfolding_all rfl) (by kernel_rfl) ?_ | with_reducible refine d370_8_LSort6 (by with_unfolding_all rfl) (by kernel_rfl) ?_ | refine call_c (c_lotBefore _ _ _ ?_) | fail) <;> try simp only [go_sem, hA, e12, hA1, f1, f2, gya, la, hd, gu, lu, kd, hw] | fail)
                    obtain ⟨uu, huu⟩ : ∃ q : Nat, q = u := ⟨_, rfl⟩
                    rw [← huu] at hul hsc
                    have hsu := hsc
                    have hulu := hul
                    have f1u := e12
                    rw [← huu] at f1u
                    have hA2 := hA
                    have hi0 : 0 < uu := Nat.lt_of_lt_of_le hii hulu
                    clear hJ
                    refine while_at (α := Nat) (fun u => u) [0, 1, 4, 12] (fun u f h => f 13 = (.one (.c (.int .i64 ((u : Int))))) ∧ h = [.own g 112 5 cap (y.toList.map lotC)] ∧ u ≤ j ∧ scanDown (fun x => !lotLt x y[a]!) y uu j = scanDown (fun x => !lotLt x y[a]!) y uu u) j (GC.now ?_) ?_
                    · simp only [go_sem, nc_0, true_and, hA2, f1u, f2]
                    · rintro u f h J hA ⟨e13, rfl, hP⟩ hJ
                      simp only [go_sem, hA2, f1u, f2] at hA
                      try dsimp only at hJ
                      simp only [go_sem, hA, e13, hA2, f1u, f2]
                      obtain ⟨hul, hsc⟩ := hP
                      by_cases hij : uu ≤ u
                      · have hd : decide (((uu : Nat) : Int) ≤ ((u : Nat) : Int)) = true := decide_eq_true (Int.ofNat_le.2 hij)
                        have hun : u < n := Nat.lt_of_le_of_lt hul hjn
                        have gu := arr_get y (hys ▸ hun)
                        have lu : (u : Int) < (n : Int) := Int.ofNat_lt.2 hun
                        have hu0 : 0 < u := Nat.lt_of_lt_of_le hi0 hij
                        have hw := pt_wj hu0 hun hn
                        cases hc : lotLt y[u]! y[a]! with
                        | true =>
                          have kd : decide (lotCmp y[u]! y[a]! < 0) = true := by rw [← lotCmp_lt]; exact hc
                          rw [sdn_stop (j := u) (.inr (show ((fun x => !lotLt x y[a]!)) y[u]! = false by simp [hc])) hi0] at hsc
                          have hpe := pt_eq hsu hsc
                          by_cases hgt : uu > u
                          · have dg : decide (((u : Nat) : Int) < ((uu : Nat) : Int)) = true := decide_eq_true (Int.ofNat_lt.2 hgt)
                            rw [if_pos hgt] at hpe
                            rw [hm, hpe] at hk
                            have hun2 : u < n := Nat.lt_of_le_of_lt hul hjn
                            have gu2 := arr_get y (hys ▸ hun2)
                            have lu2 : (u : Int) < (n : Int) := Int.ofNat_lt.2 hun2
                            have hsw := arr_swp y u a
                            have hgs := fun z => get_set_any y (i := u) (j := a) (hys ▸ han) z
                            (try simp only [go_sem, hA, e13, hA2, f1u, f2, gya, la, f1u, hd, gu, lu, kd, hw, dg, gu2, lu2, hsw, hgs]); repeat' (first | (with_reducible first | refine c_split ?_ ?_ | refine w_split ?_ ?_ | refine tw_split ?_ ?_) <;> intro hb <;> try simp only [go_sem, hb, hA, e13, hA2, f1u, f2, gya, la, f1u, hd, gu, lu, kd, hw, dg, gu2, lu2, hsw, hgs] | (first | with_reducible refine d370_0_LSort6 (by with_unfolding_all rfl) (by kernel_rfl) ?_ | with_reducible refine d370_1_LSort6 (by with_unfolding_all rfl) (by kernel_rfl) ?_ | with_reducible refine d370_2_LSort6 (by with_unfolding_all rfl) (by kernel_rfl) ?_ | with_reducible refine d370_3_LSort6 (by with_unfolding_all rfl) (by kernel_rfl) ?_ | with_reducible refine d370_4_LSort6 (by with_unfolding_all rfl) (by kernel_rfl) ?_ | with_reducible refine d370_5_LSort6 (by with_unfolding_all rfl) (by kernel_rfl) ?_ | with_reducible refine d370_6_LSort6 (by with_unfolding_all rfl) (by kernel_rfl) ?_ | with_reducible refine d370_7_LSort6 (by with_unfolding_all rfl) (by kernel_rfl) ?_ | with_reducible refine d370_8_LSort6 (by with_unfolding_all rfl) (by kernel_rfl) ?_ | refine call_c (c_lotBefore _ _ _ ?_) | fail) <;> try simp only [go_sem, hA, e13, hA2, f1u, f2, gya, la, f1u, hd, gu, lu, kd, hw, dg, gu2, lu2, hsw, hgs] | fail)
                            refine hQ [] _ _ (GC.now ?_) <;> simp only [Tryz.f370, go_sem, List.nodup_cons, List.nodup_nil, List.mem_cons, List.not_mem_nil, or_false, not_false_eq_true, List.idxOf?_cons, List.idxOf?_nil, Option.map_none, forall_eq]
                            exact hk
                          · have dg : decide (((u : Nat) : Int) < ((uu : Nat) : Int)) = false := decide_eq_false (fun q => hgt (Int.ofNat_lt.1 q))
                            rw [if_neg hgt] at hpe
                            rw [hpe] at hm
                            have hle : uu ≤ u := Nat.le_of_not_gt hgt
                            have hun2 : u < n := Nat.lt_of_le_of_lt hul hjn
                            have huun : uu < n := Nat.lt_of_le_of_lt hle hun2
                            have hu0 : 0 < u := Nat.lt_of_lt_of_le hi0 hle
                            have gu2 := arr_get y (hys ▸ hun2)
                            have gu1 := arr_get y (hys ▸ huun)
                            have lu2 : (u : Int) < (n : Int) := Int.ofNat_lt.2 hun2
                            have lu1 : (uu : Int) < (n : Int) := Int.ofNat_lt.2 huun
                            have hsw := arr_swp y uu u
                            have hgs := fun z => get_set_any y (i := uu) (j := u) (hys ▸ hun2) z
                            have wu1 := pt_wi huun hn
                            have wu2 := pt_wj hu0 hun2 hn
                            (try simp only [go_sem, hA, e13, hA2, f1u, f2, gya, la, f1u, hd, gu, lu, kd, hw, dg, gu1, gu2, lu1, lu2, hsw, hgs, wu1, wu2]); repeat' (first | (with_reducible first | refine c_split ?_ ?_ | refine w_split ?_ ?_ | refine tw_split ?_ ?_) <;> intro hb <;> try simp only [go_sem, hb, hA, e13, hA2, f1u, f2, gya, la, f1u, hd, gu, lu, kd, hw, dg, gu1, gu2, lu1, lu2, hsw, hgs, wu1, wu2] | (first | with_reducible refine d370_0_LSort6 (by with_unfolding_all rfl) (by kernel_rfl) ?_ | with_reducible refine d370_1_LSort6 (by with_unfolding_all rfl) (by kernel_rfl) ?_ | with_reducible refine d370_2_LSort6 (by with_unfolding_all rfl) (by kernel_rfl) ?_ | with_reducible refine d370_3_LSort6 (by with_unfolding_all rfl) (by kernel_rfl) ?_ | with_reducible refine d370_4_LSort6 (by with_unfolding_all rfl) (by kernel_rfl) ?_ | with_reducible refine d370_5_LSort6 (by with_unfolding_all rfl) (by kernel_rfl) ?_ | with_reducible refine d370_6_LSort6 (by with_unfolding_all rfl) (by kernel_rfl) ?_ | with_reducible refine d370_7_LSort6 (by with_unfolding_all rfl) (by kernel_rfl) ?_ | with_reducible refine d370_8_LSort6 (by with_unfolding_all rfl) (by kernel_rfl) ?_ | refine call_c (c_lotBefore _ _ _ ?_) | fail) <;> try simp only [go_sem, hA, e13, hA2, f1u, f2, gya, la, f1u, hd, gu, lu, kd, hw, dg, gu1, gu2, lu1, lu2, hsw, hgs, wu1, wu2] | fail)
                            refine GC.now (hJ1 (uu + 1, u - 1, swp y uu u) _ _ (pt_dec hulu hul hgt) (by simp only [go_sem, hA, e13, hA2, f1u, f2, hA3]) ⟨?_, ?_, ?_, ?_⟩) <;> try simp only [go_sem, hA, e13, hA2, f1u, f2, wu1, wu2, hsw]
                            exact ⟨Nat.succ_pos _, Nat.lt_of_le_of_lt (Nat.sub_le _ _) hun2, by rw [swp_size]; exact hys, hm⟩
                        | false =>
                          have kd : decide (lotCmp y[u]! y[a]! < 0) = false := by rw [← lotCmp_lt]; exact hc
                          rw [sdn_go (j := u) hu0 hij (show ((fun x => !lotLt x y[a]!)) y[u]! = true by simp [hc])] at hsc
                          (try simp only [go_sem, hA, e13, hA2, f1u, f2, gya, la, f1u, hd, gu, lu, kd, hw]); repeat' (first | (with_reducible first | refine c_split ?_ ?_ | refine w_split ?_ ?_ | refine tw_split ?_ ?_) <;> intro hb <;> try simp only [go_sem, hb, hA, e13, hA2, f1u, f2, gya, la, f1u, hd, gu, lu, kd, hw] | (first | with_reducible refine d370_0_LSort6 (by with_unfolding_all rfl) (by kernel_rfl) ?_ | with_reducible refine d370_1_LSort6 (by with_unfolding_all rfl) (by kernel_rfl) ?_ | with_reducible refine d370_2_LSort6 (by with_unfolding_all rfl) (by kernel_rfl) ?_ | with_reducible refine d370_3_LSort6 (by with_unfolding_all rfl) (by kernel_rfl) ?_ | with_reducible refine d370_4_LSort6 (by with_unfolding_all rfl) (by kernel_rfl) ?_ | with_reducible refine d370_5_LSort6 (by with_unfolding_all rfl) (by kernel_rfl) ?_ | with_reducible refine d370_6_LSort6 (by with_unfolding_all rfl) (by kernel_rfl) ?_ | with_reducible refine d370_7_LSort6 (by with_unfolding_all rfl) (by kernel_rfl) ?_ | with_reducible refine d370_8_LSort6 (by with_unfolding_all rfl) (by kernel_rfl) ?_ | refine call_c (c_lotBefore _ _ _ ?_) | fail) <;> try simp only [go_sem, hA, e13, hA2, f1u, f2, gya, la, f1u, hd, gu, lu, kd, hw] | fail)
                          refine GC.now (hJ (u - 1) _ _ (by exact Nat.sub_lt hu0 Nat.zero_lt_one) (by simp only [go_sem, hA, e13, hA2, f1u, f2]) ⟨?_, ?_, ?_⟩) <;> try simp only [go_sem, hA, e13, hA2, f1u, f2, hw]
                          exact ⟨Nat.le_trans (Nat.sub_le _ _) hul, hsc⟩
                      · have hd : decide (((uu : Nat) : Int) ≤ ((u : Nat) : Int)) = false := decide_eq_false (fun q => hij (Int.ofNat_le.1 q))
                        rw [sdn_stop (j := u) (.inl hij) hi0] at hsc
                        have hpe := pt_eq hsu hsc
                        by_cases hgt : uu > u
                        · have dg : decide (((u : Nat) : Int) < ((uu : Nat) : Int)) = true := decide_eq_true (Int.ofNat_lt.2 hgt)
                          rw [if_pos hgt] at hpe
                          rw [hm, hpe] at hk
                          have hun2 : u < n := Nat.lt_of_le_of_lt hul hjn
                          have gu2 := arr_get y (hys ▸ hun2)
                          have lu2 : (u : Int) < (n : Int) := Int.ofNat_lt.2 hun2
                          have hsw := arr_swp y u a
                          have hgs := fun z => get_set_any y (i := u) (j := a) (hys ▸ han) z
                          (try simp only [go_sem, hA, e13, hA2, f1u, f2, gya, la, f1u, hd, dg, gu2, lu2, hsw, hgs]); repeat' (first | (with_reducible first | refine c_split ?_ ?_ | refine w_split ?_ ?_ | refine tw_split ?_ ?_) <;> intro hb <;> try simp only [go_sem, hb, hA, e13, hA2, f1u, f2, gya, la, f1u, hd, dg, gu2, lu2, hsw, hgs] | (first | with_reducible refine d370_0_LSort6 (by with_unfolding_all rfl) (by kernel_rfl) ?_ | with_reducible refine d370_1_LSort6 (by with_unfolding_all rfl) (by kernel_rfl) ?_ | with_reducible refine d370_2_LSort6 (by with_unfolding_all rfl) (by kernel_rfl) ?_ | with_reducible refine d370_3_LSort6 (by with_unfolding_all rfl) (by kernel_rfl) ?_ | with_reducible refine d370_4_LSort6 (by with_unfolding_all rfl) (by kernel_rfl) ?_ | with_reducible refine d370_5_LSort6 (by with_unfolding_all rfl) (by kernel_rfl) ?_ | with_reducible refine d370_6_LSort6 (by with_unfolding_all rfl) (by kernel_rfl) ?_ | with_reducible refine d370_7_LSort6 (by with_unfolding_all rfl) (by kernel_rfl) ?_ | with_reducible refine d370_8_LSort6 (by with_unfolding_all rfl) (by kernel_rfl) ?_ | fail) <;> try simp only [go_sem, hA, e13, hA2, f1u, f2, gya, la, f1u, hd, dg, gu2, lu2, hsw, hgs] | fail)
                          refine hQ [] _ _ (GC.now ?_) <;> simp only [Tryz.f370, go_sem, List.nodup_cons, List.nodup_nil, List.mem_cons, List.not_mem_nil, or_false, not_false_eq_true, List.idxOf?_cons, List.idxOf?_nil, Option.map_none, forall_eq]
                          exact hk
                        · have dg : decide (((u : Nat) : Int) < ((uu : Nat) : Int)) = false := decide_eq_false (fun q => hgt (Int.ofNat_lt.1 q))
                          rw [if_neg hgt] at hpe
                          rw [hpe] at hm
                          have hle : uu ≤ u := Nat.le_of_not_gt hgt
                          have hun2 : u < n := Nat.lt_of_le_of_lt hul hjn
                          have huun : uu < n := Nat.lt_of_le_of_lt hle hun2
                          have hu0 : 0 < u := Nat.lt_of_lt_of_le hi0 hle
                          have gu2 := arr_get y (hys ▸ hun2)
                          have gu1 := arr_get y (hys ▸ huun)
                          have lu2 : (u : Int) < (n : Int) := Int.ofNat_lt.2 hun2
                          have lu1 : (uu : Int) < (n : Int) := Int.ofNat_lt.2 huun
                          have hsw := arr_swp y uu u
                          have hgs := fun z => get_set_any y (i := uu) (j := u) (hys ▸ hun2) z
                          have wu1 := pt_wi huun hn
                          have wu2 := pt_wj hu0 hun2 hn
                          (try simp only [go_sem, hA, e13, hA2, f1u, f2, gya, la, f1u, hd, dg, gu1, gu2, lu1, lu2, hsw, hgs, wu1, wu2]); repeat' (first | (with_reducible first | refine c_split ?_ ?_ | refine w_split ?_ ?_ | refine tw_split ?_ ?_) <;> intro hb <;> try simp only [go_sem, hb, hA, e13, hA2, f1u, f2, gya, la, f1u, hd, dg, gu1, gu2, lu1, lu2, hsw, hgs, wu1, wu2] | (first | with_reducible refine d370_0_LSort6 (by with_unfolding_all rfl) (by kernel_rfl) ?_ | with_reducible refine d370_1_LSort6 (by with_unfolding_all rfl) (by kernel_rfl) ?_ | with_reducible refine d370_2_LSort6 (by with_unfolding_all rfl) (by kernel_rfl) ?_ | with_reducible refine d370_3_LSort6 (by with_unfolding_all rfl) (by kernel_rfl) ?_ | with_reducible refine d370_4_LSort6 (by with_unfolding_all rfl) (by kernel_rfl) ?_ | with_reducible refine d370_5_LSort6 (by with_unfolding_all rfl) (by kernel_rfl) ?_ | with_reducible refine d370_6_LSort6 (by with_unfolding_all rfl) (by kernel_rfl) ?_ | with_reducible refine d370_7_LSort6 (by with_unfolding_all rfl) (by kernel_rfl) ?_ | with_reducible refine d370_8_LSort6 (by with_unfolding_all rfl) (by kernel_rfl) ?_ | fail) <;> try simp only [go_sem, hA, e13, hA2, f1u, f2, gya, la, f1u, hd, dg, gu1, gu2, lu1, lu2, hsw, hgs, wu1, wu2] | fail)
                          refine GC.now (hJ1 (uu + 1, u - 1, swp y uu u) _ _ (pt_dec hulu hul hgt) (by simp only [go_sem, hA, e13, hA2, f1u, f2, hA3]) ⟨?_, ?_, ?_, ?_⟩) <;> try simp only [go_sem, hA, e13, hA2, f1u, f2, wu1, wu2, hsw]
                          exact ⟨Nat.succ_pos _, Nat.lt_of_le_of_lt (Nat.sub_le _ _) hun2, by rw [swp_size]; exact hys, hm⟩
                · have hd : decide (((u : Nat) : Int) ≤ ((j : Nat) : Int)) = false := decide_eq_false (fun q => hij (Int.ofNat_le.1 q))
                  rw [su_stop (i := u) (.inl hij)] at hsc
                  (try simp only [go_sem, hA, e12, hA1, f1, f2, gya, la, hd]); repeat' (first | (with_reducible first | refine c_split ?_ ?_ | refine w_split ?_ ?_ | refine tw_split ?_ ?_) <;> intro hb <;> try simp only [go_sem, hb, hA, e12, hA1, f1, f2, gya, la, hd] | (first | with_reducible refine d370_0_LSort6 (by with_unfolding_all rfl) (by kernel_rfl) ?_ | with_reducible refine d370_1_LSort6 (by with_unfolding_all rfl) (by kernel_rfl) ?_ | with_reducible refine d370_2_LSort6 (by with_unfolding_all rfl) (by kernel_rfl) ?_ | with_reducible refine d370_3_LSort6 (by with_unfolding_all rfl) (by kernel_rfl) ?_ | with_reducible refine d370_4_LSort6 (by with_unfolding_all rfl) (by kernel_rfl) ?_ | with_reducible refine d370_5_LSort6 (by with_unfolding_all rfl) (by kernel_rfl) ?_ | with_reducible refine d370_6_LSort6 (by with_unfolding_all rfl) (by kernel_rfl) ?_ | with_reducible refine d370_7_LSort6 (by with_unfolding_all rfl) (by kernel_rfl) ?_ | with_reducible refine d370_8_LSort6 (by with_unfolding_all rfl) (by kernel_rfl) ?_ | fail) <;> try simp only [go_sem, hA, e12, hA1, f1, f2, gya, la, hd] | fail)
                  obtain ⟨uu, huu⟩ : ∃ q : Nat, q = u := ⟨_, rfl⟩
                  rw [← huu] at hul hsc
                  have hsu := hsc
                  have hulu := hul
                  have f1u := e12
                  rw [← huu] at f1u
                  have hA2 := hA
                  have hi0 : 0 < uu := Nat.lt_of_lt_of_le hii hulu
                  clear hJ
                  refine while_at (α := Nat) (fun u => u) [0, 1, 4, 12] (fun u f h => f 13 = (.one (.c (.int .i64 ((u : Int))))) ∧ h = [.own g 112 5 cap (y.toList.map lotC)] ∧ u ≤ j ∧ scanDown (fun x => !lotLt x y[a]!) y uu j = scanDown (fun x => !lotLt x y[a]!) y uu u) j (GC.now ?_) ?_
                  · simp only [go_sem, nc_0, true_and, hA2, f1u, f2]
                  · rintro u f h J hA ⟨e13, rfl, hP⟩ hJ
                    simp only [go_sem, hA2, f1u, f2] at hA
                    try dsimp only at hJ
                    simp only [go_sem, hA, e13, hA2, f1u, f2]
                    obtain ⟨hul, hsc⟩ := hP
                    by_cases hij : uu ≤ u
                    · have hd : decide (((uu : Nat) : Int) ≤ ((u : Nat) : Int)) = true := decide_eq_true (Int.ofNat_le.2 hij)
                      have hun : u < n := Nat.lt_of_le_of_lt hul hjn
                      have gu := arr_get y (hys ▸ hun)
                      have lu : (u : Int) < (n : Int) := Int.ofNat_lt.2 hun
                      have hu0 : 0 < u := Nat.lt_of_lt_of_le hi0 hij
                      have hw := pt_wj hu0 hun hn
                      cases hc : lotLt y[u]! y[a]! with
                      | true =>
                        have kd : decide (lotCmp y[u]! y[a]! < 0) = true := by rw [← lotCmp_lt]; exact hc
                        rw [sdn_stop (j := u) (.inr (show ((fun x => !lotLt x y[a]!)) y[u]! = false by simp [hc])) hi0] at hsc
                        have hpe := pt_eq hsu hsc
                        by_cases hgt : uu > u
                        · have dg : decide (((u : Nat) : Int) < ((uu : Nat) : Int)) = true := decide_eq_true (Int.ofNat_lt.2 hgt)
                          rw [if_pos hgt] at hpe
                          rw [hm, hpe] at hk
                          have hun2 : u < n := Nat.lt_of_le_of_lt hul hjn
                          have gu2 := arr_get y (hys ▸ hun2)
                          have lu2 : (u : Int) < (n : Int) := Int.ofNat_lt.2 hun2
                          have hsw := arr_swp y u a
                          have hgs := fun z => get_set_any y (i := u) (j := a) (hys ▸ han) z
                          (try simp only [go_sem, hA, e13, hA2, f1u, f2, gya, la, f1u, hd, gu, lu, kd, hw, dg, gu2, lu2, hsw, hgs]); repeat' (first | (with_reducible first | refine c_split ?_ ?_ | refine w_split ?_ ?_ | refine tw_split ?_ ?_) <;> intro hb <;> try simp only [go_sem, hb, hA, e13, hA2, f1u, f2, gya, la, f1u, hd, gu, lu, kd, hw, dg, gu2, lu2, hsw, hgs] | (first | with_reducible refine d370_0_LSort6 (by with_unfolding_all rfl) (by kernel_rfl) ?_ | with_reducible refine d370_1_LSort6 (by with_unfolding_all rfl) (by kernel_rfl) ?_ | with_reducible refine d370_2_LSort6 (by with_unfolding_all rfl) (by kernel_rfl) ?_ | with_reducible refine d370_3_LSort6 (by with_unfolding_all rfl) (by kernel_rfl) ?_ | with_reducible refine d370_4_LSort6 (by with_unfolding_all rfl) (by kernel_rfl) ?_ | with_reducible refine d370_5_LSort6 (by with_unfolding_all rfl) (by kernel_rfl) ?_ | with_reducible refine d370_6_LSort6 (by with_unfolding_all rfl) (by kernel_rfl) ?_ | with_reducible refine d370_7_LSort6 (by with_unfolding_all rfl) (by kernel_rfl) ?_ | with_reducible refine d370_8_LSort6 (by with_unfolding_all rfl) (by kernel_rfl) ?_ | refine call_c (c_lotBefore _ _ _ ?_) | fail) <;> try simp only [go_sem, hA, e13, hA2, f1u, f2, gya, la, f1u, hd, gu, lu, kd, hw, dg, gu2, lu2, hsw, hgs] | fail)
                          refine hQ [] _ _ (GC.now ?_) <;> simp only [Tryz.f370, go_sem, List.nodup_cons, List.nodup_nil, List.mem_cons, List.not_mem_nil, or_false, not_false_eq_true, List.idxOf?_cons, List.idxOf?_nil, Option.map_none, forall_eq]
                          exact hk
                        · have dg : decide (((u : Nat) : Int) < ((uu : Nat) : Int)) = false := decide_eq_false (fun q => hgt (Int.ofNat_lt.1 q))
                          rw [if_neg hgt] at hpe
                          rw [hpe] at hm
                          have hle : uu ≤ u := Nat.le_of_not_gt hgt
                          have hun2 : u < n := Nat.lt_of_le_of_lt hul hjn
                          have huun : uu < n := Nat.lt_of_le_of_lt hle hun2
                          have hu0 : 0 < u := Nat.lt_of_lt_of_le hi0 hle
                          have gu2 := arr_get y (hys ▸ hun2)
                          have gu1 := arr_get y (hys ▸ huun)
                          have lu2 : (u : Int) < (n : Int) := Int.ofNat_lt.2 hun2
                          have lu1 : (uu : Int) < (n : Int) := Int.ofNat_lt.2 huun
                          have hsw := arr_swp y uu u
                          have hgs := fun z => get_set_any y (i := uu) (j := u) (hys ▸ hun2) z
                          have wu1 := pt_wi huun hn
                          have wu2 := pt_wj hu0 hun2 hn
                          (try simp only [go_sem, hA, e13, hA2, f1u, f2, gya, la, f1u, hd, gu, lu, kd, hw, dg, gu1, gu2, lu1, lu2, hsw, hgs, wu1, wu2]); repeat' (first | (with_reducible first | refine c_split ?_ ?_ | refine w_split ?_ ?_ | refine tw_split ?_ ?_) <;> intro hb <;> try simp only [go_sem, hb, hA, e13, hA2, f1u, f2, gya, la, f1u, hd, gu, lu, kd, hw, dg, gu1, gu2, lu1, lu2, hsw, hgs, wu1, wu2] | (first | with_reducible refine d370_0_LSort6 (by with_unfolding_all rfl) (by kernel_rfl) ?_ | with_reducible refine d370_1_LSort6 (by with_unfolding_all rfl) (by kernel_rfl) ?_ | with_reducible refine d370_2_LSort6 (by with_unfolding_all rfl) (by kernel_rfl) ?_ | with_reducible refine d370_3_LSort6 (by with_unfolding_all rfl) (by kernel_rfl) ?_ | with_reducible refine d370_4_LSort6 (by with_unfolding_all rfl) (by kernel_rfl) ?_ | with_reducible refine d370_5_LSort6 (by with_unfolding_all rfl) (by kernel_rfl) ?_ | with_reducible refine d370_6_LSort6 (by with_unfolding_all rfl) (by kernel_rfl) ?_ | with_reducible refine d370_7_LSort6 (by with_unfolding_all rfl) (by kernel_rfl) ?_ | with_reducible refine d370_8_LSort6 (by with_unfolding_all rfl) (by kernel_rfl) ?_ | refine call_c (c_lotBefore _ _ _ ?_) | fail) <;> try simp only [go_sem, hA, e13, hA2, f1u, f2, gya, la, f1u, hd, gu, lu, kd, hw, dg, gu1, gu2, lu1, lu2, hsw, hgs, wu1, wu2] | fail)
                          refine GC.now (hJ1 (uu + 1, u - 1, swp y uu u) _ _ (pt_dec hulu hul hgt) (by simp only [go_sem, hA, e13, hA2, f1u, f2, hA3]) ⟨?_, ?_, ?_, ?_⟩) <;> try simp only [go_sem, hA, e13, hA2, f1u, f2, wu1, wu2, hsw]
                          exact ⟨Nat.succ_pos _, Nat.lt_of_le_of_lt (Nat.sub_le _ _) hun2, by rw [swp_size]; exact hys, hm⟩
                      | false =>
                        have kd : decide (lotCmp y[u]! y[a]! < 0) = false := by rw [← lotCmp_lt]; exact hc
                        rw [sdn_go (j := u) hu0 hij (show ((fun x => !lotLt x y[a]!)) y[u]! = true by simp [hc])] at hsc
                        (try simp only [go_sem, hA, e13, hA2, f1u, f2, gya, la, f1u, hd, gu, lu, kd, hw]); repeat' (first | (with_reducible first | refine c_split ?_ ?_ | refine w_split ?_ ?_ | refine tw_split ?_ ?_) <;> intro hb <;> try simp only [go_sem, hb, hA, e13, hA2, f1u, f2, gya, la, f1u, hd, gu, lu, kd, hw] | (first | with_reducible refine d370_0_LSort6 (by with_unfolding_all rfl) (by kernel_rfl) ?_ | with_reducible refine d370_1_LSort6 (by with_unfolding_all rfl) (by kernel_rfl) ?_ | with_reducible refine d370_2_LSort6 (by with_unfolding_all rfl) (by kernel_rfl) ?_ | with_reducible refine d370_3_LSort6 (by with_unfolding_all rfl) (by kernel_rfl) ?_ | with_reducible refine d370_4_LSort6 (by with_unfolding_all rfl) (by kernel_rfl) ?_ | with_reducible refine d370_5_LSort6 (by with_unfolding_all rfl) (by kernel_rfl) ?_ | with_reducible refine d370_6_LSort6 (by with_unfolding_all rfl) (by kernel_rfl) ?_ | with_reducible refine d370_7_LSort6 (by with_unfolding_all rfl) (by kernel_rfl) ?_ | with_reducible refine d370_8_LSort6 (by with_unfolding_all rfl) (by kernel_rfl) ?_ | refine call_c (c_lotBefore _ _ _ ?_) | fail) <;> try simp only [go_sem, hA, e13, hA2, f1u, f2, gya, la, f1u, hd, gu, lu, kd, hw] | fail)
                        refine GC.now (hJ (u - 1) _ _ (by exact Nat.sub_lt hu0 Nat.zero_lt_one) (by simp only [go_sem, hA, e13, hA2, f1u, f2]) ⟨?_, ?_, ?_⟩) <;> try simp only [go_sem, hA, e13, hA2, f1u, f2, hw]
                        exact ⟨Nat.le_trans (Nat.sub_le _ _) hul, hsc⟩
                    · have hd : decide (((uu : Nat) : Int) ≤ ((u : Nat) : Int)) = false := decide_eq_false (fun q => hij (Int.ofNat_le.1 q))
                      rw [sdn_stop (j := u) (.inl hij) hi0] at hsc
                      have hpe := pt_eq hsu hsc
                      by_cases hgt : uu > u
                      · have dg : decide (((u : Nat) : Int) < ((uu : Nat) : Int)) = true := decide_eq_true (Int.ofNat_lt.2 hgt)
                        rw [if_pos hgt] at hpe
                        rw [hm, hpe] at hk
                        have hun2 : u < n := Nat.lt_of_le_of_lt hul hjn
                        have gu2 := arr_get y (hys ▸ hun2)
                        have lu2 : (u : Int) < (n : Int) := Int.ofNat_lt.2 hun2
                        have hsw := arr_swp y u a
                        have hgs := fun z => get_set_any y (i := u) (j := a) (hys ▸ han) z
                        (try simp only [go_sem, hA, e13, hA2, f1u, f2, gya, la, f1u, hd, dg, gu2, lu2, hsw, hgs]); repeat' (first | (with_reducible first | refine c_split ?_ ?_ | refine w_split ?_ ?_ | refine tw_split ?_ ?_) <;> intro hb <;> try simp only [go_sem, hb, hA, e13, hA2, f1u, f2, gya, la, f1u, hd, dg, gu2, lu2, hsw, hgs] | (first | with_reducible refine d370_0_LSort6 (by with_unfolding_all rfl) (by kernel_rfl) ?_ | with_reducible refine d370_1_LSort6 (by with_unfolding_all rfl) (by kernel_rfl) ?_ | with_reducible refine d370_2_LSort6 (by with_unfolding_all rfl) (by kernel_rfl) ?_ | with_reducible refine d370_3_LSort6 (by with_unfolding_all rfl) (by kernel_rfl) ?_ | with_reducible refine d370_4_LSort6 (by with_unfolding_all rfl) (by kernel_rfl) ?_ | with_reducible refine d370_5_LSort6 (by with_unfolding_all rfl) (by kernel_rfl) ?_ | with_reducible refine d370_6_LSort6 (by with_unfolding_all rfl) (by kernel_rfl) ?_ | with_reducible refine d370_7_LSort6 (by with_unfolding_all rfl) (by kernel_rfl) ?_ | with_reducible refine d370_8_LSort6 (by with_unfolding_all rfl) (by kernel_rfl) ?_ | fail) <;> try simp only [go_sem, hA, e13, hA2, f1u, f2, gya, la, f1u, hd, dg, gu2, lu2, hsw, hgs] | fail)
                        refine hQ [] _ _ (GC.now ?_) <;> simp only [Tryz.f370, go_sem, List.nodup_cons, List.nodup_nil, List.mem_cons, List.not_mem_nil, or_false, not_false_eq_true, List.idxOf?_cons, List.idxOf?_nil, Option.map_none, forall_eq]
                        exact hk
                      · have dg : decide (((u : Nat) : Int) < ((uu : Nat) : Int)) = false := decide_eq_false (fun q => hgt (Int.ofNat_lt.1 q))
                        rw [if_neg hgt] at hpe
                        rw [hpe] at hm
                        have hle : uu ≤ u := Nat.le_of_not_gt hgt
                        have hun2 : u < n := Nat.lt_of_le_of_lt hul hjn
                        have huun : uu < n := Nat.lt_of_le_of_lt hle hun2
                        have hu0 : 0 < u := Nat.lt_of_lt_of_le hi0 hle
                        have gu2 := arr_get y (hys ▸ hun2)
                        have gu1 := arr_get y (hys ▸ huun)
                        have lu2 : (u : Int) < (n : Int) := Int.ofNat_lt.2 hun2
                        have lu1 : (uu : Int) < (n : Int) := Int.ofNat_lt.2 huun
                        have hsw := arr_swp y uu u
                        have hgs := fun z => get_set_any y (i := uu) (j := u) (hys ▸ hun2) z
                        have wu1 := pt_wi huun hn
                        have wu2 := pt_wj hu0 hun2 hn
                        (try simp only [go_sem, hA, e13, hA2, f1u, f2, gya, la, f1u, hd, dg, gu1, gu2, lu1, lu2, hsw, hgs, wu1, wu2]); repeat' (first | (with_reducible first | refine c_split ?_ ?_ | refine w_split ?_ ?_ | refine tw_split ?_ ?_) <;> intro hb <;> try simp only [go_sem, hb, hA, e13, hA2, f1u, f2, gya, la, f1u, hd, dg, gu1, gu2, lu1, lu2, hsw, hgs, wu1, wu2] | (first | with_reducible refine d370_0_LSort6 (by with_unfolding_all rfl) (by kernel_rfl) ?_ | with_reducible refine d370_1_LSort6 (by with_unfolding_all rfl) (by kernel_rfl) ?_ | with_reducible refine d370_2_LSort6 (by with_unfolding_all rfl) (by kernel_rfl) ?_ | with_reducible refine d370_3_LSort6 (by with_unfolding_all rfl) (by kernel_rfl) ?_ | with_reducible refine d370_4_LSort6 (by with_unfolding_all rfl) (by kernel_rfl) ?_ | with_reducible refine d370_5_LSort6 (by with_unfolding_all rfl) (by kernel_rfl) ?_ | with_reducible refine d370_6_LSort6 (by with_unfolding_all rfl) (by kernel_rfl) ?_ | with_reducible refine d370_7_LSort6 (by with_unfolding_all rfl) (by kernel_rfl) ?_ | with_reducible refine d370_8_LSort6 (by with_unfolding_all rfl) (by kernel_rfl) ?_ | fail) <;> try simp only [go_sem, hA, e13, hA2, f1u, f2, gya, la, f1u, hd, dg, gu1, gu2, lu1, lu2, hsw, hgs, wu1, wu2] | fail)
                        refine GC.now (hJ1 (uu + 1, u - 1, swp y uu u) _ _ (pt_dec hulu hul hgt) (by simp only [go_sem, hA, e13, hA2, f1u, f2, hA3]) ⟨?_, ?_, ?_, ?_⟩) <;> try simp only [go_sem, hA, e13, hA2, f1u, f2, wu1, wu2, hsw]
                        exact ⟨Nat.succ_pos _, Nat.lt_of_le_of_lt (Nat.sub_le _ _) hun2, by rw [swp_size]; exact hys, hm⟩
end Go.Proofs.YtkndmncgohmjmaaGreat
end
section
namespace Go.Proofs.YtkndmncgohmjmaaGreat
open Go.BL Go.RowKit
set_option linter.unusedVariables false
set_option linter.unusedSimpArgs false
set_option maxRecDepth 100000
theorem d368_0_LSort7 : DrawL Tryz.prog 0 19 (.on [(0, true, true), (1, false, true), (2, false, true), (3, false, true), (4, true, true), (5, true, true), (6, true, true), (7, true, true), (8, true, true), (9, true, false), (10, false, false), (11, false, false), (12, false, false), (13, false, false), (14, false, true), (15, false, true), (16, false, true), (17, false, true)] .nil) := draw_L
theorem d368_1_LSort7 : DrawL Tryz.prog 0 46 (.on [(0, true, true), (1, true, true), (2, true, true), (3, true, true), (4, true, true), (5, true, true), (6, true, true), (7, true, true), (8, true, true), (9, true, true), (10, true, false), (11, false, false), (12, false, false), (13, false, false), (14, false, true), (15, false, true), (16, false, true), (17, false, true)] .nil) := draw_L
theorem d368_2_LSort7 : DrawL Tryz.prog 0 72 (.on [(0, true, true), (1, true, true), (2, true, true), (3, true, true), (4, true, true), (5, true, false), (6, false, false), (7, false, false), (8, false, false), (9, false, false), (10, false, true), (11, false, true), (12, false, true)] .nil) := draw_L
theorem d368_3_LSort7 : DrawL Tryz.prog 0 85 (.on [(0, true, true), (1, true, true), (2, true, true), (3, true, true), (4, true, true), (5, true, true), (6, true, true), (7, true, true), (8, true, true), (9, true, true), (10, true, false), (11, false, false), (12, false, false), (13, false, false), (14, false, true), (15, false, true), (16, false, true), (17, false, true)] .nil) := draw_L
theorem d368_4_LSort7 : DrawL Tryz.prog 0 112 (.on [(0, true, true), (1, true, true), (2, true, true), (3, true, true), (4, true, true), (5, true, false), (6, false, false), (7, false, false), (8, false, false), (9, false, false), (10, false, true), (11, false, true), (12, false, true)] .nil) := draw_L
theorem d368_5_LSort7 : DrawL Tryz.prog 0 125 (.on [(0, true, true), (1, true, true), (2, true, true), (3, true, true), (4, true, true), (5, true, true), (6, true, true), (7, true, true), (8, true, true), (9, true, true), (10, true, false), (11, false, false), (12, false, false), (13, false, false), (14, false, true), (15, false, true), (16, false, true), (17, false, true)] .nil) := draw_L
attribute [local go_sem] lotC
open Go.Sort
theorem ss_go {y : Array Lot} {b i : Nat} (h : i < b) (hp : lotLt y[i]! y[i - 1]! = false) : scanSorted lotLt y b i = scanSorted lotLt y b (i + 1) := by
  conv => lhs; rw [scanSorted]
  rw [if_pos (by rw [decide_eq_true h, hp]; rfl)]
theorem ss_stop {y : Array Lot} {b i : Nat} (h : ¬ i < b ∨ lotLt y[i]! y[i - 1]! = true) : scanSorted lotLt y b i = i := by
  rw [scanSorted, if_neg]
  rcases h with h | h
  · simp [h]
  · simp [h]
theorem pi_1 {y : Array Lot} {a b s i u : Nat} (h : scanSorted lotLt y b i = u) (hb : u = b) : partialIns lotLt a b (s + 1) i y = (y, true) := by
  rw [partialIns, h]
  simp [hb]
theorem pi_2 {y : Array Lot} {a b s i u : Nat} (h : scanSorted lotLt y b i = u) (hb : ¬ u = b) (h50 : b - a < 50) : partialIns lotLt a b (s + 1) i y = (y, false) := by
  rw [partialIns, h]
  simp [hb, h50]
theorem pi_3 {y z1 z2 : Array Lot} {a b s i u : Nat} (h : scanSorted lotLt y b i = u) (hb : ¬ u = b) (h50 : ¬ b - a < 50) (h1 : (if u - a ≥ 2 then shiftDown lotLt (u - 1) (swp y u (u - 1)) else swp y u (u - 1)) = z1) (h2 : (if b - u ≥ 2 then shiftUp lotLt b (u + 1) z1 else z1) = z2) : partialIns lotLt a b (s + 1) i y = partialIns lotLt a b s u z2 := by
  subst h1
  subst h2
  rw [partialIns, h]
  simp only [if_neg hb, if_neg h50]
theorem dn_0 (y : Array Lot) : shiftDown lotLt 0 y = y := rfl
theorem dn_go {y : Array Lot} {v : Nat} (h0 : 0 < v) (h : lotLt y[v]! y[v - 1]! = true) : shiftDown lotLt v y = shiftDown lotLt (v - 1) (swp y v (v - 1)) := by
  obtain ⟨k, rfl⟩ : ∃ k, v = k + 1 := ⟨v - 1, by omega⟩
  have h' : lotLt y[k + 1]! y[k]! = true := h
  rw [shiftDown, if_neg (by rw [h']; decide)]; rfl
theorem dn_stop {y : Array Lot} {v : Nat} (h : lotLt y[v]! y[v - 1]! = false) : shiftDown lotLt v y = y := by
  rcases v with _ | k
  · rfl
  · have h' : lotLt y[k + 1]! y[k]! = false := h
    rw [shiftDown, if_pos (by rw [h']; rfl)]
theorem up_go {y : Array Lot} {b v : Nat} (h0 : v < b) (h : lotLt y[v]! y[v - 1]! = true) : shiftUp lotLt b v y = shiftUp lotLt b (v + 1) (swp y v (v - 1)) := by
  rw [shiftUp, if_pos h0, if_neg (by rw [h]; decide)]
theorem up_stop {y : Array Lot} {b v : Nat} (h : lotLt y[v]! y[v - 1]! = false) : shiftUp lotLt b v y = y := by
  rw [shiftUp]
  split
  · rw [if_pos (by rw [h]; rfl)]
  · rfl
theorem up_end {y : Array Lot} {b v : Nat} (h : ¬ v < b) : shiftUp lotLt b v y = y := by rw [shiftUp, if_neg h]
theorem pi_w {a b u : Nat} (h1 : a < u) (h2 : u ≤ b) (h3 : b ≤ 1000) : wrap64 ((b : Int) - (a : Int)) = ((b - a : Nat) : Int) ∧ wrap64 ((u : Int) - (a : Int)) = ((u - a : Nat) : Int) ∧ wrap64 ((b : Int) - (u : Int)) = ((b - u : Nat) : Int) ∧ wrap64 ((u : Int) + 1) = ((u + 1 : Nat) : Int) ∧ wrap64 ((u : Int) - 1) = ((u - 1 : Nat) : Int) := ⟨by unfold wrap64; omega, by unfold wrap64; omega, by unfold wrap64; omega, by unfold wrap64; omega, by unfold wrap64; omega⟩
theorem pi_j {j : Nat} (h : j < 5) : wrap64 ((j : Int) + 1) = ((j + 1 : Nat) : Int) ∧ 5 - j = (5 - (j + 1)) + 1 := ⟨by unfold wrap64; omega, by omega⟩
theorem pi_up {b v : Nat} (h : v < b) : b - (v + 1) < b - v := by omega
theorem pi_5 {j : Nat} (h : j < 5) : 5 - (j + 1) < 5 - j := by omega
theorem pi_n {u a b : Nat} (h1 : a < u) (h2 : ¬ u = b) (h3 : u ≤ b) : u < b ∧ 0 < u ∧ u - 1 < u := by omega
set_option maxHeartbeats 8000000 in
theorem s_partialIns (d : Array Lot) (n : Nat) (e : d.size = n) (g : Nat) (cap : Option Nat) (a b : Nat) (hab : a < b) (hb : b ≤ n) (hn : n ≤ 1000) (K : AV → AH → Prop) (hk : K (.one (.c (.bool ((partialInsertionSort lotLt d a b).2)))) [arrO g cap (partialInsertionSort lotLt d a b).1]) : ACalls Tryz.prog 368 [.one (.sl 0 g 0 n), (.one (.c (.int .i64 ((a : Int))))), (.one (.c (.int .i64 ((b : Int))))), .one (.clo 251 [])] [arrO g cap d] K := by
  have hb1 : b ≤ 1000 := Nat.le_trans hb hn
  have han : a < n := Nat.lt_of_lt_of_le hab hb
  have wa := pt_wi han hn
  rw [partialInsertionSort] at hk
  refine acall_h Tryz.f368.results.toList mixed Tryz.func368 rfl rfl (by kernel_rfl) ?_
  intro Q hQ hQN
  simp only [go_sem, arrO]
  (try simp only [go_sem, wa]); repeat' (first | (with_reducible first | refine c_split ?_ ?_ | refine w_split ?_ ?_ | refine tw_split ?_ ?_) <;> intro hb <;> try simp only [go_sem, hb, wa] | (first | with_reducible refine d368_0_LSort7 (by with_unfolding_all rfl) (by kernel_rfl) ?_ | with_reducible refine d368_1_LSort7 (by with_unfolding_all rfl) (by kernel_rfl) ?_ | with_reducible refine d368_2_LSort7 (by with_unfolding_all rfl) (by kernel_rfl) ?_ | with_reducible refine d368_3_LSort7 (by with_unfolding_all rfl) (by kernel_rfl) ?_ | with_reducible refine d368_4_LSort7 (by with_unfolding_all rfl) (by kernel_rfl) ?_ | with_reducible refine d368_5_LSort7 (by with_unfolding_all rfl) (by kernel_rfl) ?_ | fail) <;> try simp only [go_sem, wa] | fail)
  refine while_at (α := Nat × Nat × Array Lot) (fun ⟨jj, i, y⟩ => 5 - jj) [0, 1, 2, 3] (fun ⟨jj, i, y⟩ f h => f 9 = (.one (.c (.int .i64 ((i : Int))))) ∧ f 10 = (.one (.c (.int .i64 ((jj : Int))))) ∧ h = [.own g 112 5 cap (y.toList.map lotC)] ∧ a < i ∧ i ≤ b ∧ y.size = n ∧ partialIns lotLt a b 5 (a + 1) d = partialIns lotLt a b (5 - jj) i y) (0, a + 1, d) (GC.now ?_) ?_
  · simp only [go_sem, nc_0, true_and, wa]
    exact ⟨Nat.lt_succ_self a, hab, e⟩
  · rintro ⟨jj, i, y⟩ f h J hA ⟨e9, e10, rfl, hP⟩ hJ
    simp only [go_sem, wa] at hA
    try dsimp only at hJ
    simp only [go_sem, hA, e9, e10, wa]
    obtain ⟨hai, hib, hys, hm⟩ := hP
    by_cases hj5 : jj < 5
    · have d5 : decide ((jj : Int) < 5) = true := decide_eq_true (by omega)
      obtain ⟨wj, hj6⟩ := pi_j hj5
      rw [hj6] at hm
      (try simp only [go_sem, hA, e9, e10, wa, d5]); repeat' (first | (with_reducible first | refine c_split ?_ ?_ | refine w_split ?_ ?_ | refine tw_split ?_ ?_) <;> intro hb <;> try simp only [go_sem, hb, hA, e9, e10, wa, d5] | (first | with_reducible refine d368_0_LSort7 (by with_unfolding_all rfl) (by kernel_rfl) ?_ | with_reducible refine d368_1_LSort7 (by with_unfolding_all rfl) (by kernel_rfl) ?_ | with_reducible refine d368_2_LSort7 (by with_unfolding_all rfl) (by kernel_rfl) ?_ | with_reducible refine d368_3_LSort7 (by with_unfolding_all rfl) (by kernel_rfl) ?_ | with_reducible refine d368_4_LSort7 (by with_unfolding_all rfl) (by kernel_rfl) ?_ | with_reducible refine d368_5_LSort7 (by with_unfolding_all rfl) (by kernel_rfl) ?_ | fail) <;> try simp only [go_sem, hA, e9, e10, wa, d5] | fail)
      have hA1 := hA
      have hJ1 := hJ
      have f1 := e9
      have f2 := e10
      clear hJ
      refine while_at (α := Nat) (fun u => b - u) [0, 1, 2, 3, 10] (fun u f h => f 9 = (.one (.c (.int .i64 ((u : Int))))) ∧ h = [.own g 112 5 cap (y.toList.map lotC)] ∧ i ≤ u ∧ u ≤ b ∧ scanSorted lotLt y b i = scanSorted lotLt y b u) i (GC.now ?_) ?_
      · simp only [go_sem, nc_0, true_and, hA1, f1, f2]
        exact hib
      · rintro u f h J hA ⟨e9, rfl, hP⟩ hJ
        simp only [go_sem, hA1, f1, f2] at hA
        try dsimp only at hJ
        simp only [go_sem, hA, e9, hA1, f1, f2]
        obtain ⟨hiu, hub, hsc⟩ := hP
        have hau : a < u := Nat.lt_of_lt_of_le hai hiu
        obtain ⟨w1, w2, w3, w4, w5⟩ := pi_w hau hub hb1
        have hf1 := e9
        by_cases hu : u < b
        · have du : decide ((u : Int) < (b : Int)) = true := decide_eq_true (Int.ofNat_lt.2 hu)
          obtain ⟨-, hu0, hu1⟩ := pi_n hau (Nat.ne_of_lt hu) hub
          have hun : u < n := Nat.lt_of_lt_of_le hu hb
          have hun1 : u - 1 < n := Nat.lt_trans hu1 hun
          have gu := arr_get y (hys ▸ hun)
          have gv := arr_get y (hys ▸ hun1)
          have lu : (u : Int) < (n : Int) := Int.ofNat_lt.2 hun
          have lv : ((u - 1 : Nat) : Int) < (n : Int) := Int.ofNat_lt.2 hun1
          cases hc : lotLt y[u]! y[u - 1]! with
          | false =>
            have kd : decide (lotCmp y[u]! y[u - 1]! < 0) = false := by rw [← lotCmp_lt]; exact hc
            rw [ss_go (i := u) hu hc] at hsc
            (try simp only [go_sem, hA, e9, hA1, f1, f2, du, gu, gv, lu, lv, w5, kd, w4]); repeat' (first | (with_reducible first | refine c_split ?_ ?_ | refine w_split ?_ ?_ | refine tw_split ?_ ?_) <;> intro hb <;> try simp only [go_sem, hb, hA, e9, hA1, f1, f2, du, gu, gv, lu, lv, w5, kd, w4] | (first | with_reducible refine d368_0_LSort7 (by with_unfolding_all rfl) (by kernel_rfl) ?_ | with_reducible refine d368_1_LSort7 (by with_unfolding_all rfl) (by kernel_rfl) ?_ | with_reducible refine d368_2_LSort7 (by with_unfolding_all rfl) (by kernel_rfl) ?_ | with_reducible refine d368_3_LSort7 (by with_unfolding_all rfl) (by kernel_rfl) ?_ | with_reducible refine d368_4_LSort7 (by with_unfolding_all rfl) (by kernel_rfl) ?_ | with_reducible refine d368_5_LSort7 (by with_unfolding_all rfl) (by kernel_rfl) ?_ | refine call_c (c_lotBefore _ _ _ ?_) | fail) <;> try simp only [go_sem, hA, e9, hA1, f1, f2, du, gu, gv, lu, lv, w5, kd, w4] | fail)
            refine GC.now (hJ (u + 1) _ _ (by exact pi_up hu) (by simp only [go_sem, hA, e9, hA1, f1, f2]) ⟨?_, ?_, ?_⟩) <;> try simp only [go_sem, hA, e9, hA1, f1, f2, w4]
            exact ⟨Nat.le_succ_of_le hiu, hu, hsc⟩
          | true =>
            have kd : decide (lotCmp y[u]! y[u - 1]! < 0) = true := by rw [← lotCmp_lt]; exact hc
            rw [ss_stop (i := u) (.inr hc)] at hsc
            have hne : ¬ u = b := Nat.ne_of_lt hu
            have db : ((u : Int) == (b : Int)) = false := beq_eq_false_iff_ne.2 (fun q => hne (Int.ofNat_inj.1 q))
            by_cases h50 : b - a < 50
            · have d50 : decide (((b - a : Nat) : Int) < 50) = true := decide_eq_true (by omega)
              rw [hm, pi_2 hsc hne h50] at hk
              (try simp only [go_sem, hA, e9, hA1, f1, f2, du, gu, gv, lu, lv, w5, kd, db, w1, d50]); repeat' (first | (with_reducible first | refine c_split ?_ ?_ | refine w_split ?_ ?_ | refine tw_split ?_ ?_) <;> intro hb <;> try simp only [go_sem, hb, hA, e9, hA1, f1, f2, du, gu, gv, lu, lv, w5, kd, db, w1, d50] | (first | with_reducible refine d368_0_LSort7 (by with_unfolding_all rfl) (by kernel_rfl) ?_ | with_reducible refine d368_1_LSort7 (by with_unfolding_all rfl) (by kernel_rfl) ?_ | with_reducible refine d368_2_LSort7 (by with_unfolding_all rfl) (by kernel_rfl) ?_ | with_reducible refine d368_3_LSort7 (by with_unfolding_all rfl) (by kernel_rfl) ?_ | with_reducible refine d368_4_LSort7 (by with_unfolding_all rfl) (by kernel_rfl) ?_ | with_reducible refine d368_5_LSort7 (by with_unfolding_all rfl) (by kernel_rfl) ?_ | refine call_c (c_lotBefore _ _ _ ?_) | fail) <;> try simp only [go_sem, hA, e9, hA1, f1, f2, du, gu, gv, lu, lv, w5, kd, db, w1, d50] | fail)
              refine hQ [] _ _ (GC.now ?_) <;> simp only [Tryz.f368, go_sem, List.nodup_cons, List.nodup_nil, List.mem_cons, List.not_mem_nil, or_false, not_false_eq_true, List.idxOf?_cons, List.idxOf?_nil, Option.map_none, forall_eq]
              exact hk
            · have d50 : decide (((b - a : Nat) : Int) < 50) = false := decide_eq_false (by omega)
              have hsw := arr_swp y u (u - 1)
              have hgs := fun z => get_set_any y (i := u) (j := u - 1) (hys ▸ hun1) z
              have hys1 : (swp y u (u - 1)).size = n := by rw [swp_size]; exact hys
              obtain ⟨y1, hy1⟩ : ∃ q, swp y u (u - 1) = q := ⟨_, rfl⟩
              rw [hy1] at hsw hys1
              obtain ⟨z1, hz1⟩ : ∃ q, (if u - a ≥ 2 then shiftDown lotLt (u - 1) (swp y u (u - 1)) else swp y u (u - 1)) = q := ⟨_, rfl⟩
              obtain ⟨z2, hz2⟩ : ∃ q, (if b - u ≥ 2 then shiftUp lotLt b (u + 1) z1 else z1) = q := ⟨_, rfl⟩
              rw [pi_3 hsc hne h50 hz1 hz2] at hm
              rw [hy1] at hz1
              have hup := hub
              by_cases ha2 : u - a ≥ 2
              · have da : decide ((2 : Int) ≤ ((u - a : Nat) : Int)) = true := decide_eq_true (by omega)
                rw [if_pos ha2] at hz1
                (try simp only [go_sem, hA, e9, hA1, f1, f2, du, gu, gv, lu, lv, w5, kd, db, w1, d50, hsw, hgs, w2, da]); repeat' (first | (with_reducible first | refine c_split ?_ ?_ | refine w_split ?_ ?_ | refine tw_split ?_ ?_) <;> intro hb <;> try simp only [go_sem, hb, hA, e9, hA1, f1, f2, du, gu, gv, lu, lv, w5, kd, db, w1, d50, hsw, hgs, w2, da] | (first | with_reducible refine d368_0_LSort7 (by with_unfolding_all rfl) (by kernel_rfl) ?_ | with_reducible refine d368_1_LSort7 (by with_unfolding_all rfl) (by kernel_rfl) ?_ | with_reducible refine d368_2_LSort7 (by with_unfolding_all rfl) (by kernel_rfl) ?_ | with_reducible refine d368_3_LSort7 (by with_unfolding_all rfl) (by kernel_rfl) ?_ | with_reducible refine d368_4_LSort7 (by with_unfolding_all rfl) (by kernel_rfl) ?_ | with_reducible refine d368_5_LSort7 (by with_unfolding_all rfl) (by kernel_rfl) ?_ | refine call_c (c_lotBefore _ _ _ ?_) | fail) <;> try simp only [go_sem, hA, e9, hA1, f1, f2, du, gu, gv, lu, lv, w5, kd, db, w1, d50, hsw, hgs, w2, da] | fail)
                have hA8 := hA
                clear hJ
                refine while_at (α := Nat × Array Lot) (fun ⟨v, z⟩ => v) [0, 1, 2, 3, 9, 10] (fun ⟨v, z⟩ f h => f 11 = (.one (.c (.int .i64 ((v : Int))))) ∧ h = [.own g 112 5 cap (z.toList.map lotC)] ∧ v < u ∧ z.size = n ∧ shiftDown lotLt (u - 1) y1 = shiftDown lotLt v z) (u - 1, y1) (GC.now ?_) ?_
                · simp only [go_sem, nc_0, true_and, hA8, hA1, hf1, f2, w5]
                  exact ⟨hu1, hys1⟩
                · rintro ⟨v, z⟩ f h J hA ⟨e11, rfl, hP⟩ hJ
                  simp only [go_sem, hA8, hA1, hf1, f2, w5] at hA
                  try dsimp only at hJ
                  simp only [go_sem, hA, e11, hA8, hA1, hf1, f2, w5]
                  obtain ⟨hvu, hzs0, hsd⟩ := hP
                  by_cases hv : 1 ≤ v
                  · have dv : decide ((1 : Int) ≤ (v : Int)) = true := decide_eq_true (by omega)
                    have hvn : v < n := Nat.lt_trans hvu hun
                    have hv1 : v - 1 < n := Nat.lt_of_le_of_lt (Nat.sub_le _ _) hvn
                    have gv2 := arr_get z (hzs0 ▸ hvn)
                    have gv3 := arr_get z (hzs0 ▸ hv1)
                    have lv2 : (v : Int) < (n : Int) := Int.ofNat_lt.2 hvn
                    have lv3 : ((v - 1 : Nat) : Int) < (n : Int) := Int.ofNat_lt.2 hv1
                    have x1 := pt_wj hv hvn hn
                    cases hc2 : lotLt z[v]! z[v - 1]! with
                    | true =>
                      have kd2 : decide (lotCmp z[v]! z[v - 1]! < 0) = true := by rw [← lotCmp_lt]; exact hc2
                      rw [dn_go (v := v) hv hc2] at hsd
                      have hsw2 := arr_swp z v (v - 1)
                      have hgs2 := fun q => get_set_any z (i := v) (j := v - 1) (hzs0 ▸ hv1) q
                      (try simp only [go_sem, hA, e11, hA8, hA1, hf1, f2, w5, dv, gv2, gv3, lv2, lv3, x1, kd2, hsw2, hgs2]); repeat' (first | (with_reducible first | refine c_split ?_ ?_ | refine w_split ?_ ?_ | refine tw_split ?_ ?_) <;> intro hb <;> try simp only [go_sem, hb, hA, e11, hA8, hA1, hf1, f2, w5, dv, gv2, gv3, lv2, lv3, x1, kd2, hsw2, hgs2] | (first | with_reducible refine d368_0_LSort7 (by with_unfolding_all rfl) (by kernel_rfl) ?_ | with_reducible refine d368_1_LSort7 (by with_unfolding_all rfl) (by kernel_rfl) ?_ | with_reducible refine d368_2_LSort7 (by with_unfolding_all rfl) (by kernel_rfl) ?_ | with_reducible refine d368_3_LSort7 (by with_unfolding_all rfl) (by kernel_rfl) ?_ | with_reducible refine d368_4_LSort7 (by with_unfolding_all rfl) (by kernel_rfl) ?_ | with_reducible refine d368_5_LSort7 (by with_unfolding_all rfl) (by kernel_rfl) ?_ | refine call_c (c_lotBefore _ _ _ ?_) | fail) <;> try simp only [go_sem, hA, e11, hA8, hA1, hf1, f2, w5, dv, gv2, gv3, lv2, lv3, x1, kd2, hsw2, hgs2] | fail)
                      refine GC.now (hJ (v - 1, swp z v (v - 1)) _ _ (by exact Nat.sub_lt hv Nat.zero_lt_one) (by simp only [go_sem, hA, e11, hA8, hA1, hf1, f2, w5]) ⟨?_, ?_, ?_⟩) <;> try simp only [go_sem, hA, e11, hA8, hA1, hf1, f2, w5, x1, hsw2]
                      exact ⟨Nat.lt_of_le_of_lt (Nat.sub_le _ _) hvu, by rw [swp_size]; exact hzs0, hsd⟩
                    | false =>
                      have kd2 : decide (lotCmp z[v]! z[v - 1]! < 0) = false := by rw [← lotCmp_lt]; exact hc2
                      rw [dn_stop (v := v) hc2] at hsd
                      rw [hsd] at hz1
                      rw [← hz1] at hz2
                      by_cases hb2 : b - u ≥ 2
                      · have d2 : decide ((2 : Int) ≤ ((b - u : Nat) : Int)) = true := decide_eq_true (by omega)
                        rw [if_pos hb2] at hz2
                        (try simp only [go_sem, hA, e11, hA8, hA1, hf1, f2, w5, dv, gv2, gv3, lv2, lv3, x1, kd2, w3, d2, w4]); repeat' (first | (with_reducible first | refine c_split ?_ ?_ | refine w_split ?_ ?_ | refine tw_split ?_ ?_) <;> intro hb <;> try simp only [go_sem, hb, hA, e11, hA8, hA1, hf1, f2, w5, dv, gv2, gv3, lv2, lv3, x1, kd2, w3, d2, w4] | (first | with_reducible refine d368_0_LSort7 (by with_unfolding_all rfl) (by kernel_rfl) ?_ | with_reducible refine d368_1_LSort7 (by with_unfolding_all rfl) (by kernel_rfl) ?_ | with_reducible refine d368_2_LSort7 (by with_unfolding_all rfl) (by kernel_rfl) ?_ | with_reducible refine d368_3_LSort7 (by with_unfolding_all rfl) (by kernel_rfl) ?_ | with_reducible refine d368_4_LSort7 (by with_unfolding_all rfl) (by kernel_rfl) ?_ | with_reducible refine d368_5_LSort7 (by with_unfolding_all rfl) (by kernel_rfl) ?_ | refine call_c (c_lotBefore _ _ _ ?_) | fail) <;> try simp only [go_sem, hA, e11, hA8, hA1, hf1, f2, w5, dv, gv2, gv3, lv2, lv3, x1, kd2, w3, d2, w4] | fail)
                        have hA9 := hA
                        try clear hJ
                        refine while_at (α := Nat × Array Lot) (fun ⟨v, zz⟩ => b - v) [0, 1, 2, 3, 9, 10] (fun ⟨v, zz⟩ f h => f 12 = (.one (.c (.int .i64 ((v : Int))))) ∧ h = [.own g 112 5 cap (zz.toList.map lotC)] ∧ u < v ∧ zz.size = n ∧ shiftUp lotLt b (u + 1) z = shiftUp lotLt b v zz) (u + 1, z) (GC.now ?_) ?_
                        · simp only [go_sem, nc_0, true_and, hA9, hA1, hf1, f2, w4]
                          exact ⟨Nat.lt_succ_self u, hzs0⟩
                        · rintro ⟨v, zz⟩ f h J hA ⟨e12, rfl, hP⟩ hJ
                          simp only [go_sem, hA9, hA1, hf1, f2, w4] at hA
                          try dsimp only at hJ
                          simp only [go_sem, hA, e12, hA9, hA1, hf1, f2, w4]
                          obtain ⟨huv, hzs, hsh⟩ := hP
                          by_cases hv : v < b
                          · have dv : decide ((v : Int) < (b : Int)) = true := decide_eq_true (Int.ofNat_lt.2 hv)
                            have hv0 : 0 < v := Nat.lt_of_le_of_lt (Nat.zero_le _) huv
                            have hvn : v < n := Nat.lt_of_lt_of_le hv hb
                            have hv1 : v - 1 < n := Nat.lt_of_le_of_lt (Nat.sub_le _ _) hvn
                            have gv2 := arr_get zz (hzs ▸ hvn)
                            have gv3 := arr_get zz (hzs ▸ hv1)
                            have lv2 : (v : Int) < (n : Int) := Int.ofNat_lt.2 hvn
                            have lv3 : ((v - 1 : Nat) : Int) < (n : Int) := Int.ofNat_lt.2 hv1
                            have x1 := pt_wj hv0 hvn hn
                            have x2 := pt_wi hvn hn
                            cases hc2 : lotLt zz[v]! zz[v - 1]! with
                            | true =>
                              have kd2 : decide (lotCmp zz[v]! zz[v - 1]! < 0) = true := by rw [← lotCmp_lt]; exact hc2
                              rw [up_go (v := v) hv hc2] at hsh
                              have hsw2 := arr_swp zz v (v - 1)
                              have hgs2 := fun q => get_set_any zz (i := v) (j := v - 1) (hzs ▸ hv1) q
                              (try simp only [go_sem, hA, e12, hA9, hA1, hf1, f2, w4, dv, gv2, gv3, lv2, lv3, x1, x2, kd2, hsw2, hgs2]); repeat' (first | (with_reducible first | refine c_split ?_ ?_ | refine w_split ?_ ?_ | refine tw_split ?_ ?_) <;> intro hb <;> try simp only [go_sem, hb, hA, e12, hA9, hA1, hf1, f2, w4, dv, gv2, gv3, lv2, lv3, x1, x2, kd2, hsw2, hgs2] | (first | with_reducible refine d368_0_LSort7 (by with_unfolding_all rfl) (by kernel_rfl) ?_ | with_reducible refine d368_1_LSort7 (by with_unfolding_all rfl) (by kernel_rfl) ?_ | with_reducible refine d368_2_LSort7 (by with_unfolding_all rfl) (by kernel_rfl) ?_ | with_reducible refine d368_3_LSort7 (by with_unfolding_all rfl) (by kernel_rfl) ?_ | with_reducible refine d368_4_LSort7 (by with_unfolding_all rfl) (by kernel_rfl) ?_ | with_reducible refine d368_5_LSort7 (by with_unfolding_all rfl) (by kernel_rfl) ?_ | refine call_c (c_lotBefore _ _ _ ?_) | fail) <;> try simp only [go_sem, hA, e12, hA9, hA1, hf1, f2, w4, dv, gv2, gv3, lv2, lv3, x1, x2, kd2, hsw2, hgs2] | fail)
                              refine GC.now (hJ (v + 1, swp zz v (v - 1)) _ _ (by exact pi_up hv) (by simp only [go_sem, hA, e12, hA9, hA1, hf1, f2, w4]) ⟨?_, ?_, ?_⟩) <;> try simp only [go_sem, hA, e12, hA9, hA1, hf1, f2, w4, x2, hsw2]
                              exact ⟨Nat.lt_succ_of_lt huv, by rw [swp_size]; exact hzs, hsh⟩
                            | false =>
                              have kd2 : decide (lotCmp zz[v]! zz[v - 1]! < 0) = false := by rw [← lotCmp_lt]; exact hc2
                              rw [up_stop (v := v) hc2] at hsh
                              rw [← hz2, hsh] at hm
                              (try simp only [go_sem, hA, e12, hA9, hA1, hf1, f2, w4, dv, gv2, gv3, lv2, lv3, x1, x2, kd2, wj]); repeat' (first | (with_reducible first | refine c_split ?_ ?_ | refine w_split ?_ ?_ | refine tw_split ?_ ?_) <;> intro hb <;> try simp only [go_sem, hb, hA, e12, hA9, hA1, hf1, f2, w4, dv, gv2, gv3, lv2, lv3, x1, x2, kd2, wj] | (first | with_reducible refine d368_0_LSort7 (by with_unfolding_all rfl) (by kernel_rfl) ?_ | with_reducible refine d368_1_LSort7 (by with_unfolding_all rfl) (by kernel_rfl) ?_ | with_reducible refine d368_2_LSort7 (by with_unfolding_all rfl) (by kernel_rfl) ?_ | with_reducible refine d368_3_LSort7 (by with_unfolding_all rfl) (by kernel_rfl) ?_ | with_reducible refine d368_4_LSort7 (by with_unfolding_all rfl) (by kernel_rfl) ?_ | with_reducible refine d368_5_LSort7 (by with_unfolding_all rfl) (by kernel_rfl) ?_ | refine call_c (c_lotBefore _ _ _ ?_) | fail) <;> try simp only [go_sem, hA, e12, hA9, hA1, hf1, f2, w4, dv, gv2, gv3, lv2, lv3, x1, x2, kd2, wj] | fail)
                              refine GC.now (hJ1 (jj + 1, u, zz) _ _ (pi_5 hj5) (by simp only [go_sem, hA, e12, hA9, hA1, hf1, f2, w4, hA1]) ⟨?_, ?_, ?_, ?_⟩) <;> try simp only [go_sem, hA, e12, hA9, hA1, hf1, f2, w4, hA1, hf1, wj]
                              exact ⟨hau, hup, hzs, hm⟩
                          · have dv : decide ((v : Int) < (b : Int)) = false := decide_eq_false (fun q => hv (Int.ofNat_lt.1 q))
                            rw [up_end (v := v) hv] at hsh
                            rw [← hz2, hsh] at hm
                            (try simp only [go_sem, hA, e12, hA9, hA1, hf1, f2, w4, dv, wj]); repeat' (first | (with_reducible first | refine c_split ?_ ?_ | refine w_split ?_ ?_ | refine tw_split ?_ ?_) <;> intro hb <;> try simp only [go_sem, hb, hA, e12, hA9, hA1, hf1, f2, w4, dv, wj] | (first | with_reducible refine d368_0_LSort7 (by with_unfolding_all rfl) (by kernel_rfl) ?_ | with_reducible refine d368_1_LSort7 (by with_unfolding_all rfl) (by kernel_rfl) ?_ | with_reducible refine d368_2_LSort7 (by with_unfolding_all rfl) (by kernel_rfl) ?_ | with_reducible refine d368_3_LSort7 (by with_unfolding_all rfl) (by kernel_rfl) ?_ | with_reducible refine d368_4_LSort7 (by with_unfolding_all rfl) (by kernel_rfl) ?_ | with_reducible refine d368_5_LSort7 (by with_unfolding_all rfl) (by kernel_rfl) ?_ | fail) <;> try simp only [go_sem, hA, e12, hA9, hA1, hf1, f2, w4, dv, wj] | fail)
                            refine GC.now (hJ1 (jj + 1, u, zz) _ _ (pi_5 hj5) (by simp only [go_sem, hA, e12, hA9, hA1, hf1, f2, w4, hA1]) ⟨?_, ?_, ?_, ?_⟩) <;> try simp only [go_sem, hA, e12, hA9, hA1, hf1, f2, w4, hA1, hf1, wj]
                            exact ⟨hau, hup, hzs, hm⟩
                      · have d2 : decide ((2 : Int) ≤ ((b - u : Nat) : Int)) = false := decide_eq_false (by omega)
                        rw [if_neg hb2] at hz2
                        rw [← hz2] at hm
                        (try simp only [go_sem, hA, e11, hA8, hA1, hf1, f2, w5, dv, gv2, gv3, lv2, lv3, x1, kd2, w3, d2, wj]); repeat' (first | (with_reducible first | refine c_split ?_ ?_ | refine w_split ?_ ?_ | refine tw_split ?_ ?_) <;> intro hb <;> try simp only [go_sem, hb, hA, e11, hA8, hA1, hf1, f2, w5, dv, gv2, gv3, lv2, lv3, x1, kd2, w3, d2, wj] | (first | with_reducible refine d368_0_LSort7 (by with_unfolding_all rfl) (by kernel_rfl) ?_ | with_reducible refine d368_1_LSort7 (by with_unfolding_all rfl) (by kernel_rfl) ?_ | with_reducible refine d368_2_LSort7 (by with_unfolding_all rfl) (by kernel_rfl) ?_ | with_reducible refine d368_3_LSort7 (by with_unfolding_all rfl) (by kernel_rfl) ?_ | with_reducible refine d368_4_LSort7 (by with_unfolding_all rfl) (by kernel_rfl) ?_ | with_reducible refine d368_5_LSort7 (by with_unfolding_all rfl) (by kernel_rfl) ?_ | refine call_c (c_lotBefore _ _ _ ?_) | fail) <;> try simp only [go_sem, hA, e11, hA8, hA1, hf1, f2, w5, dv, gv2, gv3, lv2, lv3, x1, kd2, w3, d2, wj] | fail)
                        refine GC.now (hJ1 (jj + 1, u, z) _ _ (pi_5 hj5) (by simp only [go_sem, hA, e11, hA8, hA1, hf1, f2, w5, hA1]) ⟨?_, ?_, ?_, ?_⟩) <;> try simp only [go_sem, hA, e11, hA8, hA1, hf1, f2, w5, hA1, hf1, wj]
                        exact ⟨hau, hup, hzs0, hm⟩
                  · have dv : decide ((1 : Int) ≤ (v : Int)) = false := decide_eq_false (by omega)
                    obtain rfl : v = 0 := by omega
                    rw [dn_0] at hsd
                    rw [hsd] at hz1
                    rw [← hz1] at hz2
                    by_cases hb2 : b - u ≥ 2
                    · have d2 : decide ((2 : Int) ≤ ((b - u : Nat) : Int)) = true := decide_eq_true (by omega)
                      rw [if_pos hb2] at hz2
                      (try simp only [go_sem, hA, e11, hA8, hA1, hf1, f2, w5, dv, w3, d2, w4]); repeat' (first | (with_reducible first | refine c_split ?_ ?_ | refine w_split ?_ ?_ | refine tw_split ?_ ?_) <;> intro hb <;> try simp only [go_sem, hb, hA, e11, hA8, hA1, hf1, f2, w5, dv, w3, d2, w4] | (first | with_reducible refine d368_0_LSort7 (by with_unfolding_all rfl) (by kernel_rfl) ?_ | with_reducible refine d368_1_LSort7 (by with_unfolding_all rfl) (by kernel_rfl) ?_ | with_reducible refine d368_2_LSort7 (by with_unfolding_all rfl) (by kernel_rfl) ?_ | with_reducible refine d368_3_LSort7 (by with_unfolding_all rfl) (by kernel_rfl) ?_ | with_reducible refine d368_4_LSort7 (by with_unfolding_all rfl) (by kernel_rfl) ?_ | with_reducible refine d368_5_LSort7 (by with_unfolding_all rfl) (by kernel_rfl) ?_ | fail) <;> try simp only [go_sem, hA, e11, hA8, hA1, hf1, f2, w5, dv, w3, d2, w4] | fail)
                      have hA9 := hA
                      try clear hJ
                      refine while_at (α := Nat × Array Lot) (fun ⟨v, zz⟩ => b - v) [0, 1, 2, 3, 9, 10] (fun ⟨v, zz⟩ f h => f 12 = (.one (.c (.int .i64 ((v : Int))))) ∧ h = [.own g 112 5 cap (zz.toList.map lotC)] ∧ u < v ∧ zz.size = n ∧ shiftUp lotLt b (u + 1) z = shiftUp lotLt b v zz) (u + 1, z) (GC.now ?_) ?_
                      · simp only [go_sem, nc_0, true_and, hA9, hA1, hf1, f2, w4]
                        exact ⟨Nat.lt_succ_self u, hzs0⟩
                      · rintro ⟨v, zz⟩ f h J hA ⟨e12, rfl, hP⟩ hJ
                        simp only [go_sem, hA9, hA1, hf1, f2, w4] at hA
                        try dsimp only at hJ
                        simp only [go_sem, hA, e12, hA9, hA1, hf1, f2, w4]
                        obtain ⟨huv, hzs, hsh⟩ := hP
                        by_cases hv : v < b
                        · have dv : decide ((v : Int) < (b : Int)) = true := decide_eq_true (Int.ofNat_lt.2 hv)
                          have hv0 : 0 < v := Nat.lt_of_le_of_lt (Nat.zero_le _) huv
                          have hvn : v < n := Nat.lt_of_lt_of_le hv hb
                          have hv1 : v - 1 < n := Nat.lt_of_le_of_lt (Nat.sub_le _ _) hvn
                          have gv2 := arr_get zz (hzs ▸ hvn)
                          have gv3 := arr_get zz (hzs ▸ hv1)
                          have lv2 : (v : Int) < (n : Int) := Int.ofNat_lt.2 hvn
                          have lv3 : ((v - 1 : Nat) : Int) < (n : Int) := Int.ofNat_lt.2 hv1
                          have x1 := pt_wj hv0 hvn hn
                          have x2 := pt_wi hvn hn
                          cases hc2 : lotLt zz[v]! zz[v - 1]! with
                          | true =>
                            have kd2 : decide (lotCmp zz[v]! zz[v - 1]! < 0) = true := by rw [← lotCmp_lt]; exact hc2
                            rw [up_go (v := v) hv hc2] at hsh
                            have hsw2 := arr_swp zz v (v - 1)
                            have hgs2 := fun q => get_set_any zz (i := v) (j := v - 1) (hzs ▸ hv1) q
                            (try simp only [go_sem, hA, e12, hA9, hA1, hf1, f2, w4, dv, gv2, gv3, lv2, lv3, x1, x2, kd2, hsw2, hgs2]); repeat' (first | (with_reducible first | refine c_split ?_ ?_ | refine w_split ?_ ?_ | refine tw_split ?_ ?_) <;> intro hb <;> try simp only [go_sem, hb, hA, e12, hA9, hA1, hf1, f2, w4, dv, gv2, gv3, lv2, lv3, x1, x2, kd2, hsw2, hgs2] | (first | with_reducible refine d368_0_LSort7 (by with_unfolding_all rfl) (by kernel_rfl) ?_ | with_reducible refine d368_1_LSort7 (by with_unfolding_all rfl) (by kernel_rfl) ?_ | with_reducible refine d368_2_LSort7 (by with_unfolding_all rfl) (by kernel_rfl) ?_ | with_reducible refine d368_3_LSort7 (by with_unfolding_all rfl) (by kernel_rfl) ?_ | with_reducible refine d368_4_LSort7 (by with_unfolding_all rfl) (by kernel_rfl) ?_ | with_reducible refine d368_5_LSort7 (by with_unfolding_all rfl) (by kernel_rfl) ?_ | refine call_c (c_lotBefore _ _ _ ?_) | fail) <;> try simp only [go_sem, hA, e12, hA9, hA1, hf1, f2, w4, dv, gv2, gv3, lv2, lv3, x1, x2, kd2, hsw2, hgs2] | fail)
                            refine GC.now (hJ (v + 1, swp zz v (v - 1)) _ _ (by exact pi_up hv) (by simp only [go_sem, hA, e12, hA9, hA1, hf1, f2, w4]) ⟨?_, ?_, ?_⟩) <;> try simp only [go_sem, hA, e12, hA9, hA1, hf1, f2, w4, x2, hsw2]
                            exact ⟨Nat.lt_succ_of_lt huv, by rw [swp_size]; exact hzs, hsh⟩
                          | false =>
                            have kd2 : decide (lotCmp zz[v]! zz[v - 1]! < 0) = false := by rw [← lotCmp_lt]; exact hc2
                            rw [up_stop (v := v) hc2] at hsh
                            rw [← hz2, hsh] at hm
                            (try simp only [go_sem, hA, e12, hA9, hA1, hf1, f2, w4, dv, gv2, gv3, lv2, lv3, x1, x2, kd2, wj]); repeat' (first | (with_reducible first | refine c_split ?_ ?_ | refine w_split ?_ ?_ | refine tw_split ?_ ?_) <;> intro hb <;> try simp only [go_sem, hb, hA, e12, hA9, hA1, hf1, f2, w4, dv, gv2, gv3, lv2, lv3, x1, x2, kd2, wj] | (first | with_reducible refine d368_0_LSort7 (by with_unfolding_all rfl) (by kernel_rfl) ?_ | with_reducible refine d368_1_LSort7 (by with_unfolding_all rfl) (by kernel_rfl) ?_ | with_reducible refine d368_2_LSort7 (by with_unfolding_all rfl) (by kernel_rfl) ?_ | with_reducible refine d368_3_LSort7 (by with_unfolding_all rfl) (by kernel_rfl) ?_ | with_reducible refine d368_4_LSort7 (by with_unfolding_all rfl) (by kernel_rfl) ?_ | with_reducible refine d368_5_LSort7 (by with_unfolding_all rfl) (by kernel_rfl) ?_ | refine call_c (c_lotBefore _ _ _ ?_) | fail) <;> try simp only [go_sem, hA, e12, hA9, hA1, hf1, f2, w4, dv, gv2, gv3, lv2, lv3, x1, x2, kd2, wj] | fail)
                            refine GC.now (hJ1 (jj + 1, u, zz) _ _ (pi_5 hj5) (by simp only [go_sem, hA, e12, hA9, hA1, hf1, f2, w4, hA1]) ⟨?_, ?_, ?_, ?_⟩) <;> try simp only [go_sem, hA, e12, hA9, hA1, hf1, f2, w4, hA1, hf1, wj]
                            exact ⟨hau, hup, hzs, hm⟩
                        · have dv : decide ((v : Int) < (b : Int)) = false := decide_eq_false (fun q => hv (Int.ofNat_lt.1 q))
                          rw [up_end (v := v) hv] at hsh
                          rw [← hz2, hsh] at hm
                          (try simp only [go_sem, hA, e12, hA9, hA1, hf1, f2, w4, dv, wj]); repeat' (first | (with_reducible first | refine c_split ?_ ?_ | refine w_split ?_ ?_ | refine tw_split ?_ ?_) <;> intro hb <;> try simp only [go_sem, hb, hA, e12, hA9, hA1, hf1, f2, w4, dv, wj] | (first | with_reducible refine d368_0_LSort7 (by with_unfolding_all rfl) (by kernel_rfl) ?_ | with_reducible refine d368_1_LSort7 (by with_unfolding_all rfl) (by kernel_rfl) ?_ | with_reducible refine d368_2_LSort7 (by with_unfolding_all rfl) (by kernel_rfl) ?_ | with_reducible refine d368_3_LSort7 (by with_unfolding_all rfl) (by kernel_rfl) ?_ | with_reducible refine d368_4_LSort7 (by with_unfolding_all rfl) (by kernel_rfl) ?_ | with_reducible refine d368_5_LSort7 (by with_unfolding_all rfl) (by kernel_rfl) ?_ | fail) <;> try simp only [go_sem, hA, e12, hA9, hA1, hf1, f2, w4, dv, wj] | fail)
                          refine GC.now (hJ1 (jj + 1, u, zz) _ _ (pi_5 hj5) (by simp only [go_sem, hA, e12, hA9, hA1, hf1, f2, w4, hA1]) ⟨?_, ?_, ?_, ?_⟩) <;> try simp only [go_sem, hA, e12, hA9, hA1, hf1, f2, w4, hA1, hf1, wj]
                          exact ⟨hau, hup, hzs, hm⟩
                    · have d2 : decide ((2 : Int) ≤ ((b - u : Nat) : Int)) = false := decide_eq_false (by omega)
                      rw [if_neg hb2] at hz2
                      rw [← hz2] at hm
                      (try simp only [go_sem, hA, e11, hA8, hA1, hf1, f2, w5, dv, w3, d2, wj]); repeat' (first | (with_reducible first | refine c_split ?_ ?_ | refine w_split ?_ ?_ | refine tw_split ?_ ?_) <;> intro hb <;> try simp only [go_sem, hb, hA, e11, hA8, hA1, hf1, f2, w5, dv, w3, d2, wj] | (first | with_reducible refine d368_0_LSort7 (by with_unfolding_all rfl) (by kernel_rfl) ?_ | with_reducible refine d368_1_LSort7 (by with_unfolding_all rfl) (by kernel_rfl) ?_ | with_reducible refine d368_2_LSort7 (by with_unfolding_all rfl) (by kernel_rfl) ?_ | with_reducible refine d368_3_LSort7 (by with_unfolding_all rfl) (by kernel_rfl) ?_ | with_reducible refine d368_4_LSort7 (by with_unfolding_all rfl) (by kernel_rfl) ?_ | with_reducible refine d368_5_LSort7 (by with_unfolding_all rfl) (by kernel_rfl) ?_ | fail) <;> try simp only [go_sem, hA, e11, hA8, hA1, hf1, f2, w5, dv, w3, d2, wj] | fail)
                      refine GC.now (hJ1 (jj + 1, u, z) _ _ (pi_5 hj5) (by simp only [go_sem, hA, e11, hA8, hA1, hf1, f2, w5, hA1]) ⟨?_, ?_, ?_, ?_⟩) <;> try simp only [go_sem, hA, e11, hA8, hA1, hf1, f2, w5, hA1, hf1, wj]
                      exact ⟨hau, hup, hzs0, hm⟩
              · have da : decide ((2 : Int) ≤ ((u - a : Nat) : Int)) = false := decide_eq_false (by omega)
                rw [if_neg ha2] at hz1
                rw [← hz1] at hz2
                by_cases hb2 : b - u ≥ 2
                · have d2 : decide ((2 : Int) ≤ ((b - u : Nat) : Int)) = true := decide_eq_true (by omega)
                  rw [if_pos hb2] at hz2
                  (try simp only [go_sem, hA, e9, hA1, f1, f2, du, gu, gv, lu, lv, w5, kd, db, w1, d50, hsw, hgs, w2, da, w3, d2, w4]); repeat' (first | (with_reducible first | refine c_split ?_ ?_ | refine w_split ?_ ?_ | refine tw_split ?_ ?_) <;> intro hb <;> try simp only [go_sem, hb, hA, e9, hA1, f1, f2, du, gu, gv, lu, lv, w5, kd, db, w1, d50, hsw, hgs, w2, da, w3, d2, w4] | (first | with_reducible refine d368_0_LSort7 (by with_unfolding_all rfl) (by kernel_rfl) ?_ | with_reducible refine d368_1_LSort7 (by with_unfolding_all rfl) (by kernel_rfl) ?_ | with_reducible refine d368_2_LSort7 (by with_unfolding_all rfl) (by kernel_rfl) ?_ | with_reducible refine d368_3_LSort7 (by with_unfolding_all rfl) (by kernel_rfl) ?_ | with_reducible refine d368_4_LSort7 (by with_unfolding_all rfl) (by kernel_rfl) ?_ | with_reducible refine d368_5_LSort7 (by with_unfolding_all rfl) (by kernel_rfl) ?_ | refine call_c (c_lotBefore _ _ _ ?_) | fail) <;> try simp only [go_sem, hA, e9, hA1, f1, f2, du, gu, gv, lu, lv, w5, kd, db, w1, d50, hsw, hgs, w2, da, w3, d2, w4] | fail)
                  have hA9 := hA
                  try clear hJ
                  refine while_at (α := Nat × Array Lot) (fun ⟨v, zz⟩ => b - v) [0, 1, 2, 3, 9, 10] (fun ⟨v, zz⟩ f h => f 12 = (.one (.c (.int .i64 ((v : Int))))) ∧ h = [.own g 112 5 cap (zz.toList.map lotC)] ∧ u < v ∧ zz.size = n ∧ shiftUp lotLt b (u + 1) y1 = shiftUp lotLt b v zz) (u + 1, y1) (GC.now ?_) ?_
                  · simp only [go_sem, nc_0, true_and, hA9, hA1, hf1, f2, w4]
                    exact ⟨Nat.lt_succ_self u, hys1⟩
                  · rintro ⟨v, zz⟩ f h J hA ⟨e12, rfl, hP⟩ hJ
                    simp only [go_sem, hA9, hA1, hf1, f2, w4] at hA
                    try dsimp only at hJ
                    simp only [go_sem, hA, e12, hA9, hA1, hf1, f2, w4]
                    obtain ⟨huv, hzs, hsh⟩ := hP
                    by_cases hv : v < b
                    · have dv : decide ((v : Int) < (b : Int)) = true := decide_eq_true (Int.ofNat_lt.2 hv)
                      have hv0 : 0 < v := Nat.lt_of_le_of_lt (Nat.zero_le _) huv
                      have hvn : v < n := Nat.lt_of_lt_of_le hv hb
                      have hv1 : v - 1 < n := Nat.lt_of_le_of_lt (Nat.sub_le _ _) hvn
                      have gv2 := arr_get zz (hzs ▸ hvn)
                      have gv3 := arr_get zz (hzs ▸ hv1)
                      have lv2 : (v : Int) < (n : Int) := Int.ofNat_lt.2 hvn
                      have lv3 : ((v - 1 : Nat) : Int) < (n : Int) := Int.ofNat_lt.2 hv1
                      have x1 := pt_wj hv0 hvn hn
                      have x2 := pt_wi hvn hn
                      cases hc2 : lotLt zz[v]! zz[v - 1]! with
                      | true =>
                        have kd2 : decide (lotCmp zz[v]! zz[v - 1]! < 0) = true := by rw [← lotCmp_lt]; exact hc2
                        rw [up_go (v := v) hv hc2] at hsh
                        have hsw2 := arr_swp zz v (v - 1)
                        have hgs2 := fun q => get_set_any zz (i := v) (j := v - 1) (hzs ▸ hv1) q
                        (try simp only [go_sem, hA, e12, hA9, hA1, hf1, f2, w4, dv, gv2, gv3, lv2, lv3, x1, x2, kd2, hsw2, hgs2]); repeat' (first | (with_reducible first | refine c_split ?_ ?_ | refine w_split ?_ ?_ | refine tw_split ?_ ?_) <;> intro hb <;> try simp only [go_sem, hb, hA, e12, hA9, hA1, hf1, f2, w4, dv, gv2, gv3, lv2, lv3, x1, x2, kd2, hsw2, hgs2] | (first | with_reducible refine d368_0_LSort7 (by with_unfolding_all rfl) (by kernel_rfl) ?_ | with_reducible refine d368_1_LSort7 (by with_unfolding_all rfl) (by kernel_rfl) ?_ | with_reducible refine d368_2_LSort7 (by with_unfolding_all rfl) (by kernel_rfl) ?_ | with_reducible refine d368_3_LSort7 (by with_unfolding_all rfl) (by kernel_rfl) ?_ | with_reducible refine d368_4_LSort7 (by with_unfolding_all rfl) (by kernel_rfl) ?_ | with_reducible refine d368_5_LSort7 (by with_unfolding_all rfl) (by kernel_rfl) ?_ | refine call_c (c_lotBefore _ _ _ ?_) | fail) <;> try simp only [go_sem, hA, e12, hA9, hA1, hf1, f2, w4, dv, gv2, gv3, lv2, lv3, x1, x2, kd2, hsw2, hgs2] | fail)
                        refine GC.now (hJ (v + 1, swp zz v (v - 1)) _ _ (by exact pi_up hv) (by simp only [go_sem, hA, e12, hA9, hA1, hf1, f2, w4]) ⟨?_, ?_, ?_⟩) <;> try simp only [go_sem, hA, e12, hA9, hA1, hf1, f2, w4, x2, hsw2]
                        exact ⟨Nat.lt_succ_of_lt huv, by rw [swp_size]; exact hzs, hsh⟩
                      | false =>
                        have kd2 : decide (lotCmp zz[v]! zz[v - 1]! < 0) = false := by rw [← lotCmp_lt]; exact hc2
                        rw [up_stop (v := v) hc2] at hsh
                        rw [← hz2, hsh] at hm
                        (try simp only [go_sem, hA, e12, hA9, hA1, hf1, f2, w4, dv, gv2, gv3, lv2, lv3, x1, x2, kd2, wj]); repeat' (first | (with_reducible first | refine c_split ?_ ?_ | refine w_split ?_ ?_ | refine tw_split ?_ ?_) <;> intro hb <;> try simp only [go_sem, hb, hA, e12, hA9, hA1, hf1, f2, w4, dv, gv2, gv3, lv2, lv3, x1, x2, kd2, wj] | (first | with_reducible refine d368_0_LSort7 (by with_unfolding_all rfl) (by kernel_rfl) ?_ | with_reducible refine d368_1_LSort7 (by with_unfolding_all rfl) (by kernel_rfl) ?_ | with_reducible refine d368_2_LSort7 (by with_unfolding_all rfl) (by kernel_rfl) ?_ | with_reducible refine d368_3_LSort7 (by with_unfolding_all rfl) (by kernel_rfl) ?_ | with_reducible refine d368_4_LSort7 (by with_unfolding_all rfl) (by kernel_rfl) ?_ | with_reducible refine d368_5_LSort7 (by with_unfolding_all rfl) (by kernel_rfl) ?_ | refine call_c (c_lotBefore _ _ _ ?_) | fail) <;> try simp only [go_sem, hA, e12, hA9, hA1, hf1, f2, w4, dv, gv2, gv3, lv2, lv3, x1, x2, kd2, wj] | fail)
                        refine GC.now (hJ1 (jj + 1, u, zz) _ _ (pi_5 hj5) (by simp only [go_sem, hA, e12, hA9, hA1, hf1, f2, w4, hA1]) ⟨?_, ?_, ?_, ?_⟩) <;> try simp only [go_sem, hA, e12, hA9, hA1, hf1, f2, w4, hA1, hf1, wj]
                        exact ⟨hau, hup, hzs, hm⟩
                    · have dv : decide ((v : Int) < (b : Int)) = false := decide_eq_false (fun q => hv (Int.ofNat_lt.1 q))
                      rw [up_end (v := v) hv] at hsh
                      rw [← hz2, hsh] at hm
                      (try simp only [go_sem, hA, e12, hA9, hA1, hf1, f2, w4, dv, wj]); repeat' (first | (with_reducible first | refine c_split ?_ ?_ | refine w_split ?_ ?_ | refine tw_split ?_ ?_) <;> intro hb <;> try simp only [go_sem, hb, hA, e12, hA9, hA1, hf1, f2, w4, dv, wj] | (first | with_reducible refine d368_0_LSort7 (by with_unfolding_all rfl) (by kernel_rfl) ?_ | with_reducible refine d368_1_LSort7 (by with_unfolding_all rfl) (by kernel_rfl) ?_ | with_reducible refine d368_2_LSort7 (by with_unfolding_all rfl) (by kernel_rfl) ?_ | with_reducible refine d368_3_LSort7 (by with_unfolding_all rfl) (by kernel_rfl) ?_ | with_reducible refine d368_4_LSort7 (by with_unfolding_all rfl) (by kernel_rfl) ?_ | with_reducible refine d368_5_LSort7 (by with_unfolding_all rfl) (by kernel_rfl) ?_ | fail) <;> try simp only [go_sem, hA, e12, hA9, hA1, hf1, f2, w4, dv, wj] | fail)
                      refine GC.now (hJ1 (jj + 1, u, zz) _ _ (pi_5 hj5) (by simp only [go_sem, hA, e12, hA9, hA1, hf1, f2, w4, hA1]) ⟨?_, ?_, ?_, ?_⟩) <;> try simp only [go_sem, hA, e12, hA9, hA1, hf1, f2, w4, hA1, hf1, wj]
                      exact ⟨hau, hup, hzs, hm⟩
                · have d2 : decide ((2 : Int) ≤ ((b - u : Nat) : Int)) = false := decide_eq_false (by omega)
                  rw [if_neg hb2] at hz2
                  rw [← hz2] at hm
                  (try simp only [go_sem, hA, e9, hA1, f1, f2, du, gu, gv, lu, lv, w5, kd, db, w1, d50, hsw, hgs, w2, da, w3, d2, wj]); repeat' (first | (with_reducible first | refine c_split ?_ ?_ | refine w_split ?_ ?_ | refine tw_split ?_ ?_) <;> intro hb <;> try simp only [go_sem, hb, hA, e9, hA1, f1, f2, du, gu, gv, lu, lv, w5, kd, db, w1, d50, hsw, hgs, w2, da, w3, d2, wj] | (first | with_reducible refine d368_0_LSort7 (by with_unfolding_all rfl) (by kernel_rfl) ?_ | with_reducible refine d368_1_LSort7 (by with_unfolding_all rfl) (by kernel_rfl) ?_ | with_reducible refine d368_2_LSort7 (by with_unfolding_all rfl) (by kernel_rfl) ?_ | with_reducible refine d368_3_LSort7 (by with_unfolding_all rfl) (by kernel_rfl) ?_ | with_reducible refine d368_4_LSort7 (by with_unfolding_all rfl) (by kernel_rfl) ?_ | with_reducible refine d368_5_LSort7 (by with_unfolding_all rfl) (by kernel_rfl) ?_ | refine call_c (c_lotBefore _ _ _ ?_) | fail) <;> try simp only [go_sem, hA, e9, hA1, f1, f2, du, gu, gv, lu, lv, w5, kd, db, w1, d50, hsw, hgs, w2, da, w3, d2, wj] | fail)
                  refine GC.now (hJ1 (jj + 1, u, y1) _ _ (pi_5 hj5) (by simp only [go_sem, hA, e9, hA1, f1, f2, hA1]) ⟨?_, ?_, ?_, ?_⟩) <;> try simp only [go_sem, hA, e9, hA1, f1, f2, hA1, hf1, wj]
                  exact ⟨hau, hup, hys1, hm⟩
        · have du : decide ((u : Int) < (b : Int)) = false := decide_eq_false (fun q => hu (Int.ofNat_lt.1 q))
          have hub2 : u = b := Nat.le_antisymm hub (Nat.le_of_not_lt hu)
          have db : ((u : Int) == (b : Int)) = true := by rw [hub2]; exact BEq.rfl
          rw [ss_stop (i := u) (.inl hu)] at hsc
          rw [hm, pi_1 hsc hub2] at hk
          (try simp only [go_sem, hA, e9, hA1, f1, f2, du, db]); repeat' (first | (with_reducible first | refine c_split ?_ ?_ | refine w_split ?_ ?_ | refine tw_split ?_ ?_) <;> intro hb <;> try simp only [go_sem, hb, hA, e9, hA1, f1, f2, du, db] | (first | with_reducible refine d368_0_LSort7 (by with_unfolding_all rfl) (by kernel_rfl) ?_ | with_reducible refine d368_1_LSort7 (by with_unfolding_all rfl) (by kernel_rfl) ?_ | with_reducible refine d368_2_LSort7 (by with_unfolding_all rfl) (by kernel_rfl) ?_ | with_reducible refine d368_3_LSort7 (by with_unfolding_all rfl) (by kernel_rfl) ?_ | with_reducible refine d368_4_LSort7 (by with_unfolding_all rfl) (by kernel_rfl) ?_ | with_reducible refine d368_5_LSort7 (by with_unfolding_all rfl) (by kernel_rfl) ?_ | fail) <;> try simp only [go_sem, hA, e9, hA1, f1, f2, du, db] | fail)
          refine hQ [] _ _ (GC.now ?_) <;> simp only [Tryz.f368, go_sem, List.nodup_cons, List.nodup_nil, List.mem_cons, List.not_mem_nil, or_false, not_false_eq_true, List.idxOf?_cons, List.idxOf?_nil, Option.map_none, forall_eq]
          exact hk
    · have d5 : decide ((jj : Int) < 5) = false := decide_eq_false (by omega)
      have h50 : 5 - jj = 0 := by omega
      rw [h50, partialIns] at hm
      rw [hm] at hk
      (try simp only [go_sem, hA, e9, e10, wa, d5]); repeat' (first | (with_reducible first | refine c_split ?_ ?_ | refine w_split ?_ ?_ | refine tw_split ?_ ?_) <;> intro hb <;> try simp only [go_sem, hb, hA, e9, e10, wa, d5] | (first | with_reducible refine d368_0_LSort7 (by with_unfolding_all rfl) (by kernel_rfl) ?_ | with_reducible refine d368_1_LSort7 (by with_unfolding_all rfl) (by kernel_rfl) ?_ | with_reducible refine d368_2_LSort7 (by with_unfolding_all rfl) (by kernel_rfl) ?_ | with_reducible refine d368_3_LSort7 (by with_unfolding_all rfl) (by kernel_rfl) ?_ | with_reducible refine d368_4_LSort7 (by with_unfolding_all rfl) (by kernel_rfl) ?_ | with_reducible refine d368_5_LSort7 (by with_unfolding_all rfl) (by kernel_rfl) ?_ | fail) <;> try simp only [go_sem, hA, e9, e10, wa, d5] | fail)
      refine hQ [] _ _ (GC.now ?_) <;> simp only [Tryz.f368, go_sem, List.nodup_cons, List.nodup_nil, List.mem_cons, List.not_mem_nil, or_false, not_false_eq_true, List.idxOf?_cons, List.idxOf?_nil, Option.map_none, forall_eq]
      exact hk
end Go.Proofs.YtkndmncgohmjmaaGreat
end
section
namespace Go.Proofs.YtkndmncgohmjmaaGreat
open Go.BL Go.RowKit
set_option linter.unusedVariables false
set_option linter.unusedSimpArgs false
set_option maxRecDepth 100000
theorem ofInt_nat (a : Nat) (ha : a < 9223372036854775808) : (BitVec.ofInt IntKind.i64.bits (a : Int)).toNat = a := by
  show (BitVec.ofInt 64 (a : Int)).toNat = a
  rw [BitVec.toNat_ofInt]
  omega
theorem wrap_nat64 (a : Nat) (ha : a < 9223372036854775808) : IntKind.i64.wrap (a : Int) = (a : Int) := by rw [IntKind.wrap_i64]; omega
theorem and_nat (a b : Nat) (ha : a < 9223372036854775808) (hb : b < 9223372036854775808) : IntKind.i64.wrap (((BitVec.ofInt IntKind.i64.bits (a : Int) &&& BitVec.ofInt IntKind.i64.bits (b : Int)).toNat : Nat) : Int) = ((a &&& b : Nat) : Int) := by
  rw [BitVec.toNat_and, ofInt_nat a ha, ofInt_nat b hb]
  exact wrap_nat64 _ (Nat.lt_of_le_of_lt Nat.and_le_left ha)
/-! ### Checks -/
end Go.Proofs.YtkndmncgohmjmaaGreat
end
section
namespace Go.Proofs.YtkndmncgohmjmaaGreat
open Go.BL Go.RowKit
set_option linter.unusedVariables false
set_option linter.unusedSimpArgs false
set_option maxRecDepth 100000
def readR : Option ByteArray → AV
  | some s => .tup [(.one (.c (.string (s)))), (.one (.c (.bool (true))))]
  | none => .tup [(.one (.c (.string (⟨#[]⟩)))), (.one (.c (.bool (false))))]
end Go.Proofs.YtkndmncgohmjmaaGreat
end
section
namespace Go.Proofs.YtkndmncgohmjmaaGreat
open Go.BL Go.RowKit
set_option linter.unusedVariables false
set_option linter.unusedSimpArgs false
set_option maxRecDepth 100000
theorem d400_0_LSort8 : DrawL Tryz.prog 0 3 (.on [(0, true, true), (1, true, true), (2, true, true), (3, false, false), (4, false, false), (5, false, false), (6, false, false), (7, false, true), (8, false, true), (9, false, true)] .nil) := draw_L
theorem d400_1_LSort8 : DrawL Tryz.prog 0 12 (.on [(0, true, true), (1, true, true), (2, true, true), (3, false, false), (4, false, false), (5, false, false), (6, false, false), (7, false, true), (8, false, true), (9, false, true)] .nil) := draw_L
theorem d400_2_LSort8 : DrawL Tryz.prog 0 21 (.on [(0, true, true), (1, true, true), (2, true, true), (3, false, false), (4, false, false), (5, false, false), (6, false, false), (7, false, true), (8, false, true), (9, false, true)] .nil) := draw_L
attribute [local go_sem] lotC
open Go.Sort
theorem u_wrap {n : Nat} (h : n < 18446744073709551616) : IntKind.u64.wrap ((n : Nat) : Int) = ((n : Nat) : Int) := by
  show ((n : Nat) : Int) % 18446744073709551616 = _
  omega
theorem u_shl (x k m : Nat) (hm : (2 : Int) ^ k = (m : Int)) : IntKind.u64.wrap ((x : Int) * 2 ^ k) = ((x * m % 18446744073709551616 : Nat) : Int) := by
  rw [hm]
  show ((x : Int) * (m : Int)) % 18446744073709551616 = _
  rw [← Int.natCast_mul]
  omega
theorem u_bv {x : Nat} (hx : x < 18446744073709551616) : (BitVec.ofInt 64 (x : Int)).toNat = x := by
  rw [BitVec.ofInt_natCast, BitVec.toNat_ofNat]
  exact Nat.mod_eq_of_lt hx
theorem u_xor {x y : Nat} (hx : x < 18446744073709551616) (hy : y < 18446744073709551616) : IntKind.u64.wrap (((BitVec.ofInt 64 (x : Int) ^^^ BitVec.ofInt 64 (y : Int)).toNat : Nat) : Int) = ((x ^^^ y : Nat) : Int) := by
  rw [BitVec.toNat_xor, u_bv hx, u_bv hy]
  exact u_wrap (Nat.xor_lt_two_pow (n := 64) hx hy)
theorem u_and {x y : Nat} (hx : x < 18446744073709551616) (hy : y < 18446744073709551616) : IntKind.u64.wrap (((BitVec.ofInt 64 (x : Int) &&& BitVec.ofInt 64 (y : Int)).toNat : Nat) : Int) = ((x &&& y : Nat) : Int) := by
  rw [BitVec.toNat_and, u_bv hx, u_bv hy]
  exact u_wrap (Nat.lt_of_le_of_lt Nat.and_le_left hx)
theorem u_shr (x : Nat) : Int.fdiv (x : Int) 128 = ((x / 128 : Nat) : Int) := by
  rw [Int.fdiv_eq_ediv_of_nonneg _ (by decide)]
  omega
theorem v_shl (x : Nat) (b : Int) (k m : Nat) (hb : min b.toNat 64 = k) (hm : (2 : Int) ^ k = (m : Int)) : IntKind.u64.wrap ((x : Int) * 2 ^ min b.toNat 64) = ((x * m % 18446744073709551616 : Nat) : Int) := by rw [hb]; exact u_shl x k m hm
theorem v_shr (x : Nat) : Int.fdiv (x : Int) (2 ^ min (7 : Int).toNat 64) = ((x / 128 : Nat) : Int) := by
  have e : ((2 : Int) ^ min (7 : Int).toNat 64) = 128 := by decide
  rw [e]; exact u_shr x
theorem v_xor {x y : Nat} (hx : x < 18446744073709551616) (hy : y < 18446744073709551616) : IntKind.u64.wrap (((BitVec.ofInt 64 (x : Int) ^^^ BitVec.ofInt 64 (y : Int)).toNat : Nat) : Int) = ((x ^^^ y : Nat) : Int) := u_xor hx hy
def rO (r : Nat) : AO := .own 0 361 1 (some 1) [[.c (.int .u64 (r : Int))]]
def nx1 (v : Int) : Int := IntKind.u64.wrap (((BitVec.ofInt 64 v ^^^ BitVec.ofInt 64 (IntKind.u64.wrap (v * 2 ^ min (13 : Int).toNat 64))).toNat : Nat) : Int)
def nx2 (v : Int) : Int := IntKind.u64.wrap (((BitVec.ofInt 64 v ^^^ BitVec.ofInt 64 (v.fdiv (2 ^ min (7 : Int).toNat 64))).toNat : Nat) : Int)
def nx3 (v : Int) : Int := IntKind.u64.wrap (((BitVec.ofInt 64 v ^^^ BitVec.ofInt 64 (IntKind.u64.wrap (v * 2 ^ min (17 : Int).toNat 64))).toNat : Nat) : Int)
theorem nx_eq {r : Nat} (hr : r < 18446744073709551616) : nx3 (nx2 (nx1 (r : Int))) = ((xorNextN r : Nat) : Int) := by
  have l1 : r * 8192 % 18446744073709551616 < 18446744073709551616 := Nat.mod_lt _ (by decide)
  have x1 : nx1 (r : Int) = ((r ^^^ (r * 8192 % 18446744073709551616) : Nat) : Int) := by unfold nx1; rw [v_shl r 13 13 8192 (by decide) (by decide)]; exact v_xor hr l1
  have la : r ^^^ (r * 8192 % 18446744073709551616) < 18446744073709551616 := Nat.xor_lt_two_pow (n := 64) hr l1
  rw [x1]
  generalize ha : r ^^^ (r * 8192 % 18446744073709551616) = a at *
  have l2 : a / 128 < 18446744073709551616 := Nat.lt_of_le_of_lt (Nat.div_le_self _ _) la
  have x2 : nx2 (a : Int) = ((a ^^^ (a / 128) : Nat) : Int) := by unfold nx2; rw [v_shr a]; exact v_xor la l2
  have lb : a ^^^ (a / 128) < 18446744073709551616 := Nat.xor_lt_two_pow (n := 64) la l2
  rw [x2]
  generalize hb : a ^^^ (a / 128) = b at *
  have l3 : b * 131072 % 18446744073709551616 < 18446744073709551616 := Nat.mod_lt _ (by decide)
  have x3 : nx3 (b : Int) = ((b ^^^ (b * 131072 % 18446744073709551616) : Nat) : Int) := by unfold nx3; rw [v_shl b 17 17 131072 (by decide) (by decide)]; exact v_xor lb l3
  rw [x3]
  have hx : xorNextN r = b ^^^ (b * 131072 % 18446744073709551616) := by rw [← hb, ← ha]; rfl
  rw [hx]
theorem h_Next (y : Array Lot) (g : Nat) (cap : Option Nat) (r : Nat) (hr : r < 18446744073709551616) (K : AV → AH → Prop) (hk : K (.one (.c (.int .u64 ((xorNextN r : Nat) : Int)))) [arrO g cap y, rO (xorNextN r)]) : ACalls Tryz.prog 400 [.one (.pt 1 0 0 0)] [arrO g cap y, rO r] K := by
  have hk3 : ∀ v : Int, v = ((xorNextN r : Nat) : Int) → K (.one (.c (.int .u64 v))) [.own g 112 5 cap (y.toList.map lotC), .own 0 361 1 (some 1) [[.c (.int .u64 v)]]] := fun v e => by rw [e]; exact hk
  have p1 : (0 : Int) ≤ 13 := by decide
  have p2 : (0 : Int) ≤ 7 := by decide
  have p3 : (0 : Int) ≤ 17 := by decide
  refine acall_h Tryz.f400.results.toList mixed Tryz.func400 rfl rfl (by kernel_rfl) ?_
  intro Q hQ hQN
  simp only [go_sem, arrO, rO]
  (try simp only [go_sem, p1, p2, p3]); repeat' (first | (with_reducible first | refine c_split ?_ ?_ | refine w_split ?_ ?_ | refine tw_split ?_ ?_) <;> intro hb <;> try simp only [go_sem, hb, p1, p2, p3] | (first | with_reducible refine d400_0_LSort8 (by with_unfolding_all rfl) (by kernel_rfl) ?_ | with_reducible refine d400_1_LSort8 (by with_unfolding_all rfl) (by kernel_rfl) ?_ | with_reducible refine d400_2_LSort8 (by with_unfolding_all rfl) (by kernel_rfl) ?_ | fail) <;> try simp only [go_sem, p1, p2, p3] | fail)
  refine hQ [] _ _ (GC.now ?_) <;> simp only [Tryz.f400, go_sem, List.nodup_cons, List.nodup_nil, List.mem_cons, List.not_mem_nil, or_false, not_false_eq_true, List.idxOf?_cons, List.idxOf?_nil, Option.map_none, forall_eq]
  refine hk3 _ ?_
  exact nx_eq hr
end Go.Proofs.YtkndmncgohmjmaaGreat
end
section
namespace Go.Proofs.YtkndmncgohmjmaaGreat
open Go.BL Go.RowKit
set_option linter.unusedVariables false
set_option linter.unusedSimpArgs false
set_option maxRecDepth 100000
attribute [local go_sem] lotC
open Go.Sort
theorem tab_val {s : ByteArray} (hs : (List.range 256).all (fun i => (s.data[i]?).map UInt8.toNat == some (bitsLen i)) = true) (i : Nat) (h : i < s.size) (hi : i < 256) : (s[i]'h).toNat = bitsLen i := by
  have h1 := (List.all_eq_true.1 hs) i (List.mem_range.2 hi)
  have h2 := eq_of_beq h1
  have h3 : s.data[i]? = some (s[i]'h) := Array.getElem?_eq_getElem h
  rw [h3] at h2
  simpa using h2
theorem bl_big : ∀ x : Nat, 256 ≤ x → x ≤ 1000 → bitsLen x = 8 + bitsLen (x / 256) := fun x h1 h2 => by
  have h : (List.range 1001).all (fun x => !decide (256 ≤ x) || bitsLen x == 8 + bitsLen (x / 256)) = true := by kernel_rfl
  have h3 := (List.all_eq_true.1 h) x (List.mem_range.2 (by omega))
  rw [decide_eq_true h1] at h3
  exact eq_of_beq (by simpa using h3)
theorem bl_le {x : Nat} (h : x ≤ 1000) : bitsLen x ≤ 10 := (bitsLen_le_iff x 10).2 (by omega)
theorem u8w {x : Nat} (h : x < 256) : (IntKind.u8.wrap (x : Int)).toNat = x := by
  have : IntKind.u8.wrap (x : Int) = (x : Int) := by show (x : Int) % 256 = _; omega
  rw [this, Int.toNat_natCast]
theorem fd8 (x : Nat) : Int.fdiv (x : Int) (2 ^ min (8 : Int).toNat 64) = ((x / 256 : Nat) : Int) := by
  have e : ((2 : Int) ^ min (8 : Int).toNat 64) = 256 := by decide
  rw [e, Int.fdiv_eq_ediv_of_nonneg _ (by decide)]
  omega
theorem len_fin {m z : Nat} (h : z + m ≤ 64) : wrap64 ((z : Int) + IntKind.i64.wrap ((m : Nat) : Int)) = ((z + m : Nat) : Int) := by
  rw [wrap_nat64 _ (by omega)]
  unfold wrap64
  omega
theorem c_Len64 (x : Nat) (hx : x ≤ 1000) (K : AV → AH → Prop) (hk : K (.one (.c (.int .i64 ((bitsLen x : Int))))) []) : ACalls Tryz.prog 372 [.one (.c (.int .u64 (x : Int)))] [] K := by
  have hk3 : ∀ v : Int, v = ((bitsLen x : Nat) : Int) → K (.one (.c (.int .i64 (v)))) [] := fun v e => by rw [e]; exact hk
  have d1 : decide ((4294967296 : Int) ≤ (x : Int)) = false := decide_eq_false (by omega)
  have d2 : decide ((65536 : Int) ≤ (x : Int)) = false := decide_eq_false (by omega)
  refine acall_c Tryz.f372.results.toList mixed Tryz.func372 rfl rfl (by kernel_rfl) ?_
  intro Q hQ hQO
  simp only [go_sem]
  by_cases h : 256 ≤ x
  · have d3 : decide ((256 : Int) ≤ (x : Int)) = true := decide_eq_true (by omega)
    have p8 : (0 : Int) ≤ 8 := by decide
    have f8 := fd8 x
    have hlt : x / 256 < 256 := by omega
    (try simp only [go_sem, d1, d2, d3, p8, f8]); repeat' (first | (with_reducible first | refine c_split ?_ ?_ | refine w_split ?_ ?_) <;> intro hb <;> try simp only [go_sem, hb, d1, d2, d3, p8, f8] | fail)
    refine ⟨?_, ?_⟩
    rotate_left
    · (try simp only [go_sem, d1, d2, d3, f8]); repeat' (first | (with_reducible first | refine c_split ?_ ?_ | refine w_split ?_ ?_) <;> intro hb <;> try simp only [go_sem, hb, d1, d2, d3, f8] | with_reducible refine hQ _ _ ?_ <;> simp only [Tryz.f372, go_sem, d1, d2, d3, f8])
      refine hk3 _ ?_
      rw [tab_val (by kernel_rfl) _ _ (by rw [u8w hlt]; exact hlt), u8w hlt, bl_big x h hx]
      have w8 : wrap64 ((0 : Int) + 8) = ((8 : Nat) : Int) := by unfold wrap64; omega
      rw [w8]
      exact len_fin (m := bitsLen (x / 256)) (z := 8) (by have := bl_le (x := x / 256) (by omega); omega)
    · rw [u8w hlt]; exact hlt
  · have d3 : decide ((256 : Int) ≤ (x : Int)) = false := decide_eq_false (by omega)
    have hlt : x < 256 := by omega
    (try simp only [go_sem, d1, d2, d3]); repeat' (first | (with_reducible first | refine c_split ?_ ?_ | refine w_split ?_ ?_) <;> intro hb <;> try simp only [go_sem, hb, d1, d2, d3] | fail)
    refine ⟨?_, ?_⟩
    rotate_left
    · (try simp only [go_sem, d1, d2, d3]); repeat' (first | (with_reducible first | refine c_split ?_ ?_ | refine w_split ?_ ?_) <;> intro hb <;> try simp only [go_sem, hb, d1, d2, d3] | with_reducible refine hQ _ _ ?_ <;> simp only [Tryz.f372, go_sem, d1, d2, d3])
      refine hk3 _ ?_
      rw [tab_val (by kernel_rfl) _ _ (by rw [u8w hlt]; exact hlt), u8w hlt]
      have := len_fin (m := bitsLen x) (z := 0) (by have := bl_le hx; omega)
      rw [Nat.zero_add] at this
      exact this
    · rw [u8w hlt]; exact hlt
theorem c_Len (x : Nat) (hx : x ≤ 1000) (K : AV → AH → Prop) (hk : K (.one (.c (.int .i64 ((bitsLen x : Int))))) []) : ACalls Tryz.prog 324 [.one (.c (.int .u64 (x : Int)))] [] K := by
  have hw := u_wrap (n := x) (by omega)
  refine acall_c Tryz.f324.results.toList mixed Tryz.func324 rfl rfl (by kernel_rfl) ?_
  intro Q hQ hQO
  simp only [go_sem]
  (try simp only [go_sem, hw]); repeat' (first | (with_reducible first | refine c_split ?_ ?_ | refine w_split ?_ ?_) <;> intro hb <;> try simp only [go_sem, hb, hw] | refine call_c (c_Len64 x hx _ ?_) <;> try simp only [go_sem, hw] | with_reducible refine hQ _ _ ?_ <;> simp only [Tryz.f324, go_sem, hw])
  exact hk
theorem c_nextPow (x : Nat) (hx : x ≤ 1000) (K : AV → AH → Prop) (hk : K (.one (.c (.int .u64 ((1 <<< bitsLen x : Nat) : Int)))) []) : ACalls Tryz.prog 399 [(.one (.c (.int .i64 ((x : Int)))))] [] K := by
  have hw := u_wrap (n := x) (by omega)
  have hb := bl_le hx
  have hk3 : ∀ v : Int, v = ((1 <<< bitsLen x : Nat) : Int) → K (.one (.c (.int .u64 v))) [] := fun v e => by rw [e]; exact hk
  have h0 : (0 : Int) ≤ ((bitsLen x : Nat) : Int) := Int.natCast_nonneg _
  refine acall_c Tryz.f399.results.toList mixed Tryz.func399 rfl rfl (by kernel_rfl) ?_
  intro Q hQ hQO
  simp only [go_sem]
  (try simp only [go_sem, hw, h0]); repeat' (first | (with_reducible first | refine c_split ?_ ?_ | refine w_split ?_ ?_) <;> intro hb <;> try simp only [go_sem, hb, hw, h0] | refine call_c (c_Len x hx _ ?_) <;> try simp only [go_sem, hw, h0] | with_reducible refine hQ _ _ ?_ <;> simp only [Tryz.f399, go_sem, hw, h0])
  refine hk3 _ ?_
  have hm : min (bitsLen x) 64 = bitsLen x := by omega
  rw [hm, Nat.one_shiftLeft, Int.one_mul]
  have h2 : (2 : Int) ^ bitsLen x = ((2 ^ bitsLen x : Nat) : Int) := by rw [Int.natCast_pow]; rfl
  rw [h2]
  exact u_wrap (Nat.lt_of_le_of_lt (Nat.pow_le_pow_right (by decide) hb) (by decide))
theorem bs_other {r m len : Nat} (hm : m ≤ 2 * len) (h0 : 0 < m) (h8 : 0 < len) : (if r &&& (m - 1) ≥ len then (r &&& (m - 1)) - len else r &&& (m - 1)) < len := by
  have : r &&& (m - 1) ≤ m - 1 := Nat.and_le_right
  split <;> omega
theorem u_sub1 {m : Nat} (h0 : 0 < m) (h : m ≤ 2000) : IntKind.u64.wrap (((m : Nat) : Int) - 1) = ((m - 1 : Nat) : Int) := by
  have e : ((m : Nat) : Int) - 1 = ((m - 1 : Nat) : Int) := by omega
  rw [e]; exact u_wrap (by omega)
theorem bp_w {a b : Nat} (hab : a + 8 ≤ b) (hb : b ≤ 1000) : wrap64 ((b : Int) - (a : Int)) = ((b - a : Nat) : Int) ∧ wrap64 (Int.tdiv ((b - a : Nat) : Int) 4) = (((b - a) / 4 : Nat) : Int) ∧ wrap64 ((((b - a) / 4 : Nat) : Int) * 2) = (((b - a) / 4 * 2 : Nat) : Int) ∧ wrap64 ((a : Int) + (((b - a) / 4 * 2 : Nat) : Int)) = ((a + (b - a) / 4 * 2 : Nat) : Int) ∧ wrap64 (((a + (b - a) / 4 * 2 : Nat) : Int) - 1) = ((a + (b - a) / 4 * 2 - 1 : Nat) : Int) ∧ wrap64 (((a + (b - a) / 4 * 2 : Nat) : Int) + 1) = ((a + (b - a) / 4 * 2 + 1 : Nat) : Int) := by
  have e : Int.tdiv ((b - a : Nat) : Int) 4 = (((b - a) / 4 : Nat) : Int) := (Int.ofNat_tdiv (b - a) 4).symm
  rw [e]
  exact ⟨by unfold wrap64; omega, by unfold wrap64; omega, by unfold wrap64; omega, by unfold wrap64; omega, by unfold wrap64; omega, by unfold wrap64; omega⟩
end Go.Proofs.YtkndmncgohmjmaaGreat
end
section
namespace Go.Proofs.YtkndmncgohmjmaaGreat
open Go.BL Go.RowKit
set_option linter.unusedVariables false
set_option linter.unusedSimpArgs false
set_option maxRecDepth 100000
theorem d365_0_LSortA : DrawL Tryz.prog 0 49 (.on [(0, true, true), (1, true, true), (2, true, true), (3, true, true), (4, true, true), (5, true, true), (6, true, true), (7, true, true), (8, true, true), (9, true, true), (10, true, true), (11, true, true), (12, true, false), (13, false, false), (14, false, false), (15, false, false), (16, false, true), (17, false, true), (18, false, true), (19, false, true)] .nil) := draw_L
attribute [local go_sem] lotC
open Go.Sort
def restB (f : UInt64 × Array Lot → Nat → UInt64 × Array Lot) (idx : Nat) : Nat → UInt64 × Array Lot → UInt64 × Array Lot
  | 0, st => f (f (f st idx) (idx + 1)) (idx + 2)
  | 1, st => f (f st (idx + 1)) (idx + 2)
  | 2, st => f st (idx + 2)
  | _, st => st
theorem restB_s (f : UInt64 × Array Lot → Nat → UInt64 × Array Lot) (idx t : Nat) (h : t < 3) (st : UInt64 × Array Lot) : restB f idx t st = restB f idx (t + 1) (f st (idx + t)) := by
  rcases t with _ | _ | _ | t
  · rfl
  · rfl
  · rfl
  · omega
def othB (a len m r : Nat) : Nat := if r &&& (m - 1) ≥ len then (r &&& (m - 1)) - len else r &&& (m - 1)
theorem step_eq (a len m : Nat) (R : UInt64) (y : Array Lot) (i : Nat) : breakStep a len m (R, y) i = (xorNext R, swp y i (a + othB a len m (xorNext R).toNat)) := rfl
theorem bb_m {len : Nat} (h8 : 8 ≤ len) (hl : len ≤ 1000) : 1 <<< bitsLen len ≤ 2 * len ∧ 0 < 1 <<< bitsLen len ∧ 1 <<< bitsLen len ≤ 2000 := by
  have h := two_pow_bitsLen_le (n := len) (by omega)
  rw [Nat.one_shiftLeft]
  exact ⟨h, Nat.two_pow_pos _, by omega⟩
theorem bb_i {a b t : Nat} (h : a + 8 ≤ b) (ht : t < 3) : a + (b - a) / 4 * 2 - 1 + t < b ∧ a + (b - a) / 4 * 2 - 1 + t ≤ a + (b - a) / 4 * 2 + 1 := by omega
theorem bb_i3 {a b : Nat} (h : a + 8 ≤ b) : ¬ (a + (b - a) / 4 * 2 - 1 + 3 ≤ a + (b - a) / 4 * 2 + 1) := by omega
theorem bb_t {t : Nat} (h : t ≤ 3) (h2 : ¬ t < 3) : t = 3 := by omega
theorem bb_o {a b o : Nat} (h : a < b) (ho : o < b - a) : a + o < b := by omega
theorem bb_wo {a b o : Nat} (h : a + o < b) (hb : b ≤ 1000) : wrap64 ((a : Int) + (o : Int)) = ((a + o : Nat) : Int) := by unfold wrap64; omega
theorem bb_s {x len : Nat} (h : len ≤ x) (hx : x ≤ 2000) : wrap64 ((x : Int) - (len : Int)) = ((x - len : Nat) : Int) := by unfold wrap64; omega
theorem bb_i64 {x : Nat} (h : x ≤ 2000) : IntKind.i64.wrap ((x : Nat) : Int) = ((x : Nat) : Int) := wrap_nat64 _ (by omega)
theorem bb_3 {t : Nat} (h : t < 3) : 3 - (t + 1) < 3 - t := by omega
theorem b_subu {P : Program} {h : AH} {k : Ko} (t : TypeId) (a b : Int) : biG P .sub t (.one (.c (.int .u64 a))) (.one (.c (.int .u64 b))) h k = kr P k (.one (.c (.int .u64 (IntKind.u64.wrap (a - b))))) h := by simp only [biG, On, binA, intA, if_true]
theorem v_andk {x y : Nat} (hx : x < 18446744073709551616) (hy : y < 18446744073709551616) : IntKind.u64.wrap (((BitVec.ofInt IntKind.u64.bits (x : Int) &&& BitVec.ofInt IntKind.u64.bits (y : Int)).toNat : Nat) : Int) = ((x &&& y : Nat) : Int) := u_and hx hy
set_option maxHeartbeats 8000000 in
theorem s_breakPatterns (d : Array Lot) (n : Nat) (e : d.size = n) (g : Nat) (cap : Option Nat) (a b : Nat) (hab : a + 8 ≤ b) (hb : b ≤ n) (hn : n ≤ 1000) (K : AV → AH → Prop) (hk : K (.tup []) [arrO g cap (breakPatterns d a b)]) : ACalls Tryz.prog 365 [.one (.sl 0 g 0 n), (.one (.c (.int .i64 ((a : Int))))), (.one (.c (.int .i64 ((b : Int))))), .one (.clo 251 [])] [arrO g cap d] K := by
  have hb1 : b ≤ 1000 := Nat.le_trans hb hn
  have hlt : a < b := by omega
  have hlen : 8 ≤ b - a := by omega
  have hlen2 : b - a ≤ 1000 := by omega
  obtain ⟨w1, w2, w3, w4, w5, w6⟩ := bp_w hab hb1
  obtain ⟨m1, m2, m3⟩ := bb_m hlen hlen2
  have f4 : (4 : Int) ≠ 0 := by decide
  have d8 : decide ((8 : Int) ≤ ((b - a : Nat) : Int)) = true := decide_eq_true (by omega)
  have hu := u_wrap (n := b - a) (by omega)
  have hr0 : (UInt64.ofNat (b - a)).toNat = b - a := by rw [UInt64.toNat_ofNat']; exact Nat.mod_eq_of_lt (by omega)
  have hbp : breakPatterns d a b = (restB (breakStep a (b - a) (1 <<< bitsLen (b - a))) (a + (b - a) / 4 * 2 - 1) 0 (UInt64.ofNat (b - a), d)).2 := by unfold breakPatterns; exact if_pos hlen
  have hidx := fun t ht => bb_i (a := a) (b := b) (t := t) hab ht
  have hi3 := bb_i3 hab
  have ms := u_sub1 m2 m3
  have hoth := fun r => bs_other (r := r) m1 m2 (Nat.lt_of_lt_of_le (by decide) hlen)
  rw [hbp] at hk
  generalize hmm : 1 <<< bitsLen (b - a) = m at *
  refine acall_h Tryz.f365.results.toList mixed Tryz.func365 rfl rfl (by kernel_rfl) ?_
  intro Q hQ hQN
  simp only [go_sem, arrO]
  (try simp only [go_sem, w1, w2, w3, w4, w5, w6, f4, d8, hu, hmm]); repeat' (first | (with_reducible first | refine c_split ?_ ?_ | refine w_split ?_ ?_ | refine tw_split ?_ ?_) <;> intro hb <;> try simp only [go_sem, hb, w1, w2, w3, w4, w5, w6, f4, d8, hu, hmm] | (first | with_reducible refine d365_0_LSortA (by with_unfolding_all rfl) (by kernel_rfl) ?_ | refine call_c (c_nextPow (b - a) hlen2 _ ?_) | fail) <;> try simp only [go_sem, w1, w2, w3, w4, w5, w6, f4, d8, hu, hmm] | fail)
  generalize hii : a + (b - a) / 4 * 2 - 1 = idx at *
  generalize hjj : a + (b - a) / 4 * 2 = top at *
  refine while_at (α := Nat × UInt64 × Array Lot) (fun ⟨t, R, y⟩ => 3 - t) [0, 1, 8, 9, 10] (fun ⟨t, R, y⟩ f h => f 11 = (.one (.c (.int .i64 (((idx + t : Nat) : Int))))) ∧ h = [.own g 112 5 cap (y.toList.map lotC), .own 0 361 1 (some 1) [[.c (.int .u64 (R.toNat : Int))]]] ∧ t ≤ 3 ∧ y.size = n ∧ restB (breakStep a (b - a) m) idx 0 (UInt64.ofNat (b - a), d) = restB (breakStep a (b - a) m) idx t (R, y)) (0, UInt64.ofNat (b - a), d) (GC.now ?_) ?_
  · simp only [go_sem, nc_0, true_and, w1, w2, w3, w4, w5, w6, hr0]
    exact e
  · rintro ⟨t, R, y⟩ f h J hA ⟨e11, rfl, hP⟩ hJ
    simp only [go_sem, w1, w2, w3, w4, w5, w6, hr0] at hA
    try dsimp only at hJ
    simp only [go_sem, hA, e11, w1, w2, w3, w4, w5, w6, hr0]
    obtain ⟨ht3, hys, hm⟩ := hP
    by_cases ht : t < 3
    · obtain ⟨q1, q2⟩ := hidx t ht
      have dd : decide (((idx + t : Nat) : Int) ≤ ((top + 1 : Nat) : Int)) = true := decide_eq_true (Int.ofNat_le.2 q2)
      rw [restB_s _ _ _ ht, step_eq] at hm
      have hrn := xorNext_toNat R
      have hrl : xorNextN R.toNat < 18446744073709551616 := xorNextN_lt _ R.toNat_lt
      have hand := v_andk (y := m - 1) hrl (Nat.lt_of_le_of_lt (Nat.sub_le _ _) (Nat.lt_of_le_of_lt m3 (by decide)))
      simp only [go_sem] at hand
      have hol := hoth (xorNextN R.toNat)
      rw [othB, hrn] at hm
      generalize hxx : xorNextN R.toNat &&& (m - 1) = x at *
      have hx2 : x ≤ 2000 := by rw [← hxx]; exact Nat.le_trans Nat.and_le_right (Nat.le_trans (Nat.sub_le _ _) m3)
      have hxi := bb_i64 hx2
      have hin : idx + t < n := Nat.lt_of_lt_of_le q1 hb
      have gi := arr_get y (hys ▸ hin)
      have li : ((idx + t : Nat) : Int) < (n : Int) := Int.ofNat_lt.2 hin
      have wi := pt_wi hin hn
      have hit : idx + (t + 1) = idx + t + 1 := rfl
      have hnx : (xorNext R).toNat = xorNextN R.toNat := hrn
      (try simp only [go_sem, hA, e11, w1, w2, w3, w4, w5, w6, hr0, dd]); repeat' (first | (with_reducible first | refine c_split ?_ ?_ | refine w_split ?_ ?_ | refine tw_split ?_ ?_) <;> intro hb <;> try simp only [go_sem, hb, hA, e11, w1, w2, w3, w4, w5, w6, hr0, dd] | with_reducible refine d365_0_LSortA (by with_unfolding_all rfl) (by kernel_rfl) ?_ <;> try simp only [go_sem, hA, e11, w1, w2, w3, w4, w5, w6, hr0, dd] | fail)
      refine call_h (h_Next y g cap R.toNat R.toNat_lt _ ?_)
      simp only [arrO, rO]
      by_cases hge : x ≥ b - a
      · have dg : decide (((b - a : Nat) : Int) ≤ (x : Int)) = true := decide_eq_true (Int.ofNat_le.2 hge)
        rw [if_pos hge] at hm hol
        have wo := bb_s hge hx2
        have hao := bb_o hlt hol
        have wao := bb_wo hao hb1
        have hon : a + (x - (b - a)) < n := Nat.lt_of_lt_of_le hao hb
        have go := arr_get y (hys ▸ hon)
        have lo : ((a + (x - (b - a)) : Nat) : Int) < (n : Int) := Int.ofNat_lt.2 hon
        have hsw := arr_swp y (idx + t) (a + (x - (b - a)))
        have hgs := fun z => get_set_any y (i := idx + t) (j := a + (x - (b - a))) (hys ▸ hon) z
        (try simp only [go_sem, hA, e11, w1, w2, w3, w4, w5, w6, hr0, dd, b_subu, ms, hand, hxi, dg, wo, wao, gi, li, go, lo, hsw, hgs, wi]); repeat' (first | (with_reducible first | refine c_split ?_ ?_ | refine w_split ?_ ?_ | refine tw_split ?_ ?_) <;> intro hb <;> try simp only [go_sem, hb, hA, e11, w1, w2, w3, w4, w5, w6, hr0, dd, b_subu, ms, hand, hxi, dg, wo, wao, gi, li, go, lo, hsw, hgs, wi] | with_reducible refine d365_0_LSortA (by with_unfolding_all rfl) (by kernel_rfl) ?_ <;> try simp only [go_sem, hA, e11, w1, w2, w3, w4, w5, w6, hr0, dd, b_subu, ms, hand, hxi, dg, wo, wao, gi, li, go, lo, hsw, hgs, wi] | fail)
        refine GC.now (hJ (t + 1, xorNext R, swp y (idx + t) (a + (x - (b - a)))) _ _ (by exact bb_3 ht) (by simp only [go_sem, hA, e11, w1, w2, w3, w4, w5, w6, hr0]) ⟨?_, ?_, ?_⟩) <;> try simp only [go_sem, hA, e11, w1, w2, w3, w4, w5, w6, hr0, wi, hsw, hnx, hit]
        exact ⟨Nat.le_of_lt_succ ht, by rw [swp_size]; exact hys, hm⟩
      · have dg : decide (((b - a : Nat) : Int) ≤ (x : Int)) = false := decide_eq_false (fun q => hge (Int.ofNat_le.1 q))
        rw [if_neg hge] at hm hol
        have hao := bb_o hlt hol
        have wao := bb_wo hao hb1
        have hon : a + x < n := Nat.lt_of_lt_of_le hao hb
        have go := arr_get y (hys ▸ hon)
        have lo : ((a + x : Nat) : Int) < (n : Int) := Int.ofNat_lt.2 hon
        have hsw := arr_swp y (idx + t) (a + x)
        have hgs := fun z => get_set_any y (i := idx + t) (j := a + x) (hys ▸ hon) z
        (try simp only [go_sem, hA, e11, w1, w2, w3, w4, w5, w6, hr0, dd, b_subu, ms, hand, hxi, dg, wao, gi, li, go, lo, hsw, hgs, wi]); repeat' (first | (with_reducible first | refine c_split ?_ ?_ | refine w_split ?_ ?_ | refine tw_split ?_ ?_) <;> intro hb <;> try simp only [go_sem, hb, hA, e11, w1, w2, w3, w4, w5, w6, hr0, dd, b_subu, ms, hand, hxi, dg, wao, gi, li, go, lo, hsw, hgs, wi] | with_reducible refine d365_0_LSortA (by with_unfolding_all rfl) (by kernel_rfl) ?_ <;> try simp only [go_sem, hA, e11, w1, w2, w3, w4, w5, w6, hr0, dd, b_subu, ms, hand, hxi, dg, wao, gi, li, go, lo, hsw, hgs, wi] | fail)
        refine GC.now (hJ (t + 1, xorNext R, swp y (idx + t) (a + x)) _ _ (by exact bb_3 ht) (by simp only [go_sem, hA, e11, w1, w2, w3, w4, w5, w6, hr0]) ⟨?_, ?_, ?_⟩) <;> try simp only [go_sem, hA, e11, w1, w2, w3, w4, w5, w6, hr0, wi, hsw, hnx, hit]
        exact ⟨Nat.le_of_lt_succ ht, by rw [swp_size]; exact hys, hm⟩
    · have ht0 := bb_t ht3 ht
      subst ht0
      have dd : decide (((idx + 3 : Nat) : Int) ≤ ((top + 1 : Nat) : Int)) = false := decide_eq_false (fun q => hi3 (Int.ofNat_le.1 q))
      have hr3 : restB (breakStep a (b - a) m) idx 3 (R, y) = (R, y) := rfl
      rw [hm, hr3] at hk
      (try simp only [go_sem, hA, e11, w1, w2, w3, w4, w5, w6, hr0, dd]); repeat' (first | (with_reducible first | refine c_split ?_ ?_ | refine w_split ?_ ?_ | refine tw_split ?_ ?_) <;> intro hb <;> try simp only [go_sem, hb, hA, e11, w1, w2, w3, w4, w5, w6, hr0, dd] | with_reducible refine d365_0_LSortA (by with_unfolding_all rfl) (by kernel_rfl) ?_ <;> try simp only [go_sem, hA, e11, w1, w2, w3, w4, w5, w6, hr0, dd] | fail)
      refine hQN [] _ _ (GC.now ?_) <;> simp only [Tryz.f365, go_sem, List.nodup_cons, List.nodup_nil, List.mem_cons, List.not_mem_nil, or_false, not_false_eq_true, List.idxOf?_cons, List.idxOf?_nil, Option.map_none, forall_eq]
      exact hk
end Go.Proofs.YtkndmncgohmjmaaGreat
end
