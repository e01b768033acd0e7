/- LawCleared: the law over a drawn disk that is cleared answers true. Conditions: none. -/
import Derived.Test.YtaahlnjldenhpaaLG
import Derived.Test.YtaahlnjldenhpaaLT
import Derived.Test.YtaahlnjldenhpaaLDrawC
import Derived.Test.YtaahlnjldenhpaaLWithin
namespace Go.Proofs.Ytaahlnjldenhpaa
open Go.BL Go.RowKit
set_option linter.unusedVariables false
set_option linter.unusedSimpArgs false
set_option maxRecDepth 100000
attribute [local go_sem] fileC diskC fileC_len intC
theorem segs_of {d : Disk} {s : Nat} (hs : s < 20) (hd : diskOk d = true) : ∃ row : List Int, segsOf d s = row ∧ row.length ≤ 20 ∧ (∀ (i : Nat) (hi : i < row.length), row[i] = (((s + i) % 20 : Nat) : Int) ∧ ∃ t, readA d (((s + i) % 20 : Nat) : Int) = some t) ∧ (row.length < 20 → readA d (((s + row.length) % 20 : Nat) : Int) = none) := by
  have h := segs_law d.files 20 s hs
  refine ⟨_, rfl, ?_⟩
  rw [segsOf, if_pos ⟨hd, by omega, by omega⟩]
  generalize segsFrom d.files 20 s = row at *
  refine ⟨h.1, fun i hi => ⟨(h.2.1 i hi).1, ?_⟩, fun hl => ?_⟩
  · obtain ⟨f, hf⟩ := (h.2.1 i hi).2
    rw [read_ok hd, hf]; exact ⟨_, rfl⟩
  · rw [read_ok hd, h.2.2 hl]; rfl
theorem from_mod (v : Nat) : ((v : Int)).tmod 20 = ((v % 20 : Nat) : Int) := by rw [Int.tmod_eq_emod_of_nonneg (by omega)]; rfl
theorem row_arith {s i : Nat} (hs : s < 20) (hi : i ≤ 20) : wrap64 ((s : Int) + (i : Int)) = ((s + i : Nat) : Int) := by unfold wrap64; omega
theorem c_FnCleared (b : List UInt8) (_hb : b.length ≤ 1000000000000000) (K : AV → AH → Prop) (hk : K (.one (.c (.bool (true)))) []) : ACalls Try.prog 3 [(.one (.im (b.map byteC)))] [] K := by
  refine acall_c Try.f3.results.toList mixed Try.func3 rfl rfl (by kernel_rfl) ?_
  intro Q hQ hQO
  simp only [go_sem]
  (try simp only [go_sem]); repeat' (first | (with_reducible refine c_split (fun hb => ?_) (fun hb => ?_) <;> try simp only [go_sem, hb]) | (with_reducible refine w_split (fun hb => ?_) (fun hb => ?_) <;> try simp only [go_sem, hb]) | (with_reducible refine tw_split (fun hb => ?_) (fun hb => ?_) <;> try simp only [go_sem, hb]) | (with_reducible refine draw_at 0 94 (by with_unfolding_all rfl) [(0, true, true), (1, true, false), (2, false, false), (3, false, false), (4, false, false), (5, false, true), (6, false, true), (7, true, true), (8, true, true), (9, false, true), (10, false, true)] (by kernel_rfl) ?_ <;> try simp only [go_sem]) | (refine call_c (c_big b _ ?_) <;> try simp only [go_sem]) | (fail))
  · (try simp only [go_sem]); repeat' (first | (with_reducible refine c_split (fun hb => ?_) (fun hb => ?_) <;> try simp only [go_sem, hb]) | (with_reducible refine w_split (fun hb => ?_) (fun hb => ?_) <;> try simp only [go_sem, hb]) | (with_reducible refine tw_split (fun hb => ?_) (fun hb => ?_) <;> try simp only [go_sem, hb]) | (with_reducible refine draw_at 0 94 (by with_unfolding_all rfl) [(0, true, true), (1, true, false), (2, false, false), (3, false, false), (4, false, false), (5, false, true), (6, false, true), (7, true, true), (8, true, true), (9, false, true), (10, false, true)] (by kernel_rfl) ?_ <;> try simp only [go_sem]) | (with_reducible refine hQ _ _ ?_ <;> simp only [Try.f3, go_sem]))
    exact hk
  have hbl9 : b.length ≤ 1000000000 := by have := of_decide_eq_false hb; omega
  have hbl : b.length ≤ 1000000000000 := Nat.le_trans hbl9 (by decide)
  refine call_c (c_DrawSegsClear b hbl _ fun d keep hd hkl => ?_)
  have hn : d.files.length ≤ 1000000000 := Nat.le_trans hd.1 (by decide)
  have hk0 : keep.length ≤ 1000000000 := Nat.le_trans hkl (by decide)
  have hz := okd_small hd
  by_cases hc : diskOk d = true ∧ keep.length ≤ 20
  · have e : clearDisk d keep = ⟨d.room, clearFiles keep d.files⟩ := by rw [clearDisk, if_pos hc]
    have hG := good_of hz hc.1
    have hGc : Good ⟨d.room, clearFiles keep d.files⟩ := good_filter hG _
    have hcr := fun n hn => clear_read hG keep n hn
    generalize hC : clearFiles keep d.files = cf at *
    have lC : cf.length ≤ 1000000000 := Nat.le_trans (good_len hGc) (by decide)
    have zC := good_small hGc
    have oC := good_ok hGc
    have hkk : decide ((20 : Int) < keep.length) = false := decide_eq_false (by omega)
    have hd1 := hc.1
    (try simp only [go_sem, e, hd1, hkk]); repeat' (first | (with_reducible refine c_split (fun hb => ?_) (fun hb => ?_) <;> try simp only [go_sem, hb, e, hd1, hkk]) | (with_reducible refine w_split (fun hb => ?_) (fun hb => ?_) <;> try simp only [go_sem, hb, e, hd1, hkk]) | (with_reducible refine tw_split (fun hb => ?_) (fun hb => ?_) <;> try simp only [go_sem, hb, e, hd1, hkk]) | (with_reducible refine draw_at 0 94 (by with_unfolding_all rfl) [(0, true, true), (1, true, false), (2, false, false), (3, false, false), (4, false, false), (5, false, true), (6, false, true), (7, true, true), (8, true, true), (9, false, true), (10, false, true)] (by kernel_rfl) ?_ <;> try simp only [go_sem, e, hd1, hkk]) | (refine call_c (c_impl_SegsClear d keep hn hk0 _ ?_) <;> try simp only [go_sem, e, hd1, hkk]) | (refine call_c (c_spec_DiskOk d hn _ ?_) <;> try simp only [go_sem, e, hd1, hkk]) | (fail))
    refine for_at (22) [0, 3, 4, 5] (fun i f h => f 6 = (.one (.c (.int .i64 (i)))) ∧ h = [.own 0 26 2 (some 1) [diskC d], .own 0 55 3 none (cf.map fileC), .own 0 26 2 (some 1) [[.c (.int .i64 (d.room)), .sl 1 0 0 cf.length]]]) (GC.now ?_) ?_
    · simp only [go_sem, nc_0, true_and]
    · rintro i f h J hi hA ⟨e6, rfl⟩ hJ
      simp only [go_sem] at hA
      simp only [go_sem, hA, e6]
      refine c_split (fun hb => ?_) (fun hb => ?_)
      rotate_left
      · simp only [go_sem, hb, hA, e6]
        obtain rfl := ge_len hb hi
        have h20 : (20 : Int) ≠ 0 := by decide
        (try simp only [go_sem, hA, e6]); repeat' (first | (with_reducible refine c_split (fun hb => ?_) (fun hb => ?_) <;> try simp only [go_sem, hb, hA, e6]) | (with_reducible refine w_split (fun hb => ?_) (fun hb => ?_) <;> try simp only [go_sem, hb, hA, e6]) | (with_reducible refine tw_split (fun hb => ?_) (fun hb => ?_) <;> try simp only [go_sem, hb, hA, e6]) | (with_reducible refine draw_at 0 94 (by with_unfolding_all rfl) [(0, true, true), (1, true, false), (2, false, false), (3, false, false), (4, false, false), (5, false, true), (6, false, true), (7, true, true), (8, true, true), (9, false, true), (10, false, true)] (by kernel_rfl) ?_ <;> try simp only [go_sem, hA, e6]) | (fail))
        refine call_c (c_at b 1 (by decide) hbl9 _ fun v hv => ?_)
        have hs20 : v % 20 < 20 := Nat.mod_lt _ (by decide)
        obtain ⟨row, hrow, hrl, hr1, hr2⟩ := segs_of hs20 hd1
        have hfm := from_mod v
        generalize v % 20 = s at *
        (try simp only [go_sem, hA, e6, hfm, h20, b_rem, hrow]); repeat' (first | (with_reducible refine c_split (fun hb => ?_) (fun hb => ?_) <;> try simp only [go_sem, hb, hA, e6, hfm, h20, b_rem, hrow]) | (with_reducible refine w_split (fun hb => ?_) (fun hb => ?_) <;> try simp only [go_sem, hb, hA, e6, hfm, h20, b_rem, hrow]) | (with_reducible refine tw_split (fun hb => ?_) (fun hb => ?_) <;> try simp only [go_sem, hb, hA, e6, hfm, h20, b_rem, hrow]) | (with_reducible refine draw_at 0 94 (by with_unfolding_all rfl) [(0, true, true), (1, true, false), (2, false, false), (3, false, false), (4, false, false), (5, false, true), (6, false, true), (7, true, true), (8, true, true), (9, false, true), (10, false, true)] (by kernel_rfl) ?_ <;> try simp only [go_sem, hA, e6, hfm, h20, b_rem, hrow]) | (refine call_c (c_impl_SegsFrom d _ hn _ ?_) <;> try simp only [go_sem, hA, e6, hfm, h20, b_rem, hrow]) | (fail))
        have hA0 := hA
        refine for_at (row.length) [3, 5, 11, 12] (fun i f h => f 13 = (.one (.c (.int .i64 (i)))) ∧ h = [.own 0 26 2 (some 1) [diskC d], .own 0 55 3 none (cf.map fileC), .own 0 26 2 (some 1) [[.c (.int .i64 (d.room)), .sl 1 0 0 cf.length]]]) (GC.now ?_) ?_
        · simp only [go_sem, nc_0, true_and, hA0]
        · rintro i f h J hi hA ⟨e13, rfl⟩ hJ
          simp only [go_sem, hA0] at hA
          simp only [go_sem, hA, e13, hA0]
          refine c_split (fun hb => ?_) (fun hb => ?_)
          rotate_left
          · simp only [go_sem, hb, hA, e13, hA0]
            obtain rfl := ge_len hb hi
            by_cases hl : row.length < 20
            · have hl' : decide ((row.length : Int) < 20) = true := decide_eq_true (by omega)
              have hrn := hr2 hl
              have hwr := row_arith hs20 hrl
              have hm20 := from_mod (s + row.length)
              (try simp only [go_sem, hA, e13, hA0, hl', hwr, hm20, h20, b_rem, hrn, rr_none, oC]); repeat' (first | (with_reducible refine c_split (fun hb => ?_) (fun hb => ?_) <;> try simp only [go_sem, hb, hA, e13, hA0, hl', hwr, hm20, h20, b_rem, hrn, rr_none, oC]) | (with_reducible refine w_split (fun hb => ?_) (fun hb => ?_) <;> try simp only [go_sem, hb, hA, e13, hA0, hl', hwr, hm20, h20, b_rem, hrn, rr_none, oC]) | (with_reducible refine tw_split (fun hb => ?_) (fun hb => ?_) <;> try simp only [go_sem, hb, hA, e13, hA0, hl', hwr, hm20, h20, b_rem, hrn, rr_none, oC]) | (with_reducible refine draw_at 0 94 (by with_unfolding_all rfl) [(0, true, true), (1, true, false), (2, false, false), (3, false, false), (4, false, false), (5, false, true), (6, false, true), (7, true, true), (8, true, true), (9, false, true), (10, false, true)] (by kernel_rfl) ?_ <;> try simp only [go_sem, hA, e13, hA0, hl', hwr, hm20, h20, b_rem, hrn, rr_none, oC]) | (refine call_c (c_spec_DiskRead d _ hn hz _ ?_) <;> try simp only [go_sem, hA, e13, hA0, hl', hwr, hm20, h20, b_rem, hrn, rr_none, oC]) | (refine call_c (c_impl_DiskOk ⟨d.room, cf⟩ lC _ ?_) <;> try simp only [go_sem, hA, e13, hA0, hl', hwr, hm20, h20, b_rem, hrn, rr_none, oC]) | (with_reducible refine hQ _ _ ?_ <;> simp only [Try.f3, go_sem, hA, e13, hA0, hl', hwr, hm20, h20, b_rem, hrn, rr_none, oC]))
              exact hk
            · have hl' : decide ((row.length : Int) < 20) = false := decide_eq_false (by omega)
              (try simp only [go_sem, hA, e13, hA0, hl', oC]); repeat' (first | (with_reducible refine c_split (fun hb => ?_) (fun hb => ?_) <;> try simp only [go_sem, hb, hA, e13, hA0, hl', oC]) | (with_reducible refine w_split (fun hb => ?_) (fun hb => ?_) <;> try simp only [go_sem, hb, hA, e13, hA0, hl', oC]) | (with_reducible refine tw_split (fun hb => ?_) (fun hb => ?_) <;> try simp only [go_sem, hb, hA, e13, hA0, hl', oC]) | (with_reducible refine draw_at 0 94 (by with_unfolding_all rfl) [(0, true, true), (1, true, false), (2, false, false), (3, false, false), (4, false, false), (5, false, true), (6, false, true), (7, true, true), (8, true, true), (9, false, true), (10, false, true)] (by kernel_rfl) ?_ <;> try simp only [go_sem, hA, e13, hA0, hl', oC]) | (refine call_c (c_impl_DiskOk ⟨d.room, cf⟩ lC _ ?_) <;> try simp only [go_sem, hA, e13, hA0, hl', oC]) | (with_reducible refine hQ _ _ ?_ <;> simp only [Try.f3, go_sem, hA, e13, hA0, hl', oC]))
              exact hk
          have hi := lt_len hb
          have hw := wrap_nat i (by omega)
          have hil : (i : Int) < ((row.length : Nat) : Int) := Int.ofNat_lt.2 hi
          have hg0 : (row)[i]? = some ((row)[i]) := List.getElem?_eq_getElem (by omega)
          simp only [go_sem, hb, hA, e13, hA0, hg0]
          try simp only [go_sem, hA, e13, hA0, hil, hg0]
          obtain ⟨hx, t, ht⟩ := hr1 i hi
          have hwr := row_arith hs20 (Nat.le_of_lt (Nat.lt_of_lt_of_le hi hrl))
          have hm20 := from_mod (s + i)
          (try simp only [go_sem, hA, e13, hA0, hil, hg0, hx, hwr, hm20, h20, b_rem, ht, rr_some, BEq.rfl]); repeat' (first | (with_reducible refine c_split (fun hb => ?_) (fun hb => ?_) <;> try simp only [go_sem, hb, hA, e13, hA0, hil, hg0, hx, hwr, hm20, h20, b_rem, ht, rr_some, BEq.rfl]) | (with_reducible refine w_split (fun hb => ?_) (fun hb => ?_) <;> try simp only [go_sem, hb, hA, e13, hA0, hil, hg0, hx, hwr, hm20, h20, b_rem, ht, rr_some, BEq.rfl]) | (with_reducible refine tw_split (fun hb => ?_) (fun hb => ?_) <;> try simp only [go_sem, hb, hA, e13, hA0, hil, hg0, hx, hwr, hm20, h20, b_rem, ht, rr_some, BEq.rfl]) | (with_reducible refine draw_at 0 94 (by with_unfolding_all rfl) [(0, true, true), (1, true, false), (2, false, false), (3, false, false), (4, false, false), (5, false, true), (6, false, true), (7, true, true), (8, true, true), (9, false, true), (10, false, true)] (by kernel_rfl) ?_ <;> try simp only [go_sem, hA, e13, hA0, hil, hg0, hx, hwr, hm20, h20, b_rem, ht, rr_some, BEq.rfl]) | (refine call_c (c_spec_DiskRead d _ hn hz _ ?_) <;> try simp only [go_sem, hA, e13, hA0, hil, hg0, hx, hwr, hm20, h20, b_rem, ht, rr_some, BEq.rfl]) | (fail))
          refine GC.now (hJ _ _ hi (by simp only [go_sem, hA, e13, hA0]) ⟨?_, ?_⟩) <;> try simp only [go_sem, hA, e13, hA0, hw]
      have hi : i < 22 := by have := of_decide_eq_true hb; omega
      have hw := wrap_nat i (by omega)
      have hr := hcr i (Int.natCast_nonneg i)
      cases ho : readA d i with
      | none =>
        have hr2 : readA ⟨d.room, cf⟩ i = none := by rw [hr, ho]; split <;> rfl
        (try simp only [go_sem, hA, e6, ho, hr2, rr_none, BEq.rfl]); repeat' (first | (with_reducible refine c_split (fun hb => ?_) (fun hb => ?_) <;> try simp only [go_sem, hb, hA, e6, ho, hr2, rr_none, BEq.rfl]) | (with_reducible refine w_split (fun hb => ?_) (fun hb => ?_) <;> try simp only [go_sem, hb, hA, e6, ho, hr2, rr_none, BEq.rfl]) | (with_reducible refine tw_split (fun hb => ?_) (fun hb => ?_) <;> try simp only [go_sem, hb, hA, e6, ho, hr2, rr_none, BEq.rfl]) | (with_reducible refine draw_at 0 94 (by with_unfolding_all rfl) [(0, true, true), (1, true, false), (2, false, false), (3, false, false), (4, false, false), (5, false, true), (6, false, true), (7, true, true), (8, true, true), (9, false, true), (10, false, true)] (by kernel_rfl) ?_ <;> try simp only [go_sem, hA, e6, ho, hr2, rr_none, BEq.rfl]) | (refine call_c (c_spec_DiskRead d i hn hz _ ?_) <;> try simp only [go_sem, hA, e6, ho, hr2, rr_none, BEq.rfl]) | (refine call_c (c_impl_DiskRead ⟨d.room, cf⟩ i lC zC _ ?_) <;> try simp only [go_sem, hA, e6, ho, hr2, rr_none, BEq.rfl]) | (fail))
        refine GC.now (hJ _ _ hi (by simp only [go_sem, hA, e6]) ⟨?_, ?_⟩) <;> try simp only [go_sem, hA, e6, hw]
      | some s =>
        by_cases h20 : 20 ≤ (i : Int)
        · have hr2 : readA ⟨d.room, cf⟩ i = some s := by rw [hr, if_pos (Or.inl h20), ho]
          have h20' := decide_eq_true h20
          (try simp only [go_sem, hA, e6, ho, hr2, rr_some, h20', BEq.rfl]); repeat' (first | (with_reducible refine c_split (fun hb => ?_) (fun hb => ?_) <;> try simp only [go_sem, hb, hA, e6, ho, hr2, rr_some, h20', BEq.rfl]) | (with_reducible refine w_split (fun hb => ?_) (fun hb => ?_) <;> try simp only [go_sem, hb, hA, e6, ho, hr2, rr_some, h20', BEq.rfl]) | (with_reducible refine tw_split (fun hb => ?_) (fun hb => ?_) <;> try simp only [go_sem, hb, hA, e6, ho, hr2, rr_some, h20', BEq.rfl]) | (with_reducible refine draw_at 0 94 (by with_unfolding_all rfl) [(0, true, true), (1, true, false), (2, false, false), (3, false, false), (4, false, false), (5, false, true), (6, false, true), (7, true, true), (8, true, true), (9, false, true), (10, false, true)] (by kernel_rfl) ?_ <;> try simp only [go_sem, hA, e6, ho, hr2, rr_some, h20', BEq.rfl]) | (refine call_c (c_spec_DiskRead d i hn hz _ ?_) <;> try simp only [go_sem, hA, e6, ho, hr2, rr_some, h20', BEq.rfl]) | (refine call_c (c_impl_DiskRead ⟨d.room, cf⟩ i lC zC _ ?_) <;> try simp only [go_sem, hA, e6, ho, hr2, rr_some, h20', BEq.rfl]) | (fail))
          refine GC.now (hJ _ _ hi (by simp only [go_sem, hA, e6]) ⟨?_, ?_⟩) <;> try simp only [go_sem, hA, e6, hw]
        · have h20' := decide_eq_false h20
          by_cases hm : (i : Int) ∈ keep
          · have hr2 : readA ⟨d.room, cf⟩ i = some s := by rw [hr, if_pos (Or.inr hm), ho]
            have hm' := decide_eq_true hm
            (try simp only [go_sem, hA, e6, ho, hr2, rr_some, h20', hm', BEq.rfl]); repeat' (first | (with_reducible refine c_split (fun hb => ?_) (fun hb => ?_) <;> try simp only [go_sem, hb, hA, e6, ho, hr2, rr_some, h20', hm', BEq.rfl]) | (with_reducible refine w_split (fun hb => ?_) (fun hb => ?_) <;> try simp only [go_sem, hb, hA, e6, ho, hr2, rr_some, h20', hm', BEq.rfl]) | (with_reducible refine tw_split (fun hb => ?_) (fun hb => ?_) <;> try simp only [go_sem, hb, hA, e6, ho, hr2, rr_some, h20', hm', BEq.rfl]) | (with_reducible refine draw_at 0 94 (by with_unfolding_all rfl) [(0, true, true), (1, true, false), (2, false, false), (3, false, false), (4, false, false), (5, false, true), (6, false, true), (7, true, true), (8, true, true), (9, false, true), (10, false, true)] (by kernel_rfl) ?_ <;> try simp only [go_sem, hA, e6, ho, hr2, rr_some, h20', hm', BEq.rfl]) | (refine call_c (c_spec_DiskRead d i hn hz _ ?_) <;> try simp only [go_sem, hA, e6, ho, hr2, rr_some, h20', hm', BEq.rfl]) | (refine call_c (c_impl_DiskRead ⟨d.room, cf⟩ i lC zC _ ?_) <;> try simp only [go_sem, hA, e6, ho, hr2, rr_some, h20', hm', BEq.rfl]) | (refine call_c (c_within keep i hk0 _ ?_) <;> try simp only [go_sem, hA, e6, ho, hr2, rr_some, h20', hm', BEq.rfl]) | (fail))
            refine GC.now (hJ _ _ hi (by simp only [go_sem, hA, e6]) ⟨?_, ?_⟩) <;> try simp only [go_sem, hA, e6, hw]
          · have hr2 : readA ⟨d.room, cf⟩ i = none := by rw [hr, if_neg (fun q => q.elim h20 hm)]
            have hm' := decide_eq_false hm
            (try simp only [go_sem, hA, e6, ho, hr2, rr_some, rr_none, h20', hm', BEq.rfl]); repeat' (first | (with_reducible refine c_split (fun hb => ?_) (fun hb => ?_) <;> try simp only [go_sem, hb, hA, e6, ho, hr2, rr_some, rr_none, h20', hm', BEq.rfl]) | (with_reducible refine w_split (fun hb => ?_) (fun hb => ?_) <;> try simp only [go_sem, hb, hA, e6, ho, hr2, rr_some, rr_none, h20', hm', BEq.rfl]) | (with_reducible refine tw_split (fun hb => ?_) (fun hb => ?_) <;> try simp only [go_sem, hb, hA, e6, ho, hr2, rr_some, rr_none, h20', hm', BEq.rfl]) | (with_reducible refine draw_at 0 94 (by with_unfolding_all rfl) [(0, true, true), (1, true, false), (2, false, false), (3, false, false), (4, false, false), (5, false, true), (6, false, true), (7, true, true), (8, true, true), (9, false, true), (10, false, true)] (by kernel_rfl) ?_ <;> try simp only [go_sem, hA, e6, ho, hr2, rr_some, rr_none, h20', hm', BEq.rfl]) | (refine call_c (c_spec_DiskRead d i hn hz _ ?_) <;> try simp only [go_sem, hA, e6, ho, hr2, rr_some, rr_none, h20', hm', BEq.rfl]) | (refine call_c (c_impl_DiskRead ⟨d.room, cf⟩ i lC zC _ ?_) <;> try simp only [go_sem, hA, e6, ho, hr2, rr_some, rr_none, h20', hm', BEq.rfl]) | (refine call_c (c_within keep i hk0 _ ?_) <;> try simp only [go_sem, hA, e6, ho, hr2, rr_some, rr_none, h20', hm', BEq.rfl]) | (fail))
            refine GC.now (hJ _ _ hi (by simp only [go_sem, hA, e6]) ⟨?_, ?_⟩) <;> try simp only [go_sem, hA, e6, hw]
  · have e : clearDisk d keep = ⟨0, []⟩ := by rw [clearDisk, if_neg hc]
    (try simp only [go_sem, e, z0, BEq.rfl]); repeat' (first | (with_reducible refine c_split (fun hb => ?_) (fun hb => ?_) <;> try simp only [go_sem, hb, e, z0, BEq.rfl]) | (with_reducible refine w_split (fun hb => ?_) (fun hb => ?_) <;> try simp only [go_sem, hb, e, z0, BEq.rfl]) | (with_reducible refine tw_split (fun hb => ?_) (fun hb => ?_) <;> try simp only [go_sem, hb, e, z0, BEq.rfl]) | (with_reducible refine draw_at 0 94 (by with_unfolding_all rfl) [(0, true, true), (1, true, false), (2, false, false), (3, false, false), (4, false, false), (5, false, true), (6, false, true), (7, true, true), (8, true, true), (9, false, true), (10, false, true)] (by kernel_rfl) ?_ <;> try simp only [go_sem, e, z0, BEq.rfl]) | (refine call_c (c_impl_SegsClear d keep hn hk0 _ ?_) <;> try simp only [go_sem, e, z0, BEq.rfl]) | (refine call_c (c_spec_DiskOk d hn _ ?_) <;> try simp only [go_sem, e, z0, BEq.rfl]) | (with_reducible refine hQ _ _ ?_ <;> simp only [Try.f3, go_sem, e, z0, BEq.rfl]))
    · exact hk
    · exact hk
    · rename_i hb1
      exact absurd ⟨by simpa using hb1, by have := of_decide_eq_false hb; omega⟩ hc
end Go.Proofs.Ytaahlnjldenhpaa
