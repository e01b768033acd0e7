/- That the machine follows the further operations: lemmas on structs built, rows made and appended to. Conditions: none. -/
import Derived.Test.YtjfmfcdempkpdaaA3
namespace Go.AL
open Go.RowKit
set_option linter.unusedVariables false
set_option linter.unusedSimpArgs false

section
variable {P : Program} {base : Nat} {w0 : World} {φ : Phi} {h : AH} {w : World} {f : AF} {n : Nat} {a : Act}
theorem zeroA_spec {t : TypeId} {z : List CV} (hz : zeroA P t = some z) : ∃ i v, P.info? t = some i ∧ i.zero = some v ∧ z = v.cells.toList.map CV.c ∧ ∀ u ∈ v.cells.toList, u.oneCell' = true := by
  unfold zeroA at hz
  obtain ⟨v, h1, h2⟩ := Option.bind_eq_some_iff.1 hz
  obtain ⟨i, hi, hv⟩ := Option.bind_eq_some_iff.1 h1
  split at h2
  · rename_i hall
    cases h2
    exact ⟨i, v, hi, hv, rfl, fun u hu => (List.all_eq_true.1 hall) u hu⟩
  · cases h2
theorem conc_consts (φ : Phi) (vs : List Value) : (vs.map CV.c).map (CV.conc φ) = vs := by
  rw [List.map_map]
  exact (List.map_congr_left (fun v _ => rfl)).trans (List.map_id _)
theorem elemA_spec {t e : TypeId} (he : elemA P t = some e) : P.underlying t = some (.slice e) := by
  unfold elemA at he
  split at he
  · rename_i e' he'; cases he; exact he'
  · cases he
theorem kindA_spec {t : TypeId} {k : IntKind} (hk : kindA P t = some k) : P.underlying t = some (.int k) := by
  unfold kindA at hk
  split at hk
  · rename_i k' hk'; cases hk; exact hk'
  · cases hk
theorem strA_spec {t : TypeId} (hs : strA P t = true) : P.underlying t = some .string := by
  unfold strA at hs
  split at hs
  · assumption
  · cases hs
theorem fold_set (off : Nat) : ∀ (vs : List Value) (j : Nat) (C : Array Value), (vs.zipIdx j).foldl (fun cs (x : Value × Nat) => cs.setIfInBounds (off + x.2) x.1) C = (cset C.toList (off + j) vs).toArray
  | [], j, C => by simp [cset]
  | v :: r, j, C => by
    rw [List.zipIdx_cons, List.foldl_cons, fold_set off r (j + 1), cset]
    simp [Nat.add_assoc]
theorem cset_map {α β : Type} (g : α → β) : ∀ (vs cs : List α) (o : Nat), (cset cs o vs).map g = cset (cs.map g) o (vs.map g)
  | [], _, _ => rfl
  | v :: r, cs, o => by rw [cset, cset_map g r, List.map_cons, cset, List.map_set]
theorem fill_of (place : Nat → Option (Nat × Nat)) : ∀ (ps : List (Nat × List CV)) (qs : List (Nat × Value)) (cs cs' : List CV), ps.map (·.1) = qs.map (·.1) → (∀ (i : Nat) (p : Nat × List CV) (q : Nat × Value), ps[i]? = some p → qs[i]? = some q → q.2.cells = (p.2.map (CV.conc φ)).toArray) →
    fillA place cs ps = some cs' → Instr.fill place (cs.map (CV.conc φ)).toArray qs = some (cs'.map (CV.conc φ)).toArray
  | [], [], cs, cs', _, _, hf => by simp [fillA] at hf; subst hf; simp [Instr.fill]
  | [], _ :: _, _, _, h, _, _ => by simp at h
  | _ :: _, [], _, _, h, _, _ => by simp at h
  | (i, v) :: r, (i', q) :: r', cs, cs', h1, h2, hf => by
    simp only [List.map_cons, List.cons.injEq] at h1
    obtain ⟨rfl, h1⟩ := h1
    simp only [fillA] at hf
    split at hf
    · cases hf
    · rename_i off size hp
      split at hf
      · rename_i hc
        obtain ⟨hc1, hc2⟩ := hc
        have hq : q.cells = (v.map (CV.conc φ)).toArray := h2 0 (i, v) (i, q) rfl rfl
        simp only [Instr.fill, hp]
        rw [if_neg (by simp [hq, hc1]; omega)]
        have := fill_of place r r' (cset cs off v) cs' h1 (fun j p q hp hq => h2 (j + 1) p q (by simpa using hp) (by simpa using hq)) hf
        rw [hq]
        rw [cset_map] at this
        have hfs := fold_set off (v.map (CV.conc φ)) 0 (cs.map (CV.conc φ)).toArray
        simp only [Nat.add_zero] at hfs
        have e : ((v.map (CV.conc φ)).toArray.zipIdx.foldl (fun cs (x : Value × Nat) => cs.setIfInBounds (off + x.2) x.1) (cs.map (CV.conc φ)).toArray) = (cset (cs.map (CV.conc φ)) off (v.map (CV.conc φ))).toArray := by
          rw [← hfs]
          simp
        rw [← this]
        exact congrArg (fun x => Instr.fill place x r') e
      · cases hf
theorem fillA_wf (place : Nat → Option (Nat × Nat)) {m : Nat} : ∀ (ps : List (Nat × List CV)) (cs cs' : List CV), fillA place cs ps = some cs' → (∀ x ∈ cs, x.wf m) → (∀ p ∈ ps, ∀ x ∈ p.2, x.wf m) → ∀ x ∈ cs', x.wf m
  | [], cs, cs', hf, h1, _ => by simp [fillA] at hf; subst hf; exact h1
  | (i, v) :: r, cs, cs', hf, h1, h2 => by
    simp only [fillA] at hf
    split at hf
    · cases hf
    · split at hf
      · refine fillA_wf place r _ cs' hf (fun x hx => ?_) (fun p hp => h2 p (List.mem_cons_of_mem _ hp))
        rcases cset_mem hx with hx | hx
        · exact h1 x hx
        · exact h2 (i, v) (by simp) x hx
      · cases hf
theorem partsA_spec {m : Nat} : ∀ (parts : List (Nat × Operand)) (ps : List (Nat × List CV)) (_ : ∀ x, x ∈ parts.map (·.2) → a.eval x = (ev f x).conc φ) (_ : ∀ x, x ∈ parts.map (·.2) → (ev f x).wf m),
    partsA f parts = some ps → ps.map (·.1) = (parts.map fun p => (p.1, a.eval p.2)).map (·.1) ∧ (∀ (i : Nat) (p : Nat × List CV) (q : Nat × Value), ps[i]? = some p → (parts.map fun p => (p.1, a.eval p.2))[i]? = some q → q.2.cells = (p.2.map (CV.conc φ)).toArray) ∧ ∀ p ∈ ps, ∀ x ∈ p.2, x.wf m
  | [], ps, _, _, hp => by
    simp [partsA] at hp
    subst hp
    exact ⟨rfl, fun i p q h => by simp at h, fun p h => by cases h⟩
  | (i, x) :: r, ps, E, W, hp => by
    simp only [partsA] at hp
    split at hp
    · rename_i cs q hc hq
      cases hp
      obtain ⟨h1, h2, h3⟩ := partsA_spec r q (fun y hy => E y (by simp at hy ⊢; exact .inr hy)) (fun y hy => W y (by simp at hy ⊢; exact .inr hy)) hq
      refine ⟨by simp at h1 ⊢; exact h1, fun j p q hj hq => ?_, fun p hp => ?_⟩
      · cases j with
        | zero =>
          simp at hj hq
          subst hj hq
          rw [E x (by simp)]
          exact cellsA_conc hc
        | succ j => exact h2 j p q (by simpa using hj) (by simpa using hq)
      · rcases List.mem_cons.1 hp with rfl | hp
        · exact cellsA_wf hc (W x (by simp))
        · exact h3 p hp
    · cases hp
theorem repCV_get (z : List CV) (hz : 0 < z.length) : ∀ (n i : Nat), i < n * z.length → (repCV z n)[i]? = z[i % z.length]?
  | 0, i, h => by simp at h
  | n + 1, i, h => by
    rw [repCV]
    by_cases hi : i < z.length
    · rw [List.getElem?_append_left hi, Nat.mod_eq_of_lt hi]
    · rw [List.getElem?_append_right (by omega), repCV_get z hz n _ (by rw [Nat.succ_mul] at h; omega)]
      rw [Nat.mod_eq_sub_mod (a := i) (by omega)]
theorem made_of {e : TypeId} {z : List CV} {v : Value} (hv : z = v.cells.toList.map CV.c) (hk : 0 < z.length) (n : Nat) : (madeCells v.cells (n * z.length)) = ((repCV z n).map (CV.conc φ)).toArray := by
  have hzl : v.cells.size = z.length := by rw [hv]; simp
  apply Array.ext
  · simp [madeCells, repCV_length]
  · intro i h1 h2
    simp [madeCells] at h1
    have hm : i % z.length < v.cells.size := by rw [hzl]; exact Nat.mod_lt _ hk
    have hg := repCV_get z hk n i h1
    rw [List.getElem?_eq_getElem (by rw [repCV_length]; exact h1)] at hg
    have hz2 : z[i % z.length]? = some (CV.c (v.cells[i % z.length]'hm)) := by
      conv => lhs; lhs; rw [hv]
      simp
    rw [hz2] at hg
    have hg := Option.some.inj hg
    simp only [madeCells, Array.getElem_map, Array.getElem_range, List.getElem_toArray, List.getElem_map]
    rw [hg]
    simp only [CV.conc]
    rw [hzl, getElem!_pos v.cells _ hm]
theorem repCV_mem {z : List CV} {x : CV} : ∀ {n : Nat}, x ∈ repCV z n → x ∈ z
  | 0, h => by cases h
  | n + 1, h => by
    rw [repCV] at h
    rcases List.mem_append.1 h with h | h
    · exact h
    · exact repCV_mem h
/-- What a slice or a string holds, read off the world. -/
theorem rowA_spec (R : Rep base w0 φ h w) {k : Nat} {v : AV} {m : Nat} {cs : List CV} (hr : rowA h k v = some (m, cs)) : cs.length = m * k ∧ (Builtin.lenOf (v.conc φ)).run P w = .ok m w ∧ (Builtin.firstCells k m (v.conc φ)).run P w = .ok (cs.map (CV.conc φ)).toArray w ∧ ∀ x ∈ cs, x.wf h.length := by
  have slice : ∀ (l off len cap : Nat) (o : AO), h[l]? = some o → off + len * k ≤ o.cs.length → ((o.cs.drop off).take (len * k)).length = len * k ∧ (Builtin.lenOf (.slice (some (adr φ l off)) len cap)).run P w = .ok len w ∧
      (Builtin.firstCells k len (.slice (some (adr φ l off)) len cap)).run P w = .ok (((o.cs.drop off).take (len * k)).map (CV.conc φ)).toArray w ∧ ∀ x ∈ (o.cs.drop off).take (len * k), x.wf h.length := by
    intro l off len cap o ho hle
    have hlen : ((o.cs.drop off).take (len * k)).length = len * k := by simp; omega
    refine ⟨hlen, by simp [Builtin.lenOf], ?_, fun x hx => R.wf l o ho x (List.mem_of_mem_drop (List.mem_of_mem_take hx))⟩
    refine run_firstCells_some (P := P) w k len (adr φ l off) len cap _ (by rw [List.length_map, hlen]) (fun j u hj => ?_)
    rw [List.getElem?_map, List.getElem?_take] at hj
    split at hj
    · rw [List.getElem?_drop] at hj
      obtain ⟨x, hx, rfl⟩ := Option.map_eq_some_iff.1 hj
      have := R.cell ho hx
      simp only [adr, add_lit, Nat.add_assoc] at this ⊢
      exact this
    · cases hj
  unfold rowA at hr
  split at hr
  · simp only [Option.some.injEq, Prod.mk.injEq] at hr
    obtain ⟨rfl, rfl⟩ := hr
    refine ⟨by simp, by simp [AV.conc, CV.conc, Builtin.lenOf], by simp [AV.conc, CV.conc, Builtin.firstCells], fun x hx => by cases hx⟩
  · split at hr
    · obtain ⟨o, ho, hr⟩ := Option.bind_eq_some_iff.1 hr
      split at hr
      · rename_i hle
        cases hr
        exact slice _ _ _ _ o ho hle
      · cases hr
    · cases hr
  · obtain ⟨o, ho, hr⟩ := Option.bind_eq_some_iff.1 hr
    split at hr
    · rename_i hle
      cases hr
      exact slice _ _ _ _ o ho hle
    · cases hr
  · rename_i s
    split at hr
    · rename_i hk
      subst hk
      simp only [Option.some.injEq, Prod.mk.injEq] at hr
      obtain ⟨rfl, rfl⟩ := hr
      refine ⟨by rw [bytesCV, List.length_map, Nat.mul_one]; rfl, by simp [AV.conc, CV.conc, Builtin.lenOf], ?_, fun x hx => by obtain ⟨b, _, rfl⟩ := List.mem_map.1 hx; rfl⟩
      have e : s.extract 0 s.size = s := by
        apply ByteArray.ext
        rw [ByteArray.data_extract]
        show s.data.extract 0 s.data.size = s.data
        simp
      simp only [AV.conc, CV.conc, Builtin.firstCells, e, Sem.run_pure]
      congr 1
      apply Array.toList_inj.1
      rw [Array.toList_map, bytesCV, List.map_map]
      rfl
    · cases hr
  · cases hr

theorem Below.setRow {w0 w : World} (B : Below base w0 w) {g : Nat} (hg : base ≤ g) (cs : Array Value) : Below base w0 (w.setRow g cs) :=
  ⟨B.os, B.tape, B.output, by rw [size_setRow]; exact B.size, fun k hk => by rw [setRow_other w g k cs (by omega)]; exact B.block k hk⟩
end

section
variable {P : Program} {base : Nat} {w0 : World} {φ : Phi} {h : AH} {w : World} {f : AF} {n : Nat} {a : Act} {K : AV → AH → Prop} {next : Act → World → Prop} {Q : Exit → Act → World → Prop} {dst : Option Nat}
theorem srcT {t2 : TypeId} (h : ((elemA P t2).isSome || strA P t2) = true) : (∃ d, P.underlying t2 = some (.slice d)) ∨ P.underlying t2 = some .string := by
  rw [Bool.or_eq_true] at h
  rcases h with h | h
  · obtain ⟨e, he⟩ := Option.isSome_iff_exists.1 h
    exact .inl ⟨e, elemA_spec he⟩
  · exact .inr (strA_spec h)
set_option maxHeartbeats 1000000 in
/-- An append that makes a new row. -/
theorem app_new (R : Rep base w0 φ h w) {t e : TypeId} (t2 ty : TypeId) {k by_ : Nat} (z : List CV) (ht : P.underlying t = some (.slice e)) (hk : sizeA P e = some k) (hby : bytesA P e = some by_) (hz : zeroA P e = some z) (hzk : z.length = k) (hk0 : 0 < k)
    (ht2 : ((elemA P t2).isSome || strA P t2) = true) (ba : Option Addr) (sLen sCap : Nat) (olds : List CV) (hol : olds.length = sLen * k) (holds : (Builtin.firstCells k sLen (.slice ba sLen sCap)).run P w.drew = .ok (olds.map (CV.conc φ)).toArray w.drew) (how : ∀ x ∈ olds, x.wf h.length)
    (x : Value) (m : Nat) (news : List CV) (hnl : news.length = m * k) (hlen : (Builtin.lenOf x).run P w = .ok m w) (hnews : (Builtin.firstCells k m x).run P w.drew = .ok (news.map (CV.conc φ)).toArray w.drew) (hnw : ∀ x ∈ news, x.wf h.length)
    (hgt : sCap < sLen + m) (hbytes : (sLen + m) * by_ ≤ 140737488355328) (h63 : sLen + m ≤ maxLen) :
    ∃ φ' v' w', (Builtin.append_ #[t, t2] ty #[.slice ba sLen sCap, x]).run P w = .ok v' w' ∧ v' = (AV.one (.sl h.length k 0 (sLen + m))).conc φ' ∧ Rep base w0 φ' (h ++ [.own e k false (olds ++ news)]) w' ∧ ∀ l, l < h.length → φ' l = φ l := by
  obtain ⟨i, zv, hi, hiz, hzz, hz1⟩ := zeroA_spec hz
  have hsz : i.size = k := by unfold sizeA at hk; rw [hi] at hk; simpa using hk
  have hbt : i.bytes = by_ := by unfold bytesA at hby; rw [hi] at hby; simpa using hby
  have hzs : zv.cells.size = k := by rw [← hzk, hzz]; simp
  have hcap := grownCap_ge w (sLen + m) sCap e
  have hcm := grownCap_le_maxLen w (sLen + m) sCap e h63
  have hfit := growslice_fits (bytes := by_) hgt hbytes
  have hne : ¬ ((sLen + m : Nat) : Int) > IntKind.i64.max := by
    simp only [IntKind.max, IntKind.signed, IntKind.bits, maxLen] at h63 ⊢
    omega
  have hrun : (Builtin.append_ #[t, t2] ty #[.slice ba sLen sCap, x]).run P w = .ok (.slice (some ⟨w.heap.size, 0, none⟩) (sLen + m) (grownCap w (sLen + m) sCap e))
      (w.drew.alloc (.cells ((olds.map (CV.conc φ)).toArray ++ (news.map (CV.conc φ)).toArray ++ Builtin.zeroCells zv.cells (grownCap w (sLen + m) sCap e - (sLen + m))) e)) := by
    have hn : ¬ (sLen + m ≤ sCap) := by omega
    have h63' : ¬ (9223372036854775807 < ((sLen : Int) + (m : Int))) := by unfold maxLen at h63; omega
    have h48' : ¬ (281474976710656 < Builtin.nextslicecap (sLen + m) sCap * i.bytes) := by rw [hbt]; omega
    subst hsz
    rcases srcT ht2 with ⟨d, hd⟩ | hd
    · simp [Builtin.append_, run_underlying ht, run_underlying hd, sizeOf, typeInfo, zeroValue, hi, hiz, hlen, hn, h63', h48', Question.forced, hnews, holds, newRow, grownCap]
      congr 2
      apply Array.toList_inj.1
      simp
    · simp [Builtin.append_, run_underlying ht, run_underlying hd, sizeOf, typeInfo, zeroValue, hi, hiz, hlen, hn, h63', h48', Question.forced, hnews, holds, newRow, grownCap]
      congr 2
      apply Array.toList_inj.1
      simp
  let C := (olds.map (CV.conc φ)).toArray ++ (news.map (CV.conc φ)).toArray ++ Builtin.zeroCells zv.cells (grownCap w (sLen + m) sCap e - (sLen + m))
  have hCs : C.size = grownCap w (sLen + m) sCap e * k := by
    simp [C, Builtin.zeroCells, hol, hnl, hzs]
    rw [← Nat.add_mul, ← Nat.add_mul]
    congr 1
    omega
  have R' := R.drew.alloc e k false (olds ++ news) C (0, 0) (.inl (Nat.le_refl _)) (by simp [C]) (fun hf => by cases hf) (fun _ => ⟨rfl, _, hCs, hcm⟩)
    (fun y hy => by rcases List.mem_append.1 hy with hy | hy; exact how y hy; exact hnw y hy) (fun j y hj => by
      have hlt := (List.getElem?_eq_some_iff.1 hj).1
      have : (olds ++ news).map (CV.conc φ) = olds.map (CV.conc φ) ++ news.map (CV.conc φ) := List.map_append
      simp only [C]
      rw [Array.getElem?_append_left (by simp at hlt ⊢; omega)]
      have e2 : (olds.map (CV.conc φ)).toArray ++ (news.map (CV.conc φ)).toArray = ((olds ++ news).map (CV.conc φ)).toArray := by rw [this]; simp
      rw [e2, List.getElem?_toArray, List.getElem?_map, hj]
      rfl)
  refine ⟨_, _, _, hrun, ?_, R', fun l hl => phiAt_lt φ _ hl⟩
  simp only [AV.conc, CV.conc, adr, phiAt_at, hCs, Nat.sub_zero, Nat.mul_div_cancel _ hk0]
  rfl

theorem cset_take {α : Type} (C vs : List α) (o j : Nat) (h : o + vs.length ≤ C.length) (hj : j < o + vs.length) : (cset C o vs)[j]? = (C.take o ++ vs)[j]? := by
  rw [cset_get _ _ _ _ h]
  by_cases h1 : o ≤ j
  · rw [if_pos ⟨h1, hj⟩, List.getElem?_append_right (by rw [List.length_take]; omega), List.length_take, Nat.min_eq_left (by omega)]
  · rw [if_neg (by omega), List.getElem?_append_left (by rw [List.length_take]; omega), List.getElem?_take, if_pos (by omega)]
set_option maxHeartbeats 1000000 in
/-- An append within the capacity: the machine's side. -/
theorem app_room (R : Rep base w0 φ h w) {t e : TypeId} (t2 ty : TypeId) {k : Nat} (ht : P.underlying t = some (.slice e)) (hk : sizeA P e = some k) (ht2 : ((elemA P t2).isSome || strA P t2) = true)
    {l u : Nat} {te : TypeId} {full : Bool} {cs : List CV} (hl : h[l]? = some (.own te u full cs)) (hu : u = k) (hk0 : 0 < k) (sLen sCap : Nat) (x : Value) (m : Nat) (news : List CV) (hnl : news.length = m * k)
    (hlen : (Builtin.lenOf x).run P w = .ok m w) (hnews : (Builtin.firstCells k m x).run P w = .ok (news.map (CV.conc φ)).toArray w) (hnw : ∀ x ∈ news, x.wf h.length) (hle : sLen + m ≤ sCap) (hfit : sCap * k ≤ (φ l).cap) :
    (Builtin.append_ #[t, t2] ty #[.slice (some (adr φ l 0)) sLen sCap, x]).run P w = .ok (.slice (some (adr φ l 0)) (sLen + m) sCap) (w.setCells (φ l).b (sLen * k) (news.map (CV.conc φ))) := by
  obtain ⟨g1, g2, C, fr, g3, g4, g5, g6, g7, g8, g9⟩ := R.obj l _ hl
  have hm : (sLen + m) * k ≤ sCap * k := Nat.mul_le_mul_right k hle
  rw [Nat.add_mul] at hm
  have hst := run_storeCells_cells (P := P) (φ l).b (sLen * k) (news.map (CV.conc φ)) 0 w (fun j hj => by
      simp only [List.length_map] at hj
      rw [Nat.add_zero, Joins.cell_of_block g3, Array.getElem?_eq_getElem (by omega)]; rfl) (fun j hj => by
      simp only [List.length_map] at hj
      obtain ⟨lo, hi⟩ := fr
      rw [Nat.add_zero]
      simp only [World.frozen?, g3]
      rcases g5 with h5 | h5 <;> simp at h5 ⊢ <;> omega) (fun v hv => by
      obtain ⟨c, hc, rfl⟩ := List.mem_map.1 hv
      exact CV.one_wf φ (hnw c hc))
  obtain ⟨i, hi, hsz⟩ := Option.map_eq_some_iff.1 (show (P.info? e).map (·.size) = some k from hk)
  subst hsz
  have hadd : (adr φ l 0).add (sLen * i.size) = ⟨(φ l).b, sLen * i.size, none⟩ := by simp only [adr, g2, add_lit, Nat.zero_add]
  rw [Nat.add_zero] at hst
  rcases srcT ht2 with ⟨d, hd⟩ | hd
  · simp [Builtin.append_, run_underlying ht, run_underlying hd, sizeOf, typeInfo, hi, hlen, hle, hnews, hadd, hst]
  · simp [Builtin.append_, run_underlying ht, run_underlying hd, sizeOf, typeInfo, hi, hlen, hle, hnews, hadd, hst]
/-- An append of nothing. -/
theorem app_none {t e : TypeId} (t2 ty : TypeId) {k : Nat} (ht : P.underlying t = some (.slice e)) (hk : sizeA P e = some k) (ht2 : ((elemA P t2).isSome || strA P t2) = true) (ba : Option Addr) (sLen sCap : Nat) (hc : sLen ≤ sCap) (x : Value)
    (hlen : (Builtin.lenOf x).run P w = .ok 0 w) (hnews : (Builtin.firstCells k 0 x).run P w = .ok #[] w) :
    (Builtin.append_ #[t, t2] ty #[.slice ba sLen sCap, x]).run P w = .ok (.slice ba sLen sCap) w := by
  obtain ⟨i, hi, hsz⟩ := Option.map_eq_some_iff.1 (show (P.info? e).map (·.size) = some k from hk)
  subst hsz
  rcases srcT ht2 with ⟨d, hd⟩ | hd <;> cases ba <;>
    simp [Builtin.append_, run_underlying ht, run_underlying hd, sizeOf, typeInfo, hi, hlen, hc, hnews, storeCells]
/-- What an append leaves, in whatever case. -/
theorem app_sound (R : Rep base w0 φ h w) {t e : TypeId} (t2 ty : TypeId) {k by_ : Nat} (z : List CV) (ht : P.underlying t = some (.slice e)) (hk : sizeA P e = some k) (hby : bytesA P e = some by_) (hz : zeroA P e = some z) (hzk : z.length = k) (hk0 : 0 < k) (hb0 : 0 < by_)
    (ht2 : ((elemA P t2).isSome || strA P t2) = true) {x : AV} {m : Nat} {news : List CV} (hr : rowA h k x = some (m, news)) {s : AV} (hs : s.wf h.length) (H : appA e k by_ h s m news K) :
    ∃ φ' v h' w', (Builtin.append_ #[t, t2] ty #[s.conc φ, x.conc φ]).run P w = .ok (v.conc φ') w' ∧ K v h' ∧ Rep base w0 φ' h' w' ∧ h.length ≤ h'.length ∧ (∀ l, l < h.length → φ' l = φ l) ∧ v.wf h'.length := by
  obtain ⟨hnl, hlen, hnews, hnw⟩ := rowA_spec (P := P) R hr
  obtain ⟨_, hlenD, hnewsD, _⟩ := rowA_spec (P := P) R.drew hr
  have hmax : ∀ q, q * by_ ≤ 140737488355328 → q ≤ maxLen := fun q hq => by
    have : q * 1 ≤ q * by_ := Nat.mul_le_mul_left q hb0
    unfold maxLen
    omega
  have hsl : ∀ (l k' off len : Nat), s = .one (.sl l k' off len) → l < h.length := fun l k' off len e => by
    subst e
    unfold AV.wf CV.wf at hs
    rcases hs with hs | ⟨v, hs⟩
    · exact hs
    · cases hs
  unfold appA at H
  split at H
  · -- nil
    split at H
    · rename_i hm
      subst hm
      have hn0 : news = [] := List.length_eq_zero_iff.1 (by rw [hnl, Nat.zero_mul])
      subst hn0
      refine ⟨φ, _, h, w, ?_, H, R, Nat.le_refl _, fun _ _ => rfl, hs⟩
      simp only [AV.conc, CV.conc]
      exact app_none t2 ty ht hk ht2 none 0 0 (Nat.le_refl _) _ hlen (by simpa using hnews)
    · rename_i hm
      obtain ⟨hby2, H⟩ := H
      obtain ⟨φ', v', w', hrun, hv', R', hag⟩ := app_new R t2 ty z ht hk hby hz hzk hk0 ht2 none 0 0 [] (by simp) (by simp [Builtin.firstCells]) (fun x hx => by cases hx) (x.conc φ) m news hnl hlen hnewsD hnw (by omega) (by rw [Nat.zero_add]; exact hby2) (by rw [Nat.zero_add]; exact hmax _ hby2)
      rw [Nat.zero_add] at hv'
      subst hv'
      exact ⟨φ', _, _, w', by simpa only [AV.conc, CV.conc] using hrun, H, R', Rep.len_app h _, hag, by unfold AV.wf CV.wf; exact .inl (by simp)⟩
  · rename_i l k' off len
    have hll := hsl l k' off len rfl
    obtain ⟨rfl, H0⟩ := H
    obtain ⟨o, ho, hlo, H⟩ := H0.elim
    clear H0
    split at H
    · rename_i hm
      subst hm
      have hn0 : news = [] := List.length_eq_zero_iff.1 (by rw [hnl, Nat.zero_mul])
      subst hn0
      refine ⟨φ, _, h, w, ?_, H, R, Nat.le_refl _, fun _ _ => rfl, hs⟩
      simp only [AV.conc, CV.conc]
      refine app_none t2 ty ht hk ht2 (some (adr φ l off)) len _ ?_ _ hlen (by simpa using hnews)
      have hoc : o.cs.length ≤ (φ l).cap := by
        have ro := R.obj l o ho
        cases o with
        | dead => simp [AO.cs]
        | ro cs => exact ro.1.2
        | own t u full cs => obtain ⟨_, _, C, fr, _, g4, _, g6, _⟩ := ro; rw [← g4]; exact g6
      exact (Nat.le_div_iff_mul_le hk0).2 (by omega)
    · rename_i hm
      obtain ⟨rfl, H⟩ := H
      split at H
      · rename_i e' u full cs
        obtain ⟨rfl, rfl, hby2, H⟩ := H
        have hlc : len * u ≤ cs.length := by simpa [AO.cs] using hlo
        obtain ⟨g1, g2, C, fr, g3, g4, g5, g6, g7, g8, g9⟩ := R.obj l _ ho
        obtain ⟨hfr, q, hq, hqm⟩ := g8 (by omega)
        have hcap : ((φ l).cap - 0) / u = q := by rw [Nat.sub_zero, ← g4, hq, Nat.mul_div_cancel _ hk0]
        have hold : ∀ W : World, Rep base w0 φ h W → (Builtin.firstCells u len (.slice (some (adr φ l 0)) len q)).run P W = .ok ((cs.take (len * u)).map (CV.conc φ)).toArray W := fun W RW => by
          have := (rowA_spec (P := P) RW (k := u) (v := .one (.slc l 0 len q)) (m := len) (cs := (cs.drop 0).take (len * u)) (by
            simp only [rowA, ho, Option.bind_some, AO.cs, Nat.zero_add]
            rw [if_pos hlc])).2.2.1
          simpa [AV.conc, CV.conc] using this
        have hwt : ∀ y ∈ cs.take (len * u), y.wf h.length := fun y hy => R.wf l _ ho y (List.mem_of_mem_take hy)
        have htl : (cs.take (len * u)).length = len * u := by rw [List.length_take, Nat.min_eq_left hlc]
        have hlq : len ≤ q := Nat.le_of_mul_le_mul_right (by rw [← hq]; omega) hk0
        simp only [AV.conc, CV.conc]
        rw [hcap]
        obtain ⟨s1, s2, s3, s4, s5⟩ := setCells_other (φ l).b (news.map (CV.conc φ)) (len * u) w
        have hb2 := heap_setCells (φ l).b e' fr (news.map (CV.conc φ)) (len * u) w C.toList (by simpa using g3)
        have hcl : (cset C.toList (len * u) (news.map (CV.conc φ))).toArray.size = C.size := by simp [cset_length]
        split at H
        · rename_i hfit
          have hroom : len + m ≤ q := Nat.le_of_mul_le_mul_right (by rw [← hq]; omega) hk0
          have hrun := app_room R t2 ty ht hk ht2 ho rfl hk0 len q (x.conc φ) m news hnl hlen hnews hnw hroom (by rw [← g4, hq]; exact Nat.le_refl _)
          have R' := R.setCells ho (len * u) news (by rw [hnl, ← Nat.add_mul]; exact hfit) hnw
          refine ⟨φ, _, _, _, ?_, H, R', by simp, fun _ _ => rfl, by unfold AV.wf CV.wf; exact .inl (by simpa using hll)⟩
          rw [hrun]
          simp only [AV.conc, CV.conc]
          rw [hcap]
        · rename_i hnfit
          split at H
          · rename_i hfull
            have hcc := g7 hfull
            obtain ⟨φ', v', w', hrun, hv', R', hag⟩ := app_new R t2 ty z ht hk hby hz hzk hk0 ht2 (some (adr φ l 0)) len q (cs.take (len * u)) htl (hold _ R.drew) hwt (x.conc φ) m news hnl hlen hnewsD hnw (by
              refine Nat.lt_of_mul_lt_mul_right (a := u) ?_
              rw [← hq, ← hcc]; omega) hby2 (hmax _ hby2)
            subst hv'
            exact ⟨φ', _, _, w', hrun, H, R', Rep.len_app h _, hag, by unfold AV.wf CV.wf; exact .inl (by simp)⟩
          · by_cases hroom : len + m ≤ q
            · have hrun := app_room R t2 ty ht hk ht2 ho rfl hk0 len q (x.conc φ) m news hnl hlen hnews hnw hroom (by rw [← g4, hq]; exact Nat.le_refl _)
              have hfitC : len * u + news.length ≤ C.size := by rw [hnl, ← Nat.add_mul, hq]; exact Nat.mul_le_mul_right _ hroom
              have R1 := R.write ho s1 s2 s3 s4 s5 _ fr hb2 (by rw [hcl, g4]) (by rw [hcl]; exact g5) (fun _ => hfr) false (cs.take (len * u) ++ news) (by rw [hcl, List.length_append, htl]; exact hfitC) (fun hf => by cases hf)
                (fun y hy => by rcases List.mem_append.1 hy with hy | hy; exact hwt y hy; exact hnw y hy) (fun j y hj => by
                  have hjl := (List.getElem?_eq_some_iff.1 hj).1
                  rw [List.length_append, htl] at hjl
                  rw [List.getElem?_toArray, cset_take _ _ _ _ (by rw [List.length_map]; simpa using hfitC) (by rw [List.length_map]; exact hjl)]
                  by_cases hj2 : j < len * u
                  · rw [List.getElem?_append_left (by rw [htl]; exact hj2), List.getElem?_take, if_pos hj2] at hj
                    rw [List.getElem?_append_left (by rw [List.length_take]; simp; omega), List.getElem?_take, if_pos hj2]
                    simpa using g9 j y hj
                  · rw [List.getElem?_append_right (by rw [htl]; omega), htl] at hj
                    have hC2 : (C.toList.take (len * u)).length = len * u := by rw [List.length_take]; simp; omega
                    rw [List.getElem?_append_right (by rw [hC2]; omega), hC2, List.getElem?_map, hj]
                    rfl)
              have R2 := R1.renew (l := l) (by rw [List.getElem?_set_self hll])
              rw [List.length_set, List.set_set] at R2
              refine ⟨_, _, _, _, hrun.trans ?_, H, R2, by simp, fun l' hl' => phiAt_lt φ _ hl', by unfold AV.wf CV.wf; exact .inl (by simp)⟩
              simp only [AV.conc, CV.conc, adr, phiAt_at]
              rw [hcap]
            · obtain ⟨φ', v', w', hrun, hv', R', hag⟩ := app_new R t2 ty z ht hk hby hz hzk hk0 ht2 (some (adr φ l 0)) len q (cs.take (len * u)) htl (hold _ R.drew) hwt (x.conc φ) m news hnl hlen hnewsD hnw (by omega) hby2 (hmax _ hby2)
              subst hv'
              have R2 := R'.kill l
              rw [List.set_append_left _ _ hll] at R2
              exact ⟨φ', _, _, w', hrun, H, R2, by simp, hag, by unfold AV.wf CV.wf; exact .inl (by simp)⟩
      · exact H.elim
  · rename_i l off len cap
    split at H
    · rename_i hm
      subst hm
      have hn0 : news = [] := List.length_eq_zero_iff.1 (by rw [hnl, Nat.zero_mul])
      subst hn0
      refine ⟨φ, _, h, w, ?_, H.2, R, Nat.le_refl _, fun _ _ => rfl, hs⟩
      simp only [AV.conc, CV.conc]
      exact app_none t2 ty ht hk ht2 (some (adr φ l off)) len _ H.1 _ hlen (by simpa using hnews)
    · rename_i hm
      obtain ⟨hlt, H⟩ := H
      obtain ⟨o, ho, hlo, hby2, H⟩ := H.elim
      have hold := rowA_spec (P := P) R.drew (k := k) (v := .one (.slc l off len cap)) (m := len) (cs := (o.cs.drop off).take (len * k)) (by
        simp only [rowA, ho, Option.bind_some]
        rw [if_pos hlo])
      obtain ⟨φ', v', w', hrun, hv', R', hag⟩ := app_new R t2 ty z ht hk hby hz hzk hk0 ht2 (some (adr φ l off)) len cap _ hold.1 (by simpa [AV.conc, CV.conc] using hold.2.2.1) hold.2.2.2 (x.conc φ) m news hnl hlen hnewsD hnw hlt hby2 (hmax _ hby2)
      subst hv'
      exact ⟨φ', _, _, w', by simpa only [AV.conc, CV.conc] using hrun, H, R', Rep.len_app h _, hag, by unfold AV.wf CV.wf; exact .inl (by simp)⟩
  · exact H.elim
end
end Go.AL
