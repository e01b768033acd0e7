/- That the machine follows each operation. Conditions: none. -/
import Derived.Test.YtedkpjaojdkpcaaGreatL4
namespace Go.BL
open Go.RowKit
set_option linter.unusedVariables false
set_option linter.unusedSimpArgs false
section
variable {P : Program} {G : Cx} {φ : Phi} {M : Im} {h : AH} {w : World} {f : AF} {n : Nat} {a : Act} {S : Nat → Bool} {K : AV → AH → Prop} {next : Act → World → Prop} {Q : Exit → Act → World → Prop}
theorem boundA_spec {d : Nat} {x : Option AV} {i : Nat} (hx : boundA d x = some i) : (x = none ∧ i = d) ∨ ∃ k q, x = some (.one (.c (.int k q))) ∧ 0 ≤ q ∧ i = q.toNat := by
  unfold boundA at hx
  split at hx
  · cases hx; exact .inl ⟨rfl, rfl⟩
  · split at hx
    · rename_i k q h0
      cases hx
      exact .inr ⟨_, _, rfl, h0, rfl⟩
    · cases hx
  · cases hx
theorem run_bound {x : Option Operand} (E : ∀ y, x = some y → VA φ M (ev f y) (a.eval y)) (d i : Nat) (hx : boundA d (x.map (ev f)) = some i) (y : Nat) (hy : i ≤ y) (code : BoundsCode) (w : World) :
    (match x.map a.eval with | some v => Instr.sliceBound v y code | none => pure d).run P w = .ok i w := by
  rcases boundA_spec hx with ⟨h1, rfl⟩ | ⟨k, q, h1, h0, rfl⟩
  · cases x with
    | none => rfl
    | some z => cases h1
  · cases x with
    | none => cases h1
    | some z =>
      have e := E z rfl
      simp only [Option.map_some, Option.some.injEq] at h1
      rw [h1] at e
      have e := VA_c e
      simp only [Option.map_some, e, Instr.sliceBound, asIntOf, Sem.run_bind, Sem.run_pure, Result.andThen_ok]
      rw [if_pos ⟨h0, by omega⟩]
      rfl
theorem Vs.cset {cs vs : List CV} {us ws : List Value} (H : Vs φ M cs us) (H' : Vs φ M vs ws) (o : Nat) (hfit : o + vs.length ≤ cs.length) : Vs φ M (cset cs o vs) (BL.cset us o ws) := by
  have h1 := H.1
  have h2 := H'.1
  refine ⟨by rw [cset_length, cset_length, h1], fun j x hj => ?_⟩
  rw [cset_get _ _ _ _ hfit] at hj
  rw [cset_get _ _ _ _ (by omega), h2]
  split
  · rename_i hc
    rw [if_pos hc] at hj
    exact H'.2 _ x hj
  · rename_i hc
    rw [if_neg hc] at hj
    exact H.2 _ x hj
theorem fold_set (off : Nat) : ∀ (vs : List Value) (j : Nat) (C : Array Value), (vs.zipIdx j).foldl (fun cs (x : Value × Nat) => cs.setIfInBounds (off + x.2) x.1) C = (cset C.toList (off + j) vs).toArray
  | [], j, C => by simp [cset]
  | v :: r, j, C => by
    rw [List.zipIdx_cons, List.foldl_cons, fold_set off r (j + 1), cset]
    simp [Nat.add_assoc]
/-- Parts, told and laid. -/
def PartsV (φ : Phi) (M : Im) (ps : List (Nat × List CV)) (qs : List (Nat × Value)) : Prop := ps.map (·.1) = qs.map (·.1) ∧ ∀ (i : Nat) (p : Nat × List CV) (q : Nat × Value), ps[i]? = some p → qs[i]? = some q → ∃ us, q.2.cells = us.toArray ∧ Vs φ M p.2 us
theorem PartsV.tail {p : Nat × List CV} {q : Nat × Value} {ps : List (Nat × List CV)} {qs : List (Nat × Value)} (H : PartsV φ M (p :: ps) (q :: qs)) : p.1 = q.1 ∧ PartsV φ M ps qs := by
  obtain ⟨h1, h2⟩ := H
  simp only [List.map_cons, List.cons.injEq] at h1
  exact ⟨h1.1, h1.2, fun i p' q' hp hq => h2 (i + 1) p' q' (by simpa using hp) (by simpa using hq)⟩
theorem fill_of (place : Nat → Option (Nat × Nat)) : ∀ (ps : List (Nat × List CV)) (qs : List (Nat × Value)) (cs cs' : List CV) (us : List Value), PartsV φ M ps qs → Vs φ M cs us → fillA place cs ps = some cs' → ∃ us', Instr.fill place us.toArray qs = some us'.toArray ∧ Vs φ M cs' us'
  | [], [], cs, cs', us, _, hus, hf => by simp [fillA] at hf; subst hf; exact ⟨us, by simp [Instr.fill], hus⟩
  | [], _ :: _, _, _, _, h, _, _ => by have := h.1; simp at this
  | _ :: _, [], _, _, _, h, _, _ => by have := h.1; simp at this
  | (i, v) :: r, (i', q) :: r', cs, cs', us, hp, hus, hf => by
    obtain ⟨he, ht⟩ := hp.tail
    simp only at he
    subst he
    obtain ⟨qs, hq, hqv⟩ := hp.2 0 (i, v) (i, q) rfl rfl
    simp only at hq hqv
    simp only [fillA] at hf
    split at hf
    · cases hf
    · rename_i off size hpl
      split at hf
      · rename_i hc
        obtain ⟨hc1, hc2⟩ := hc
        have h1 := hus.1
        have h2 := hqv.1
        simp only [Instr.fill, hpl]
        rw [if_neg (by simp [hq, h2, hc1]; omega)]
        obtain ⟨us', h3, h4⟩ := fill_of place r r' (cset cs off v) cs' (cset us off qs) ht (hus.cset hqv off (by omega)) hf
        refine ⟨us', ?_, h4⟩
        rw [hq]
        have hfs := fold_set off qs 0 us.toArray
        simp only [Nat.add_zero] at hfs
        have e : (qs.toArray.zipIdx.foldl (fun cs (x : Value × Nat) => cs.setIfInBounds (off + x.2) x.1) us.toArray) = (cset us off qs).toArray := by
          rw [← hfs]
          simp
        rw [← h3]
        exact congrArg (fun x => Instr.fill place x r') e
      · cases hf
theorem partsA_spec : ∀ (parts : List (Nat × Operand)) (ps : List (Nat × List CV)) (_ : ∀ x, x ∈ parts.map (·.2) → VA φ M (ev f x) (a.eval x)), partsA f parts = some ps → PartsV φ M ps (parts.map fun p => (p.1, a.eval p.2))
  | [], ps, _, hp => by
    simp [partsA] at hp
    subst hp
    exact ⟨rfl, fun i p q h => by simp at h⟩
  | (i, x) :: r, ps, E, hp => by
    simp only [partsA] at hp
    split at hp
    · rename_i cs q hc hq
      cases hp
      obtain ⟨h1, h2⟩ := partsA_spec r q (fun y hy => E y (by simp at hy ⊢; exact .inr hy)) hq
      refine ⟨by simp at h1 ⊢; exact h1, fun j p q hj hq => ?_⟩
      cases j with
      | zero =>
        simp at hj hq
        subst hj hq
        exact cellsA_V hc (E x (by simp))
      | succ j => exact h2 j p q (by simpa using hj) (by simpa using hq)
    · cases hp
theorem build_sound (dst : Option Tmp) (ty : TypeId) (pos : String) (aft : Array Edge) (guard : Option (Nat × Bool)) (t : TypeId) (parts : Array (Nat × Operand)) (R : Rep G φ M h w)
    (E : ∀ x, x ∈ parts.toList.map (·.2) → VA φ M (ev f x) (a.eval x)) (H : aop P (.build t parts) f h K) (A : After G φ M h w a S dst K next) :
    Oper.wp P ⟨dst, .build t parts, ty, pos, aft, guard⟩ a w next Q := by
  simp only [aop] at H
  obtain ⟨pl, hpl, H⟩ := H.elim
  obtain ⟨z, hz, H⟩ := H.elim
  obtain ⟨ps, hps, H⟩ := H.elim
  obtain ⟨cs, hcs, H⟩ := H.elim
  obtain ⟨i, v, hi, hiv, hzv, hz1⟩ := zeroA_spec hz
  have hp := partsA_spec (φ := φ) (M := M) (a := a) parts.toList ps E hps
  obtain ⟨us', hf, hv⟩ := fill_of (pl[·]?) ps _ z cs v.cells.toList hp (by rw [hzv]; exact Vs_cvOf _ hz1) hcs
  have hq : (parts.toList.map fun p => (p.1, a.eval p.2)) = (parts.map fun (i, x) => (i, a.eval x)).toList := by simp
  rw [hq] at hf
  have hb : P.built t (parts.map fun (i, x) => (i, a.eval x)).toList = some us'.toArray := by
    unfold placesA at hpl
    split at hpl
    · rename_i fs hfs
      simp only [Program.built, hi, hfs, hiv, hpl]
      simpa using hf
    · cases hpl
  have hr := run_build (P := P) w t _ _ hb
  simp only [Oper.wp, execOp, Sem.run_bind, hr, Sem.run_pure, Result.andThen_ok, Oper.upon]
  exact A.val (v := .agg cs) R H ⟨us', rfl, hv⟩
theorem flat_get {k : Nat} : ∀ {es : List (List CV)}, Ks k es → ∀ {i j : Nat} {e : List CV} {x : CV}, es[i]? = some e → e[j]? = some x → es.flatten[i * k + j]? = some x
  | [], _, i, j, e, x, hi, _ => by simp at hi
  | e0 :: r, hk, 0, j, e, x, hi, hj => by
    simp at hi
    subst hi
    rw [Nat.zero_mul, Nat.zero_add, List.flatten_cons, List.getElem?_append_left (List.getElem?_eq_some_iff.1 hj).1]
    exact hj
  | e0 :: r, hk, i + 1, j, e, x, hi, hj => by
    have h0 : e0.length = k := hk e0 (by simp)
    rw [List.flatten_cons, List.getElem?_append_right (by rw [Nat.succ_mul]; omega), h0, show (i + 1) * k + j - k = i * k + j by rw [Nat.succ_mul]; omega]
    exact flat_get (fun e he => hk e (List.mem_cons_of_mem _ he)) (by simpa using hi) hj
theorem flat_len {k : Nat} : ∀ {es : List (List CV)}, Ks k es → es.flatten.length = es.length * k
  | [], _ => by simp
  | e0 :: r, hk => by
    rw [List.flatten_cons, List.length_append, flat_len (fun e he => hk e (List.mem_cons_of_mem _ he)), hk e0 (by simp), List.length_cons, Nat.succ_mul, Nat.add_comm]
theorem flat_set {k : Nat} {v : List CV} (hv : v.length = k) : ∀ {es : List (List CV)}, Ks k es → ∀ {i : Nat}, i < es.length → (es.set i v).flatten = cset es.flatten (i * k) v
  | es, hk, i, hi => by
    have hk2 : Ks k (es.set i v) := fun e he => by
      rcases List.mem_or_eq_of_mem_set he with he | rfl
      · exact hk e he
      · exact hv
    have hfit : i * k + v.length ≤ es.flatten.length := by
      rw [flat_len hk, hv, ← Nat.succ_mul]
      exact Nat.mul_le_mul_right k hi
    apply List.ext_getElem?
    intro q
    by_cases hq : q < es.length * k
    · obtain ⟨a, b, ha, hb, rfl⟩ := place_of hq
      have hel : es[a].length = k := hk _ (List.getElem_mem ha)
      rw [cset_get _ _ _ _ hfit, hv]
      by_cases e : a = i
      · subst e
        rw [if_pos (by omega), show a * k + b - a * k = b by omega]
        have h1 : (es.set a v)[a]? = some v := List.getElem?_set_self hi
        rw [flat_get hk2 h1 (List.getElem?_eq_getElem (by omega : b < v.length))]
        exact (List.getElem?_eq_getElem (by omega)).symm
      · have h1 : (es.set i v)[a]? = some es[a] := by rw [List.getElem?_set_ne (Ne.symm e)]; exact List.getElem?_eq_getElem ha
        have h2 := flat_get hk2 h1 (List.getElem?_eq_getElem (by omega : b < es[a].length))
        have h3 := flat_get hk (List.getElem?_eq_getElem ha) (List.getElem?_eq_getElem (by omega : b < es[a].length))
        rw [if_neg (fun q => e (by
          have := place_ne (k := k) (i := a) (j := b) (i' := i) (j' := a * k + b - i * k) hb (by omega) (by omega)
          exact this.1)), h2, h3]
    · rw [List.getElem?_eq_none (by rw [flat_len hk2, List.length_set]; omega), List.getElem?_eq_none (by rw [cset_length, flat_len hk]; omega)]
theorem fillE_flat {k : Nat} : ∀ (ps : List (Nat × List CV)) (es es' : List (List CV)), Ks k es → fillE k es ps = some es' → Ks k es' ∧ es'.length = es.length ∧ fillA (fun i => some (i * k, k)) es.flatten ps = some es'.flatten
  | [], es, es', hk, h => by simp [fillE] at h; subst h; exact ⟨hk, rfl, rfl⟩
  | (i, v) :: r, es, es', hk, h => by
    simp only [fillE] at h
    split at h
    · rename_i hc
      obtain ⟨hc1, hc2⟩ := hc
      have hk2 : Ks k (es.set i v) := fun e he => by
        rcases List.mem_or_eq_of_mem_set he with he | rfl
        · exact hk e he
        · exact hc1
      obtain ⟨h1, h2, h3⟩ := fillE_flat r _ es' hk2 h
      refine ⟨h1, by rw [h2, List.length_set], ?_⟩
      have hfit : i * k + k ≤ es.flatten.length := by
        rw [flat_len hk, ← Nat.succ_mul]
        exact Nat.mul_le_mul_right k hc2
      simp only [fillA]
      rw [if_pos ⟨hc1, hfit⟩, ← flat_set hc1 hk hc2]
      exact h3
    · cases h
theorem Vs_flat {k : Nat} {es : List (List CV)} {us : List Value} (hk : Ks k es) (H : Vs φ M es.flatten us) : RowV φ M k es us := by
  refine ⟨by rw [H.1, flat_len hk], fun i e j x hi hj => H.2 _ x (flat_get hk hi hj)⟩
theorem flat_Vs {k : Nat} {es : List (List CV)} {us : List Value} (hk : Ks k es) (H : RowV φ M k es us) : Vs φ M es.flatten us := by
  refine ⟨by rw [H.1, flat_len hk], fun q x hq => ?_⟩
  have hql := (List.getElem?_eq_some_iff.1 hq).1
  rw [flat_len hk] at hql
  obtain ⟨i, j, hi, hj, rfl⟩ := place_of hql
  have hel : es[i].length = k := hk _ (List.getElem_mem hi)
  have h1 := flat_get hk (List.getElem?_eq_getElem hi) (List.getElem?_eq_getElem (by omega : j < es[i].length))
  rw [hq] at h1
  cases h1
  exact H.2 i _ j _ (List.getElem?_eq_getElem hi) (List.getElem?_eq_getElem (by omega))
theorem bytesRow_one {s : ByteArray} {c i : Nat} {v : Value} (hv : (bytesRow s c)[i]? = some v) : v.oneCell' = true := by
  have hm := Array.mem_of_getElem? hv
  unfold bytesRow at hm
  rcases Array.mem_append.1 hm with hm | hm
  · obtain ⟨b, _, rfl⟩ := Array.mem_map.1 hm; rfl
  · rw [(Array.mem_replicate.1 hm).2]; rfl
theorem buildSlice_sound (dst : Option Tmp) (ty : TypeId) (pos : String) (aft : Array Edge) (guard : Option (Nat × Bool)) (t : TypeId) (len : Nat) (parts : Array (Nat × Operand)) (R : Rep G φ M h w)
    (E : ∀ x, x ∈ parts.toList.map (·.2) → VA φ M (ev f x) (a.eval x)) (H : aop P (.buildSlice t len parts) f h K) (A : After G φ M h w a S dst K next) :
    Oper.wp P ⟨dst, .buildSlice t len parts, ty, pos, aft, guard⟩ a w next Q := by
  simp only [aop] at H
  obtain ⟨e, he, H⟩ := H.elim
  obtain ⟨k, hk, H⟩ := H.elim
  obtain ⟨z, hz, H⟩ := H.elim
  obtain ⟨ps, hps, H⟩ := H.elim
  obtain ⟨hzk, hk0, hlk, H⟩ := H
  obtain ⟨es, hes, H⟩ := H.elim
  obtain ⟨i, v, hi, hiv, hzv, hz1⟩ := zeroA_spec hz
  have ht := elemA_spec he
  have hsz : i.size = k := by unfold sizeA at hk; rw [hi] at hk; simpa using hk
  have hp := partsA_spec (φ := φ) (M := M) (a := a) parts.toList ps E hps
  obtain ⟨hzks, hzrow⟩ := zero_row (φ := φ) (M := M) hzv hz1 hzk len
  obtain ⟨hek, hel, hfl⟩ := fillE_flat ps _ es hzks hes
  rw [List.length_replicate] at hel
  obtain ⟨us', hf, hv⟩ := fill_of (fun i => some (i * k, k)) ps _ _ es.flatten _ hp (flat_Vs hzks hzrow) hfl
  have hq : (parts.toList.map fun p => (p.1, a.eval p.2)) = (parts.map fun (i, x) => (i, a.eval x)).toList := by simp
  rw [hq] at hf
  have hrow := Vs_flat hek hv
  have hvs : v.cells.size = k := by rw [← hzk, hzv]; simp
  have hr : (Instr.buildSlice t len (parts.map fun (i, x) => (i, a.eval x))).run P w = .ok (.slice (some ⟨w.heap.size, 0, none⟩) len len) (w.alloc (.cells us'.toArray e)) := by
    subst hsz
    by_cases hl0 : len = 0
    · subst hl0
      have hu0 : us' = [] := List.length_eq_zero_iff.1 (by rw [hrow.1, hel]; simp)
      subst hu0
      simp only [Builtin.zeroCells, Nat.zero_mul] at hf
      simp only [Instr.buildSlice, Sem.run_bind, run_underlying ht, Result.andThen_ok, sizeOf, typeInfo, run_program, hi, Sem.run_pure, Nat.zero_mul]
      have hr0 : ∀ (g : Nat → Value), (Array.range 0).map g = #[] := fun g => by simp
      rw [hr0] at hf
      rw [if_neg (by decide), if_pos trivial]
      simp only [Array.toArray_toList] at hf
      simp only [Sem.run_bind, Sem.run_pure, Result.andThen_ok, hr0, hf, newRow, run_newObj_alloc]
    · have hne : ¬ len * i.size = 0 := Nat.ne_of_gt (Nat.mul_pos (Nat.pos_of_ne_zero hl0) hk0)
      have hn24 : ¬ (len * i.size > 2 ^ 24) := by rw [show (2 : Nat) ^ 24 = 16777216 from rfl]; omega
      simp only [Builtin.zeroCells, hvs, Array.toArray_toList] at hf
      simp only [Instr.buildSlice, Sem.run_bind, run_underlying ht, Result.andThen_ok, sizeOf, typeInfo, run_program, hi, Sem.run_pure]
      rw [if_neg hn24, if_neg hne]
      simp only [Sem.run_bind, Sem.run_pure, Result.andThen_ok, zeroValue, typeInfo, run_program, hi, hiv, hvs, hf, newRow, run_newObj_alloc]
  obtain ⟨R', hle⟩ := R.alloc e k len (some len) es us'.toArray (0, 0) hk0 (by rw [List.size_toArray, hrow.1, hel]) (okFr_mem (hrow.one hek)) (by omega) (fun c hc => by cases hc; rfl) hek (hrow.says _ (fun j v hj => by simpa using hj))
  simp only [Oper.wp, execOp, Sem.run_bind, hr, Sem.run_pure, Result.andThen_ok, Oper.upon]
  refine A _ _ _ _ _ _ H R' hle (MLe.refl _) ?_ (Kept.alloc R _ _ _)
  exact ⟨rfl, _, phiAt_at φ _ _, Nat.zero_le _, fun _ => .inr ⟨rfl, by simp⟩⟩
theorem makeSlice_sound (dst : Option Tmp) (ty : TypeId) (pos : String) (aft : Array Edge) (guard : Option (Nat × Bool)) (t : TypeId) (l c : Operand) (R : Rep G φ M h w)
    (el : VA φ M (ev f l) (a.eval l)) (ec : VA φ M (ev f c) (a.eval c)) (H : aop P (.makeSlice t l c) f h K) (A : After G φ M h w a S dst K next) :
    Oper.wp P ⟨dst, .makeSlice t l c, ty, pos, aft, guard⟩ a w next Q := by
  simp only [aop] at H
  obtain ⟨e, he, H⟩ := H.elim
  obtain ⟨k, hk, H⟩ := H.elim
  obtain ⟨z, hz, H⟩ := H.elim
  obtain ⟨by_, hby, H⟩ := H.elim
  obtain ⟨n, hn, H⟩ := H.elim
  obtain ⟨n2, hn2, H⟩ := H.elim
  obtain ⟨hnn, hzk, hk0, hbn, hnm, H⟩ := H
  obtain ⟨i, v, hi, hiv, hzv, hz1⟩ := zeroA_spec hz
  have ht := elemA_spec he
  have hsz : i.size = k := by unfold sizeA at hk; rw [hi] at hk; simpa using hk
  have hbt : i.bytes = by_ := by unfold bytesA at hby; rw [hi] at hby; simpa using hby
  rcases boundA_spec hn with ⟨h', _⟩ | ⟨k1, q1, hx1, h10, h11⟩
  · cases h'
  rcases boundA_spec hn2 with ⟨h', _⟩ | ⟨k2, q2, hx2, h20, h21⟩
  · cases h'
  have hx1 := Option.some.inj hx1
  have hx2 := Option.some.inj hx2
  rw [hx1] at el
  rw [hx2] at ec
  have el := VA_c el
  have ec := VA_c ec
  have hbb : (i.bytes : Int) * q2 ≤ 281474976710656 := by
    have h2 : (n2 : Int) = q2 := by omega
    have h3 : (i.bytes : Int) * q2 = ((by_ * n2 : Nat) : Int) := by rw [hbt, ← h2]; exact (Int.natCast_mul _ _).symm
    rw [h3]
    generalize by_ * n2 = p at hbn ⊢
    omega
  have hr := run_make (P := P) (w := w) t e i v ht hi hiv k1 k2 q1 q2 h10 (by omega) hbb (by unfold maxLen at hnm; omega)
  have hvs : v.cells.size = k := by rw [← hzk, hzv]; simp
  obtain ⟨hzks, hzrow⟩ := zero_row (φ := φ) (M := M) hzv hz1 hzk n2
  have hzc : madeCells v.cells (n2 * k) = Builtin.zeroCells v.cells n2 := by simp [madeCells, Builtin.zeroCells, hvs]
  rw [hsz, ← h21, ← h11, hzc] at hr
  have hzr : Says φ M k (Builtin.zeroCells v.cells n2) (List.replicate n z) := fun i e j x hi hj => by
    rw [List.getElem?_replicate] at hi
    split at hi
    · rename_i hin
      obtain ⟨u, h1, h2⟩ := hzrow.2 i e j x (by rw [List.getElem?_replicate, if_pos (by omega)]; exact hi) hj
      exact ⟨u, by simpa using h1, h2⟩
    · cases hi
  obtain ⟨R', hle⟩ := R.alloc e k n2 (some n2) (List.replicate n z) (Builtin.zeroCells v.cells n2) (0, 0) hk0 (by simp [Builtin.zeroCells, hvs]) ⟨.inl (Nat.le_refl _), fun i v hv => hzrow.one hzks v (by simpa using Array.mem_of_getElem? hv)⟩ (by simpa using hnn) (fun c hc => by cases hc; rfl) (fun e he => by rw [(List.mem_replicate.1 he).2, hzk]) hzr
  simp only [Oper.wp, execOp, el, ec, Sem.run_bind, hr, Sem.run_pure, Result.andThen_ok, Oper.upon]
  refine A _ _ _ _ _ _ H R' hle (MLe.refl _) ?_ (Kept.alloc R _ _ _)
  exact ⟨rfl, _, phiAt_at φ _ _, Nat.zero_le _, fun _ => .inr ⟨rfl, by simp⟩⟩
theorem ptrs_of (R : Rep G φ M h w) {xs : List Operand} {ls : List Nat} (E : ∀ x, x ∈ xs → VA φ M (ev f x) (a.eval x))
    (hm : (xs.mapM fun x => match ev f x with | .one (.pt l 0 0 0) => if (objA h l 0).isSome = true then some l else none | _ => none) = some ls) : (xs.map a.eval).length = ls.length ∧ ∀ (j l : Nat), ls[j]? = some l → ∃ v, (xs.map a.eval)[j]? = some v ∧ Vp φ l 0 0 0 v := by
  induction xs generalizing ls with
  | nil => simp at hm; subst hm; exact ⟨rfl, fun j l hl => by simp at hl⟩
  | cons x r ih =>
    rw [List.mapM_cons] at hm
    simp only [Option.bind_eq_bind, Option.pure_def] at hm
    obtain ⟨l, hl, hm⟩ := Option.bind_eq_some_iff.1 hm
    obtain ⟨ls', hls, hm⟩ := Option.bind_eq_some_iff.1 hm
    cases hm
    obtain ⟨h1, h2⟩ := ih (fun y hy => E y (List.mem_cons_of_mem _ hy)) hls
    have ex := E x (by simp)
    split at hl
    · rename_i l' hx
      split at hl
      · cases hl
        rw [hx] at ex
        refine ⟨by simp at h1 ⊢; exact h1, fun j l hj => ?_⟩
        rcases j with _ | j
        · simp at hj
          subst hj
          exact ⟨_, rfl, ex⟩
        · exact h2 j l (by simpa using hj)
      · cases hl
    · cases hl
theorem makeFunc_sound (dst : Option Tmp) (ty : TypeId) (pos : String) (aft : Array Edge) (guard : Option (Nat × Bool)) (fn : Fn) (first captured : Array Operand) (R : Rep G φ M h w)
    (E : ∀ x, x ∈ captured.toList → VA φ M (ev f x) (a.eval x)) (H : aop P (.makeFunc fn first captured) f h K) (A : After G φ M h w a S dst K next) :
    Oper.wp P ⟨dst, .makeFunc fn first captured, ty, pos, aft, guard⟩ a w next Q := by
  simp only [aop] at H
  split at H
  · rename_i g
    obtain ⟨hf0, H0⟩ := H
    obtain ⟨ls, hls, H⟩ := H0.elim
    obtain ⟨h1, h2⟩ := ptrs_of R E hls
    have hfirst : first = #[] := Array.eq_empty_of_size_eq_zero hf0
    subst hfirst
    have e2 : (captured.toList.map a.eval).toArray = captured.map a.eval := by apply Array.toList_inj.1; simp
    have := A.val (v := .one (.clo g ls)) (u := .func (.func g) #[] (captured.toList.map a.eval).toArray) R H ⟨_, rfl, h1, h2⟩
    simp only [Oper.wp, execOp, Instr.makeFunc, Sem.run_bind, Sem.run_pure, Result.andThen_ok, Oper.upon]
    rw [e2] at this
    simpa using this
  · exact H.elim
theorem slice_sound (dst : Option Tmp) (ty : TypeId) (pos : String) (aft : Array Edge) (guard : Option (Nat × Bool)) (t : TypeId) (x : Operand) (lo hi mx : Option Operand) (R : Rep G φ M h w)
    (E : ∀ y, y ∈ (Op.slice t x lo hi mx).operands → VA φ M (ev f y) (a.eval y)) (H : aop P (.slice t x lo hi mx) f h K) (A : After G φ M h w a S dst K next) :
    Oper.wp P ⟨dst, .slice t x lo hi mx, ty, pos, aft, guard⟩ a w next Q := by
  simp only [Op.operands] at E
  have ex := E x (by simp)
  have elo : ∀ y, lo = some y → VA φ M (ev f y) (a.eval y) := fun y hy => E y (by simp [hy])
  have ehi : ∀ y, hi = some y → VA φ M (ev f y) (a.eval y) := fun y hy => E y (by simp [hy])
  have emx : ∀ y, mx = some y → VA φ M (ev f y) (a.eval y) := fun y hy => E y (by simp [hy])
  have bounds : ∀ (b : Bool) (len cap i j : Nat) (m : Nat), boundA 0 (lo.map (ev f)) = some i → boundA len (hi.map (ev f)) = some j → boundA cap (mx.map (ev f)) = some m → i ≤ j → j ≤ m → m ≤ cap → (mx.isSome = true → hi.isSome = true) →
      (Instr.sliceBounds b len cap (lo.map a.eval) (hi.map a.eval) (mx.map a.eval)).run P w = .ok (i, j, m) w := by
    intro b len cap i j m h1 h2 h3 hij hjm hmc hmh
    have r1 := fun code => run_bound (P := P) elo _ _ h1 j hij code w
    have r2 := fun code => run_bound (P := P) ehi _ _ h2 m hjm code w
    have r3 := fun code => run_bound (P := P) emx _ _ h3 cap hmc code w
    unfold Instr.sliceBounds
    cases mx with
    | none =>
      simp [boundA] at h3
      subst h3
      cases hi with
      | none =>
        simp [boundA] at h2
        subst h2
        cases lo with
        | none => simp [boundA] at h1; subst h1; simp
        | some y => simp only [Option.map_some, Option.map_none] at r1 ⊢; simp [r1]
      | some y2 =>
        simp only [Option.map_some, Option.map_none] at r2 ⊢
        cases lo with
        | none => simp [boundA] at h1; subst h1; simp [r2]
        | some y => simp only [Option.map_some, Option.map_none] at r1 ⊢; simp [r1, r2]
    | some y3 =>
      cases hi with
      | none => simp at hmh
      | some y2 =>
        simp only [Option.map_some, Option.map_none] at r2 r3 ⊢
        cases lo with
        | none => simp [boundA] at h1; subst h1; simp [r2, r3]
        | some y => simp only [Option.map_some, Option.map_none] at r1 ⊢; simp [r1, r2, r3]
  -- a concrete slice, cut
  have cut : ∀ (e : TypeId) (k : Nat) (ad : Option Addr) (len cap i j m : Nat), elemA P t = some e → sizeA P e = some k → a.eval x = .slice ad len cap → boundA 0 (lo.map (ev f)) = some i → boundA len (hi.map (ev f)) = some j → boundA cap (mx.map (ev f)) = some m → i ≤ j → j ≤ m → m ≤ cap → (mx.isSome = true → hi.isSome = true) →
      next (a.put dst (.slice (if m = i then ad else ad.map (·.add (i * k))) (j - i) (m - i))) w → Oper.wp P ⟨dst, .slice t x lo hi mx, ty, pos, aft, guard⟩ a w next Q := by
    intro e k ad len cap i j m he hk eu h1 h2 h3 hij hjm hmc hmh hn
    have hu := elemA_spec he
    have hb := bounds true len cap i j m h1 h2 h3 hij hjm hmc hmh
    simp only [Oper.wp, execOp, Instr.sliceAt, Instr.slice, eu, Sem.run_bind, run_underlying hu, Result.andThen_ok, hb, run_sizeA hk, Sem.run_pure, Oper.upon]
    exact hn
  simp only [aop] at H
  split at H
  · rename_i s hx
    obtain ⟨hs, hmx, H0⟩ := H
    obtain ⟨i, hi', H1⟩ := H0.elim
    obtain ⟨j, hj', H2⟩ := H1.elim
    obtain ⟨hij, hjs, H3⟩ := H2
    have hmx0 : mx = none := by cases mx with
      | none => rfl
      | some _ => simp at hmx
    subst hmx0
    have hb := bounds false s.size s.size i j s.size hi' hj' rfl hij hjs (Nat.le_refl _) (fun h => by simp at h)
    rw [hx] at ex
    have ex := VA_c ex
    have hu := strA_spec hs
    simp only [Option.map_none] at hb
    simp only [Oper.wp, execOp, Instr.sliceAt, Instr.slice, ex, Sem.run_bind, run_underlying hu, Result.andThen_ok, Option.map_none, Option.isSome_none, hb, Sem.run_pure, Oper.upon, Bool.false_eq_true, if_false]
    exact A.val (v := .one (.c (.string (s.extract i j)))) R H3 rfl
  · rename_i hx
    obtain ⟨e, he, H⟩ := H.elim
    obtain ⟨hsz, H0⟩ := H
    obtain ⟨sz, hsz⟩ := Option.isSome_iff_exists.1 hsz
    obtain ⟨i, hi', H1⟩ := H0.elim
    obtain ⟨j, hj', H2⟩ := H1.elim
    obtain ⟨m, hm', H3⟩ := H2.elim
    obtain ⟨rfl, rfl, rfl, hmh, H4⟩ := H3
    rw [hx] at ex
    have hex : a.eval x = .slice none 0 0 := by
      generalize a.eval x = ux at ex
      cases (show V0 M .nl ux from ex)
      rfl
    exact cut e sz none 0 0 0 0 0 he hsz hex hi' hj' hm' (Nat.le_refl _) (Nat.le_refl _) (Nat.le_refl _) hmh (A.val (v := .one .nl) R H4 V0.nl)
  · rename_i hx
    obtain ⟨e, he, H⟩ := H.elim
    obtain ⟨hsz, H0⟩ := H
    obtain ⟨sz, hsz⟩ := Option.isSome_iff_exists.1 hsz
    obtain ⟨i, hi', H1⟩ := H0.elim
    obtain ⟨j, hj', H2⟩ := H1.elim
    obtain ⟨m, hm', H3⟩ := H2.elim
    obtain ⟨rfl, rfl, rfl, hmh, H4⟩ := H3
    rw [hx] at ex
    have hex : ∃ ad, a.eval x = .slice ad 0 0 := by
      generalize a.eval x = ux at ex
      cases (show V0 M .emp ux from ex) with
      | emp ad => exact ⟨ad, rfl⟩
    obtain ⟨ad, hex⟩ := hex
    refine cut e sz ad 0 0 0 0 0 he hsz hex hi' hj' hm' (Nat.le_refl _) (Nat.le_refl _) (Nat.le_refl _) hmh (A.val (v := .one .emp) R H4 ?_)
    exact V0.emp _
  · rename_i es hx
    obtain ⟨e, he, H0⟩ := H.elim
    obtain ⟨k, hk, hkes, H1⟩ := H0.elim
    have hkes := ksB_Ks hkes
    obtain ⟨i, hi', H2⟩ := H1.elim
    obtain ⟨j, hj', H3⟩ := H2.elim
    obtain ⟨hij, hjl, H4⟩ := H3
    rw [hx] at ex
    have hex : ∃ ad cap, a.eval x = .slice ad es.length cap ∧ es.length ≤ cap ∧ ∀ m, j ≤ m → m ≤ cap → V0 M (.im ((es.drop i).take (j - i))) (.slice (if m = i then ad else ad.map (·.add (i * k))) (j - i) (m - i)) := by
      generalize a.eval x = ux at ex
      cases (show V0 M (.im es) ux from ex) with
      | im0 ad cap =>
        refine ⟨ad, cap, rfl, Nat.zero_le _, fun m _ _ => ?_⟩
        simp only [List.length_nil] at hjl
        have h1 : j = 0 := by omega
        have h2 : i = 0 := by omega
        subst h1 h2
        simp only [List.drop_nil, List.take_nil, Nat.sub_zero]
        exact V0.im0 _ _
      | im _ k' b o cap C hks hc hm hV =>
        refine ⟨_, cap, rfl, hc, fun m hjm hmc => ?_⟩
        have hlen : ((es.drop i).take (j - i)).length = j - i := by simp; omega
        by_cases he : j - i = 0
        · rw [he, List.take_zero]
          exact V0.im0 _ _
        · have hkk : k' = k := by
            cases es with
            | nil => simp at hlen; omega
            | cons e r => exact (hks e (by simp)).symm.trans (hkes e (by simp))
          subst hkk
          have hmi : ¬ m = i := by omega
          have hget : ∀ (q : Nat) (e : List CV), ((es.drop i).take (j - i))[q]? = some e → es[i + q]? = some e := fun q e hq => by
            rw [List.getElem?_take] at hq
            split at hq
            · rwa [List.getElem?_drop] at hq
            · cases hq
          have hv := V0.im (M := M) ((es.drop i).take (j - i)) k' b (o + i * k') (m - i) (fun q j' => C (i + q) j') (fun e he => hks e (List.mem_of_mem_drop (List.mem_of_mem_take he))) (by rw [hlen]; omega) (fun q e j' y hq hj' => by
              have := hm (i + q) e j' y (hget q e hq) hj'
              rw [Nat.add_mul] at this
              rw [show o + i * k' + (q * k' + j') = o + (i * k' + q * k' + j') by omega]
              exact this) (fun q e j' y hq hj' => hV (i + q) e j' y (hget q e hq) hj')
          rw [hlen] at hv
          rw [if_neg hmi, Option.map_some, add_lit]
          exact hv
    obtain ⟨ad, cap, hex, hlc, hV⟩ := hex
    cases mx with
    | none =>
      simp only at H4
      refine cut e k ad es.length cap i j cap he hk hex hi' hj' rfl hij (by omega) (Nat.le_refl _) (fun h => by simp at h) (A.val (v := .one (.im ((es.drop i).take (j - i)))) R H4 ?_)
      exact hV cap (by omega) (Nat.le_refl _)
    | some m0 =>
      simp only at H4
      obtain ⟨m, hm', H5⟩ := H4.elim
      obtain ⟨hjm, hml, hhi, rfl, H6⟩ := H5
      have hm2 : boundA cap (Option.map (ev f) (some m0)) = some m := by
        rcases boundA_spec hm' with ⟨h', _⟩ | ⟨k1, q1, hx1, h10, h11⟩
        · cases h'
        · rw [Option.map_some, hx1]; simp only [boundA]; rw [if_pos h10, h11]
      have hjm2 : j = m := by omega
      subst hjm2
      refine cut e k ad es.length cap j j j he hk hex hi' hj' hm2 (Nat.le_refl _) (Nat.le_refl _) (by omega) (fun _ => hhi) (A.val (v := .one .emp) R H6 ?_)
      rw [if_pos rfl, Nat.sub_self]
      exact V0.emp _
  · rename_i l g off len hx
    obtain ⟨e, he, H0⟩ := H.elim
    obtain ⟨q, hq, H0⟩ := H0.elim
    obtain ⟨hk, hk0, H1⟩ := H0
    obtain ⟨i, hi', H2⟩ := H1.elim
    obtain ⟨j, hj', H3⟩ := H2.elim
    obtain ⟨hij, hjl, H4⟩ := H3
    rw [hx] at ex
    have ex0 := ex
    obtain ⟨p, hp, hg, hpk, hcase⟩ := sl_at R hq ex
    obtain ⟨p', hp', _, _, _, hlc, _⟩ := R.readR hq
    rw [hp] at hp'
    cases hp'
    have hcap : ∃ ad cap, a.eval x = .slice ad len cap ∧ j ≤ cap ∧ (∀ m, m + off ≤ q.2.2.length → m ≤ cap) ∧ ((off + i < q.2.2.length ∨ i = 0) → VA φ M (.one (.sl l g (off + i) (j - i))) (.slice (if cap = i then ad else ad.map (·.add (i * q.2.1))) (j - i) (cap - i))) := by
      rcases hcase with ⟨hv, rfl, rfl, hes, ad, hu⟩ | ⟨hv, hu⟩
      · rw [hes] at hjl
        simp at hjl
        have h1 : j = 0 := by omega
        have h2 : i = 0 := by omega
        subst h1 h2
        refine ⟨ad, 0, hu, Nat.le_refl _, fun m hm => by rw [hes] at hm; simp at hm; omega, fun _ => ?_⟩
        exact ⟨rfl, p, hp, by omega, fun _ => .inl ⟨hv, rfl, rfl, ad, rfl⟩⟩
      · refine ⟨_, p.cap - off, hu, by omega, fun m hm => by omega, fun hc => ?_⟩
        refine ⟨rfl, p, hp, by omega, fun _ => .inr ⟨hv, ?_⟩⟩
        rw [hpk, Nat.add_mul, Nat.sub_sub]
        congr 1
        split
        · rename_i hci
          have : i = 0 := by omega
          subst this
          simp
        · rw [Option.map_some, add_lit]
    obtain ⟨ad, cap, hex, hjc, hmc, hV⟩ := hcap
    cases mx with
    | none =>
      simp only at H4
      refine cut e q.2.1 ad len cap i j cap he hk hex hi' hj' rfl hij hjc (Nat.le_refl _) (fun h => by simp at h) ?_
      split at H4
      · rename_i hc
        exact A.val R H4 (hV hc)
      · rename_i hc
        refine A.val R H4 ?_
        have : j - i = 0 := by omega
        rw [this]
        exact V0.im0 _ _
    | some m0 =>
      simp only at H4
      obtain ⟨m, hm', H5⟩ := H4.elim
      obtain ⟨hjm, hml, hhi, rfl, H6⟩ := H5
      have hm2 : boundA cap (Option.map (ev f) (some m0)) = some m := by
        rcases boundA_spec hm' with ⟨h', _⟩ | ⟨k1, q1, hx1, h10, h11⟩
        · cases h'
        · rw [Option.map_some, hx1]; simp only [boundA]; rw [if_pos h10, h11]
      have hjm2 : j = m := by omega
      subst hjm2
      refine cut e q.2.1 ad len cap j j j he hk hex hi' hj' hm2 (Nat.le_refl _) (Nat.le_refl _) (by omega) (fun _ => hhi) (A.val (v := .one .emp) R H6 ?_)
      rw [if_pos rfl, Nat.sub_self]
      exact V0.emp _
  · exact H.elim

theorem bytesOf_spec : ∀ {es : List (List CV)} {xs : List Int}, bytesOf es = some xs → es = xs.map fun x => [CV.c (.int .u8 x)]
  | [], xs, h => by simp [bytesOf] at h; subst h; rfl
  | e :: r, xs, h => by
    simp only [bytesOf] at h
    split at h
    · rename_i x ys hx hy
      cases h
      rw [bytesOf_spec hy, List.map_cons]
      congr 1
      unfold byteOf at hx
      split at hx
      · cases hx; rfl
      · cases hx
    · cases h
theorem push_strOf : ∀ (xs : List Int) (s : ByteArray), xs.foldl (fun r n => r.push (UInt8.ofNat n.toNat)) s = ⟨(s.data.toList ++ xs.map fun n => UInt8.ofNat n.toNat).toArray⟩
  | [], s => by cases s; simp
  | x :: r, s => by
    rw [List.foldl_cons, push_strOf r]
    congr 1
    simp [ByteArray.push]
theorem bytes_us {us : List Value} {xs : List Int} (H : RowV φ M 1 (xs.map fun x => [CV.c (.int .u8 x)]) us) : us = xs.map (Value.int .u8) := by
  apply List.ext_getElem?
  intro i
  by_cases hi : i < xs.length
  · obtain ⟨v, h1, h2⟩ := H.2 i [CV.c (.int .u8 xs[i])] 0 (CV.c (.int .u8 xs[i])) (by simp [hi]) rfl
    rw [V_c h2] at h1
    simp only [Nat.mul_one, Nat.add_zero] at h1
    rw [h1]
    simp [hi]
  · have := H.1
    simp at this
    rw [List.getElem?_eq_none (by omega), List.getElem?_eq_none (by simp; omega)]
theorem convert_sound (dst : Option Tmp) (ty : TypeId) (pos : String) (aft : Array Edge) (guard : Option (Nat × Bool)) (src td : TypeId) (x : Operand) (R : Rep G φ M h w) (F : FOk n φ M f a) (hb : ∀ t, x = Operand.tmp t → t < n)
    (H : aop P (.convert src td x) f h K) (A : After G φ M h w a S dst K next) : Oper.wp P ⟨dst, .convert src td x, ty, pos, aft, guard⟩ a w next Q := by
  have ex := ev_V F hb
  simp only [aop] at H
  split at H
  · rename_i s hx
    rw [hx] at ex
    have ex := VA_c ex
    split at H
    · rename_i hs
      obtain ⟨hsrc, H⟩ := H
      have hu := strA_spec hs
      obtain ⟨d, hd⟩ := Option.isSome_iff_exists.1 hsrc
      have hr : (convert src td (.string s)).run P w = .ok (.string s) w := by simp [convert, run_underlying hd, run_underlying hu]
      simp only [Oper.wp, execOp, ex, Sem.run_bind, hr, Sem.run_pure, Result.andThen_ok, Oper.upon]
      exact A.val (v := .one (.c (.string s))) R H rfl
    · obtain ⟨hs, H0⟩ := H
      obtain ⟨e, he, H1⟩ := H0.elim
      obtain ⟨hk, hsm, H2⟩ := H1
      have hr := run_bytes_of_string (P := P) w src td e s (strA_spec hs) (elemA_spec he) (kindA_spec hk)
      have hge := grownCap_ge w s.size 0 e
      have hbl := bytesE_len s
      have hCs : (bytesRow s (grownCap w s.size 0 e)).size = grownCap w s.size 0 e := by
        unfold bytesRow
        rw [Array.size_append, Array.size_map, Array.size_replicate]
        show s.size + _ = _
        omega
      obtain ⟨R', hle⟩ := R.drew.alloc e 1 (grownCap w s.size 0 e) none (bytesE s) (bytesRow s (grownCap w s.size 0 e)) ((bytesRow s (grownCap w s.size 0 e)).size, (bytesRow s (grownCap w s.size 0 e)).size + 1) (by decide) (by rw [hCs, Nat.mul_one]) ⟨.inr ⟨Nat.le_refl _, rfl⟩, fun i v hv => bytesRow_one hv⟩ (by rw [hbl]; exact hge) (fun c hc => by cases hc) (bytesE_ks s)
        (fun i el j y hi hj => by
          have hil := (List.getElem?_eq_some_iff.1 hi).1
          rw [hbl] at hil
          unfold bytesE at hi
          rw [List.getElem?_map] at hi
          obtain ⟨b, hb, rfl⟩ := Option.map_eq_some_iff.1 hi
          rcases j with _ | j
          · simp at hj
            subst hj
            refine ⟨.int .u8 b.toNat, ?_, V0.c _ rfl⟩
            unfold bytesRow
            rw [Nat.mul_one, Nat.add_zero, Array.getElem?_append_left (by rw [Array.size_map]; exact hil), Array.getElem?_map]
            simp only [Array.getElem?_toList] at hb
            rw [hb]
            rfl
          · simp at hj)
      simp only [Oper.wp, execOp, ex, Sem.run_bind, hr, Sem.run_pure, Result.andThen_ok, Oper.upon]
      refine A _ _ _ _ _ _ H2 R' hle (MLe.refl _) ?_ (Kept.alloc R.drew _ _ _)
      refine ⟨rfl, _, phiAt_at φ _ _, Nat.zero_le _, fun _ => .inr ⟨rfl, ?_⟩⟩
      simp [hCs]
  · rename_i k q hx
    exact aop1_sound ⟨dst, .convert src td x, ty, pos, aft, guard⟩ R F (fun t ht => hb t (by simp [Op.operands] at ht; exact ht.symm)) H (fun t x y l g i off he => by cases he) A
  · rename_i v hv1 hv2
    obtain ⟨hs, H0⟩ := H
    obtain ⟨e, he, H1⟩ := H0.elim
    obtain ⟨hk, H2⟩ := H1
    obtain ⟨es, hr, H3⟩ := H2.elim
    obtain ⟨xs, hxs, H4⟩ := H3.elim
    have hes := bytesOf_spec hxs
    subst hes
    obtain ⟨_, us, hrow, hrd⟩ := rowA_spec (P := P) R ex hr
    have hus := bytes_us hrow
    subst hus
    rw [List.length_map] at hrd
    have hfc := (hrd.2 w rfl).2 xs.length (Nat.le_refl _)
    rw [Nat.mul_one, List.take_of_length_le (by simp)] at hfc
    have hconv : (convert src td (a.eval x)).run P w = .ok (.string (strOf xs)) w := by
      have shape : ∃ ad n c, a.eval x = .slice ad n c ∧ (ad = none → xs = []) ∧ (n = xs.length) := by
        have hln := (hrd.2 w rfl).1
        generalize ev f x = y at *
        generalize a.eval x = ux at *
        have hsl : ∃ ad n c, ux = .slice ad n c := by
          unfold rowA at hr
          split at hr
          · cases (show V0 M .nl ux from ex); exact ⟨_, _, _, rfl⟩
          · cases (show V0 M .emp ux from ex); exact ⟨_, _, _, rfl⟩
          · rename_i es'
            cases (show V0 M (.im es') ux from ex) <;> exact ⟨_, _, _, rfl⟩
          · obtain ⟨q, hq, _⟩ := Option.bind_eq_some_iff.1 hr
            obtain ⟨p, _, _, _, hcase⟩ := sl_at R hq ex
            rcases hcase with ⟨_, _, _, _, ad, rfl⟩ | ⟨_, rfl⟩ <;> exact ⟨_, _, _, rfl⟩
          · exact absurd rfl (hv1 _)
          · cases hr
        obtain ⟨ad, n, c, rfl⟩ := hsl
        have hn : n = xs.length := by
          simp only [Builtin.lenOf, Sem.run_pure] at hln
          injection hln
        refine ⟨ad, n, c, rfl, fun e0 => ?_, hn⟩
        subst e0
        simp only [Builtin.firstCells, Sem.run_pure] at hfc
        injection hfc with h1 h2
        have := congrArg Array.size h1
        simp at this
        exact List.length_eq_zero_iff.1 this.symm
      obtain ⟨ad, n, c, hex, hnil, hn⟩ := shape
      rw [hex] at hfc ⊢
      rw [run_convert_bytes_string w src td e ad n c (elemA_spec he) (kindA_spec hk) (strA_spec hs)]
      cases ad with
      | none =>
        rw [hnil rfl]
        simp [Conv.bytesToString, strOf]
        rfl
      | some ad =>
        subst hn
        simp only [Builtin.firstCells, Nat.mul_one] at hfc
        rw [run_bytesToString w ad xs.length c xs hfc, push_strOf]
        simp [strOf]
    simp only [Oper.wp, execOp, Sem.run_bind, hconv, Sem.run_pure, Result.andThen_ok, Oper.upon]
    exact A.val (v := .one (.c (.string (strOf xs)))) R H4 rfl
theorem hasBody_enters {g : Nat} (hg : hasBody P g = true) (args : Array Value) (w : World) : (callFunc g args).run P w = .ok (.enter g args) w := by
  unfold hasBody at hg
  split at hg
  · rename_i fn hfn
    rw [Bool.and_eq_true] at hg
    obtain ⟨h1, h2⟩ := hg
    obtain ⟨c, hc⟩ := Option.isSome_iff_exists.1 h1
    have hne : fn.name ≠ "runtime.NumGoroutine" := by simpa using h2
    simp [callFunc, hfn, hne, hc, mark]
  · cases hg
end
end Go.BL
