/- The frame rule: a contract over one object holds over any heap that has it; objects handed on over a base. Conditions: none. -/
import Derived.Test.YtedkpjaojdkpcaaGreatLF
namespace Go.BL
open Go.RowKit
set_option linter.unusedVariables false
set_option linter.unusedSimpArgs false
def rnF (ρ : Nat → Nat) : CV → CV
  | .pt l g i off => .pt (ρ l) g i off
  | .sl l g off len => .sl (ρ l) g off len
  | .clo g caps => .clo g (caps.map ρ)
  | x => x
def rnF1 (ρ : Nat → Nat) : AV → AV
  | .one x => .one (rnF ρ x)
  | .agg xs => .agg (xs.map (rnF ρ))
  | x => x
def rnFA (ρ : Nat → Nat) : AV → AV
  | .tup xs => .tup (xs.map (rnF1 ρ))
  | x => rnF1 ρ x
def rnFO (ρ : Nat → Nat) : AO → AO
  | .dead => .dead
  | .ro g t k es => .ro g t k es
  | .own g t k cap es => .own g t k cap (es.map (·.map (rnF ρ)))
section
variable {φ φ' : Phi} {M : Im} {ρ : Nat → Nat}
theorem V_to (hρ : ∀ l p, φ l = some p → φ' (ρ l) = some p) {x : CV} {u : Value} (hv : V φ M x u) : V φ' M (rnF ρ x) u := by
  cases x with
  | pt l g i off => obtain ⟨h1, p, h2, h3⟩ := hv; exact ⟨h1, p, hρ l p h2, h3⟩
  | sl l g off len => obtain ⟨h1, p, h2, h3⟩ := hv; exact ⟨h1, p, hρ l p h2, h3⟩
  | clo g caps =>
    obtain ⟨vs, h1, h2, h3⟩ := hv
    refine ⟨vs, h1, by simpa using h2, fun j l hj => ?_⟩
    rw [List.getElem?_map] at hj
    obtain ⟨l', hl', rfl⟩ := Option.map_eq_some_iff.1 hj
    obtain ⟨v, h4, h5, p, h6, h7⟩ := h3 j l' hl'
    exact ⟨v, h4, h5, p, hρ l' p h6, h7⟩
  | _ => exact hv
theorem VA1_to (hρ : ∀ l p, φ l = some p → φ' (ρ l) = some p) {x : AV} {u : Value} (hv : VA1 φ M x u) : VA1 φ' M (rnF1 ρ x) u := by
  cases x with
  | one x =>
    cases x with
    | c v => exact hv
    | _ => exact V_to hρ (x := _) (u := u) (by simpa only [VA1] using hv)
  | agg xs =>
    obtain ⟨us, h1, h2, h3⟩ := hv
    refine ⟨us, h1, by simpa using h2, fun j x hj => ?_⟩
    rw [List.getElem?_map] at hj
    obtain ⟨x', hx', rfl⟩ := Option.map_eq_some_iff.1 hj
    obtain ⟨u, h4, h5⟩ := h3 j x' hx'
    exact ⟨u, h4, V_to hρ h5⟩
  | tup xs => exact hv
  | any => trivial
theorem VA_to (hρ : ∀ l p, φ l = some p → φ' (ρ l) = some p) {x : AV} {u : Value} (hv : VA φ M x u) : VA φ' M (rnFA ρ x) u := by
  cases x with
  | tup xs =>
    obtain ⟨us, h1, h2, h3⟩ := hv
    refine ⟨us, h1, by simpa using h2, fun j x hj => ?_⟩
    rw [List.getElem?_map] at hj
    obtain ⟨x', hx', rfl⟩ := Option.map_eq_some_iff.1 hj
    obtain ⟨u, h4, h5⟩ := h3 j x' hx'
    exact ⟨u, h4, VA1_to hρ h5⟩
  | one x => exact VA1_VA (VA1_to hρ (x := .one x) hv)
  | agg xs => exact VA1_VA (VA1_to hρ (x := .agg xs) hv)
  | any => trivial
theorem V_from (hρ : ∀ l p, φ' (ρ l) = some p → φ l = some p) {x : CV} {u : Value} (hv : V φ' M (rnF ρ x) u) : V φ M x u := by
  cases x with
  | pt l g i off => obtain ⟨h1, p, h2, h3⟩ := hv; exact ⟨h1, p, hρ l p h2, h3⟩
  | sl l g off len => obtain ⟨h1, p, h2, h3⟩ := hv; exact ⟨h1, p, hρ l p h2, h3⟩
  | clo g caps =>
    obtain ⟨vs, h1, h2, h3⟩ := hv
    refine ⟨vs, h1, by simpa using h2, fun j l hj => ?_⟩
    obtain ⟨v, h4, h5, p, h6, h7⟩ := h3 j (ρ l) (by rw [List.getElem?_map, hj]; rfl)
    exact ⟨v, h4, h5, p, hρ l p h6, h7⟩
  | _ => exact hv
theorem VA1_from (hρ : ∀ l p, φ' (ρ l) = some p → φ l = some p) {x : AV} {u : Value} (hv : VA1 φ' M (rnF1 ρ x) u) : VA1 φ M x u := by
  cases x with
  | one x =>
    rcases VA_V (show VA φ' M (.one (rnF ρ x)) u from hv) with q | ⟨v, q, rfl⟩
    · exact V_VA (V_from hρ q)
    · cases x <;> cases q
      rfl
  | agg xs =>
    obtain ⟨us, h1, h2, h3⟩ := hv
    refine ⟨us, h1, by simpa using h2, fun j x hj => ?_⟩
    obtain ⟨u, h4, h5⟩ := h3 j (rnF ρ x) (by rw [List.getElem?_map, hj]; rfl)
    exact ⟨u, h4, V_from hρ h5⟩
  | tup xs => exact hv
  | any => trivial
theorem VA_from (hρ : ∀ l p, φ' (ρ l) = some p → φ l = some p) {x : AV} {u : Value} (hv : VA φ' M (rnFA ρ x) u) : VA φ M x u := by
  cases x with
  | tup xs =>
    obtain ⟨us, h1, h2, h3⟩ := hv
    refine ⟨us, h1, by simpa using h2, fun j x hj => ?_⟩
    obtain ⟨u, h4, h5⟩ := h3 j (rnF1 ρ x) (by rw [List.getElem?_map, hj]; rfl)
    exact ⟨u, h4, VA1_from hρ h5⟩
  | one x => exact VA1_VA (VA1_from (φ' := φ') hρ (x := .one x) hv)
  | agg xs => exact VA1_VA (VA1_from (φ' := φ') hρ (x := .agg xs) hv)
  | any => trivial
theorem VAs_from (hρ : ∀ l p, φ' (ρ l) = some p → φ l = some p) {xs : List AV} {us : List Value} (hv : VAs φ' M (xs.map (rnFA ρ)) us) : VAs φ M xs us := by
  refine ⟨by simpa using hv.1, fun j x hj => ?_⟩
  obtain ⟨u, h4, h5⟩ := hv.2 j (rnFA ρ x) (by rw [List.getElem?_map, hj]; rfl)
  exact ⟨u, h4, VA_from hρ h5⟩
end
def rho (l n : Nat) : Nat → Nat
  | 0 => l
  | i + 1 => n + i
section
variable {P : Program} {g : Nat} {args : List AV} {h : AH} {K : AV → AH → Prop}
theorem frame1 {l gg k : Nat} {t : TypeId} {cap : Option Nat} {es : List (List CV)} (hl : h[l]? = some (.own gg t k cap es)) (hcl : es.all (fun e => e.all clB) = true)
    (H : ACalls P g args [.own gg t k cap es] fun r h' => ∀ o' ext, h' = o' :: ext → K (rnFA (rho l h.length) r) (h.set l (rnFO (rho l h.length) o') ++ ext.map (rnFO (rho l h.length)))) : FCalls P g (args.map (rnFA (rho l h.length))) h [l] K := by
  refine ⟨H.1, fun φ M w vs R hv => ?_⟩
  have hll := hlt hl
  obtain ⟨p, hp, hpg, hpk⟩ := R.own_p hl
  let φs : Phi := fun i => if i = 0 then φ l else none
  have hs0 : ∀ i q, φs i = some q → i = 0 ∧ q = p := fun i q hq => by
    have hq' : (if i = 0 then φ l else none) = some q := hq
    split at hq'
    · rename_i e; rw [hp] at hq'; exact ⟨e, (Option.some.inj hq').symm⟩
    · cases hq'
  have hps : φs 0 = some p := by show (if 0 = 0 then φ l else none) = _; simpa using hp
  have hone : ∀ (i : Nat) (o : AO), [AO.own gg t k cap es][i]? = some o → i = 0 ∧ o = .own gg t k cap es := fun i o hi => by
    cases i with
    | zero => exact ⟨rfl, (Option.some.inj hi).symm⟩
    | succ i => simp at hi
  have hos : ∀ i q, Own φs [.own gg t k cap es] i q → i = 0 ∧ Own φ h l q := by
    rintro i q ⟨g1, t1, k1, cap1, es1, hi, hq, hvv⟩
    obtain ⟨rfl, e⟩ := hone i _ hi
    obtain ⟨_, rfl⟩ := hs0 _ _ hq
    exact ⟨rfl, _, _, _, _, _, hl, hp, hvv⟩
  have hown : ∀ b, owned φs [.own gg t k cap es] b → owned φ h b := by
    rintro b ⟨i, q, ho, hb⟩
    exact ⟨l, q, (hos i q ho).2, hb⟩
  have Rs : Rep ⟨w, owned φs [.own gg t k cap es], M⟩ φs M [.own gg t k cap es] w := by
    refine ⟨rfl, rfl, ⟨rfl, R.output.2.of rfl hown⟩, Nat.le_refl _, fun _ _ _ => rfl, MLe.refl _, R.imm, fun _ _ q => .inl q, fun i hi => ?_, fun i o hi => ?_, fun i q ho => .inl ⟨i, q, ho, rfl⟩, fun i j q s hi hj hne => ?_, fun a v i q hm ho => R.dis a v l q hm (hos i q ho).2⟩
    · simp at hi
      show (if i = 0 then φ l else none) = none
      rw [if_neg (by omega)]
    · obtain ⟨rfl, rfl⟩ := hone i _ hi
      obtain ⟨p', h1, h2, h3, h4, h5, h6, h7, h8⟩ := R.obj l _ hl
      rw [hp] at h1
      cases h1
      refine ⟨p, hps, h2, h3, h4, h5, h6, h7, fun hvv => ?_⟩
      obtain ⟨h9, C, fr, h10, h11, h12, h13⟩ := h8 hvv
      refine ⟨h9, C, fr, h10, h11, h12, fun i e j x hi hj => ?_⟩
      obtain ⟨v, hv1, hv2⟩ := h13 i e j x hi hj
      exact ⟨v, hv1, clB_V ((List.all_eq_true.1 ((List.all_eq_true.1 hcl) e (List.mem_of_getElem? hi))) x (List.mem_of_getElem? hj)) hv2⟩
    · exact absurd ((hos i q hi).1.trans (hos j s hj).1.symm) hne
  have hvs : VAs φs M args vs := VAs_from (φ' := φ) (ρ := rho l h.length) (fun i q hq => by
    cases i with
    | zero =>
      show (if 0 = 0 then φ l else none) = _
      exact (if_pos rfl).trans hq
    | succ i =>
      have : φ (h.length + i) = some q := hq
      rw [R.dom _ (by omega)] at this
      cases this) hv
  refine (H.2 φs M w vs Rs hvs).mono ?_
  rintro e w' ⟨v, r, h', φ1, M1, rfl, hv1, hk, R1, hle⟩
  obtain ⟨p1, hp1, hpp⟩ := hle 0 p hps
  obtain ⟨o', ext, rfl⟩ : ∃ o' ext, h' = o' :: ext := by
    cases h' with
    | nil => rw [R1.dom 0 (Nat.le_refl _)] at hp1; cases hp1
    | cons o' ext => exact ⟨o', ext, rfl⟩
  let φ2 : Phi := fun i => if i = l then φ1 0 else if i < h.length then φ i else φ1 (i - h.length + 1)
  have a0 : φ2 l = φ1 0 := by show (if l = l then _ else _) = _; rw [if_pos rfl]
  have a1 : ∀ i, i ≠ l → i < h.length → φ2 i = φ i := fun i h1 h2 => by show (if i = l then _ else if i < h.length then _ else _) = _; rw [if_neg h1, if_pos h2]
  have a2 : ∀ j, φ2 (h.length + j) = φ1 (j + 1) := fun j => by show (if h.length + j = l then _ else if h.length + j < h.length then _ else _) = _; rw [if_neg (by omega), if_neg (by omega)]; congr 1; omega
  have hto' : ∀ i, φ2 (rho l h.length i) = φ1 i := fun i => by cases i with | zero => exact a0 | succ i => exact a2 i
  have hto : ∀ i q, φ1 i = some q → φ2 (rho l h.length i) = some q := fun i q hq => (hto' i).trans hq
  have hle2 : Le φ φ2 := fun i q hq => by
    by_cases e : i = l
    · subst e
      rw [hp] at hq
      cases hq
      exact ⟨p1, a0.trans hp1, hpp⟩
    · have : i < h.length := by
        rcases Nat.lt_or_ge i h.length with q1 | q1
        · exact q1
        · rw [R.dom i q1] at hq; cases hq
      exact ⟨q, (a1 i e this).trans hq, .inl rfl⟩
  have hget : ∀ (i : Nat) (o : AO), (h.set l (rnFO (rho l h.length) o') ++ ext.map (rnFO (rho l h.length)))[i]? = some o → (∃ j o2, (o' :: ext)[j]? = some o2 ∧ i = rho l h.length j ∧ o = rnFO (rho l h.length) o2) ∨ (i ≠ l ∧ i < h.length ∧ h[i]? = some o) := fun i o hi => by
    rcases Nat.lt_or_ge i h.length with q | q
    · rw [List.getElem?_append_left (by simpa using q)] at hi
      rcases set_get hi with ⟨rfl, rfl, _⟩ | ⟨hn, hi⟩
      · exact .inl ⟨0, o', rfl, rfl, rfl⟩
      · exact .inr ⟨hn, q, hi⟩
    · rw [List.getElem?_append_right (by simpa using q), List.getElem?_map] at hi
      obtain ⟨o2, h2, rfl⟩ := Option.map_eq_some_iff.1 hi
      rw [List.length_set] at h2
      exact .inl ⟨i - h.length + 1, o2, h2, (by show i = h.length + (i - h.length); omega), rfl⟩
  have hown2 : ∀ i q, Own φ2 (h.set l (rnFO (rho l h.length) o') ++ ext.map (rnFO (rho l h.length))) i q → (∃ j, i = rho l h.length j ∧ Own φ1 (o' :: ext) j q) ∨ (i ≠ l ∧ Own φ h i q) := by
    rintro i q ⟨g1, t1, k1, cap1, es1, hi, hq, hvv⟩
    rcases hget i _ hi with ⟨j, o2, h1, rfl, h3⟩ | ⟨hn, hil, hi⟩
    · cases o2 with
      | own g2 t2 k2 cap2 es2 => exact .inl ⟨j, rfl, _, _, _, _, _, h1, (hto' j).symm.trans hq, hvv⟩
      | _ => cases h3
    · exact .inr ⟨hn, g1, t1, k1, cap1, es1, hi, (a1 i hn hil).symm.trans hq, hvv⟩
  have hfar : ∀ i q j s, i ≠ l → Own φ h i q → Own φ1 (o' :: ext) j s → q.b ≠ s.b := fun i q j s hn ho ho1 e => by
    rcases R1.new j s ho1 with q1 | q1
    · obtain ⟨j', s', hs', hb⟩ := q1
      exact R.inj i l q s' ho (hos j' s' hs').2 hn (e.trans hb.symm)
    · have := R.own_blk ho
      have q1' : w.heap.size ≤ s.b := q1
      omega
  refine ⟨v, _, _, φ2, M1, rfl, VA_to hto hv1, hk o' ext rfl, ⟨R1.os, R1.tape, ⟨R1.output.1, R.output.2⟩, R1.size, fun b hb hn => R1.blk b hb (fun ho => hn (hown b ho)), R1.mon, R1.imm, fun a u q => ?_, fun i hi => ?_, fun i o hi => ?_, fun i q ho => ?_, fun i j q s hi hj hne => ?_, fun a u i q hm ho => ?_⟩, hle2, fun i q ho hs => ?_⟩
  · rcases R1.imn a u q with q | q | q
    · exact .inl q
    · exact .inr (.inl (hown _ q))
    · exact .inr (.inr q)
  · simp at hi
    have := R1.dom (i - h.length + 1) (by simp; omega)
    rw [← this, ← a2 (i - h.length)]
    congr 1; omega
  · rcases hget i o hi with ⟨j, o2, h1, rfl, rfl⟩ | ⟨hn, hil, hi⟩
    · have HO := R1.obj j o2 h1
      cases o2 with
      | dead => trivial
      | ro g2 t2 k2 es2 =>
        obtain ⟨q, b1, b2⟩ := HO
        exact ⟨q, hto j q b1, b2⟩
      | own g2 t2 k2 cap2 es2 =>
        obtain ⟨q, b1, b2, b3, b4, b5, b6, b7, b8⟩ := HO
        refine ⟨q, hto j q b1, b2, b3, by simpa using b4, b5, fun e he => ?_, b7, fun hvv => ?_⟩
        · obtain ⟨e', he', rfl⟩ := List.mem_map.1 he
          simpa using b6 e' he'
        · obtain ⟨b9, C, fr, b10, b11, b12, b13⟩ := b8 hvv
          refine ⟨b9, C, fr, b10, b11, b12, fun i e j x hi hj => ?_⟩
          rw [List.getElem?_map] at hi
          obtain ⟨e', he', rfl⟩ := Option.map_eq_some_iff.1 hi
          rw [List.getElem?_map] at hj
          obtain ⟨x', hx', rfl⟩ := Option.map_eq_some_iff.1 hj
          obtain ⟨u, hu1, hu2⟩ := b13 i e' j x' he' hx'
          exact ⟨u, hu1, V_to hto hu2⟩
    · refine (R.obj i o hi).move hle2 R1.mon (a1 i hn hil) (fun q hq hvv ho => ?_)
      cases o with
      | own g2 t2 k2 cap2 es2 =>
        have ho' : Own φ h i q := ⟨_, _, _, _, _, hi, hq, hvv⟩
        refine R1.blk q.b (R.own_blk ho') (fun hb => ?_)
        obtain ⟨j', s', hs', hb'⟩ := hb
        exact R.inj i l q s' ho' (hos j' s' hs').2 hn hb'.symm
      | _ => cases ho
  · rcases hown2 i q ho with ⟨j, rfl, ho1⟩ | ⟨_, ho1⟩
    · rcases R1.new j q ho1 with q1 | q1
      · exact .inl (hown _ q1)
      · exact .inr q1
    · exact .inl ⟨i, q, ho1, rfl⟩
  · rcases hown2 i q hi with ⟨i', rfl, hi1⟩ | ⟨hn, hi1⟩ <;> rcases hown2 j s hj with ⟨j', rfl, hj1⟩ | ⟨hn', hj1⟩
    · exact R1.inj i' j' q s hi1 hj1 (fun e => hne (by rw [e]))
    · exact (hfar j s i' q hn' hj1 hi1).symm
    · exact hfar i q j' s hn hi1 hj1
    · exact R.inj i j q s hi1 hj1 hne
  · rcases hown2 i q ho with ⟨i', rfl, ho1⟩ | ⟨hn, ho1⟩
    · exact R1.dis a u i' q hm ho1
    · rcases R1.imn a u hm with q1 | q1 | q1
      · exact R.dis a u i q q1 ho1
      · obtain ⟨j', s', hs', hb'⟩ := q1
        exact fun e => R.inj i l q s' ho1 (hos j' s' hs').2 hn (e.symm.trans hb'.symm)
      · have := R.own_blk ho1
        have q1' : w.heap.size ≤ a.block := q1
        omega
  · have hn : i ≠ l := fun e => by subst e; simp at hs
    refine ⟨R1.blk q.b (R.own_blk ho) (fun hb => ?_), ?_⟩
    · obtain ⟨j', s', hs', hb'⟩ := hb
      exact R.inj i l q s' ho (hos j' s' hs').2 hn hb'.symm
    · obtain ⟨g1, t1, k1, cap1, es1, hi, hq, hvv⟩ := ho
      have hil := hlt hi
      refine ⟨g1, t1, k1, cap1, es1, ?_, (a1 i hn hil).trans hq, hvv⟩
      rw [List.getElem?_append_left (by simpa using hil), List.getElem?_set_ne (Ne.symm hn)]
      exact hi
end
/-! ### Objects handed on over a base of m objects -/
def rhV (m : Nat) (ls : List Nat) (h : AH) : CV → CV
  | .sl l g off len => if l < m then .sl l g off len else match ls.idxOf? l with
    | some i => if (objA h l g).isSome = true then .sl (m + i) 0 off len else .junk
    | none => imV h (.sl l g off len)
  | .pt l g i off => if l < m then .pt l g i off else match ls.idxOf? l with
    | some j => if (objA h l g).isSome = true then .pt (m + j) 0 i off else .junk
    | none => .junk
  | x => imV h x
def rhA (m : Nat) (ls : List Nat) (h : AH) : AV → AV
  | .one (.c v) => .one (.c v)
  | .one x => .one (rhV m ls h x)
  | .agg xs => .agg (xs.map (rhV m ls h))
  | _ => .any
def rhT (m : Nat) (ls : List Nat) (h : AH) : AV → AV
  | .tup xs => .tup (xs.map (rhA m ls h))
  | x => rhA m ls h x
def rhO (m : Nat) (ls : List Nat) (h : AH) : Option AO → AO
  | some (.own g t k cap es) => .own 0 t k cap (es.map (·.map (rhV m ls h)))
  | _ => .dead
section
variable {h : AH}
theorem Fin.handed {m : Nat} {r : AV} {K : AV → AH → Prop} (ls : List Nat) (hm : m ≤ h.length) (hnd : ls.Nodup) (hge : ∀ l, l ∈ ls → m ≤ l) (hwf : (h.take m).all (ltO m) = true) (hk : K (rhT m ls h r) (h.take m ++ ls.map fun l => rhO m ls h h[l]?)) : Fin m r h K := by
  refine ⟨_, _, hk, fun G φ M w u R hv => ?_⟩
  let L := (List.range h.length).filter fun l => decide (m ≤ l) && !(decide (l ∈ ls))
  obtain ⟨M', RF, hM, hc0⟩ := R.freeze L
  have hL : ∀ l, l ∈ L ↔ l < h.length ∧ m ≤ l ∧ l ∉ ls := fun l => by simp [L]
  have hc : ∀ l, m ≤ l → l ∉ ls → ∀ p, Own φ h l p → ∀ (o : Nat) v, w.cell? ⟨p.b, o, none⟩ = some v → M' ⟨p.b, o, none⟩ v := fun l h1 h2 p ho =>
    hc0 l ((hL l).2 ⟨own_lt' ho, h1, h2⟩) p ho
  have hlen : (h.take m).length = m := by rw [List.length_take]; omega
  let φ' : Phi := fun i => if i < m then φ i else ((ls[i - m]?).bind φ).map fun p => { p with g := 0 }
  have b0 : ∀ i, i < m → φ' i = φ i := fun i hi => by show (if i < m then _ else _) = _; rw [if_pos hi]
  have b1 : ∀ i, φ' (m + i) = ((ls[i]?).bind φ).map fun p => ({ p with g := 0 } : Pl) := fun i => by show (if m + i < m then _ else _) = _; rw [if_neg (by omega), show m + i - m = i by omega]
  have hsub : Le (fun l => if l < m then φ l else none) φ' := fun l p hl => by
    have hl' : (if l < m then φ l else none) = some p := hl
    split at hl'
    · rename_i e; exact ⟨p, (b0 l e).trans hl', .inl rfl⟩
    · cases hl'
  have low : ∀ x u, ltV m x = true → V φ M x u → V φ' M' x u := fun x u hx hv => (ltV_V hx hv).mono hsub hM
  have im : ∀ x u, (∀ l g off len, x = .sl l g off len → m ≤ l ∧ l ∉ ls) → V φ M x u → V φ' M' (imV h x) u := fun x u hx hv => by
    refine V0_V (imV_V0 R hM (fun l hl => ?_) hv)
    cases x with
    | sl l' g off len =>
      simp only [locV, List.mem_singleton] at hl
      subst hl
      exact hc l (hx l g off len rfl).1 (hx l g off len rfl).2
    | _ => cases hl
  have place : ∀ (l g i : Nat), ls.idxOf? l = some i → (objA h l g).isSome = true → ∃ p', φ l = some p' ∧ p'.g = g ∧ φ' (m + i) = some { p' with g := 0 } := fun l g i hi ho => by
    obtain ⟨q, hq⟩ := Option.isSome_iff_exists.1 ho
    obtain ⟨p', q1, q2, _⟩ := R.own_p (objA_spec hq)
    exact ⟨p', q1, q2, by rw [b1, idx_of hi, Option.bind_some, q1]; rfl⟩
  have rn : ∀ x u, V φ M x u → V φ' M' (rhV m ls h x) u := fun x u hv => by
    cases x with
    | sl l g off len =>
      simp only [rhV]
      split
      · rename_i hl; exact low _ u (by simpa [ltV] using hl) hv
      · rename_i hl
        split
        · rename_i i hi
          split
          · rename_i ho
            obtain ⟨p', q1, q2, q3⟩ := place l g i hi ho
            obtain ⟨h1, p, h2, h3, h4⟩ := hv
            rw [q1] at h2
            cases h2
            exact ⟨h1, _, q3, Nat.le_refl _, fun _ => h4 q2⟩
          · exact V0.junk u hv.1
        · rename_i hl2
          refine im _ u (fun l' g' off' len' e => ?_) hv
          cases e
          exact ⟨by omega, fun hm => by rw [List.idxOf?_eq_none_iff] at hl2; exact hl2 hm⟩
    | pt l g i off =>
      simp only [rhV]
      split
      · rename_i hl; exact low _ u (by simpa [ltV] using hl) hv
      · split
        · rename_i j hj
          split
          · rename_i ho
            obtain ⟨p', q1, q2, q3⟩ := place l g j hj ho
            obtain ⟨h1, p, h2, h3, h4⟩ := hv
            rw [q1] at h2
            cases h2
            exact ⟨h1, _, q3, Nat.le_refl _, fun _ => h4 q2⟩
          · exact V0.junk u hv.1
        · exact V0.junk u hv.1
    | _ => exact im _ u (fun l' g' off' len' e => by cases e) hv
  have rna : ∀ x u, VA φ M x u → VA1 φ' M' (rhA m ls h x) u := fun x u hv => by
    cases x with
    | one x =>
      cases x with
      | c v => exact hv
      | pt l g i off =>
        have hh := rn (.pt l g i off) u hv
        show VA1 φ' M' (.one (rhV m ls h (.pt l g i off))) u
        exact nt_VA1 (v := .one _) rfl (V_VA hh)
      | _ => exact nt_VA1 (v := .one _) rfl (V_VA (rn _ u (by simpa only [VA, VA1] using hv)))
    | agg xs =>
      obtain ⟨us, h1, h2, h3⟩ := hv
      refine ⟨us, h1, by simpa using h2, fun j x hj => ?_⟩
      rw [List.getElem?_map] at hj
      obtain ⟨x', hx', rfl⟩ := Option.map_eq_some_iff.1 hj
      obtain ⟨u, h4, h5⟩ := h3 j x' hx'
      exact ⟨u, h4, rn _ u h5⟩
    | tup xs => trivial
    | any => trivial
  have hgets : ∀ (i : Nat) (o : AO), (h.take m ++ ls.map fun l => rhO m ls h h[l]?)[i]? = some o → (i < m ∧ h[i]? = some o) ∨ ∃ j l, i = m + j ∧ ls[j]? = some l ∧ o = rhO m ls h h[l]? := fun i o hi => by
    rcases Nat.lt_or_ge i m with q | q
    · rw [List.getElem?_append_left (by omega), List.getElem?_take_of_lt q] at hi
      exact .inl ⟨q, hi⟩
    · rw [List.getElem?_append_right (by omega), hlen, List.getElem?_map] at hi
      obtain ⟨l, hl, rfl⟩ := Option.map_eq_some_iff.1 hi
      exact .inr ⟨i - m, l, by omega, hl, rfl⟩
  have hown : ∀ i p, Own φ' (h.take m ++ ls.map fun l => rhO m ls h h[l]?) i p → (i < m ∧ Own φ (frH L h) i p) ∨ ∃ j l p0, i = m + j ∧ ls[j]? = some l ∧ Own φ (frH L h) l p0 ∧ p0.b = p.b := by
    rintro i p ⟨g, t, k, cap, es, hi, hp, hvv⟩
    rcases hgets i _ hi with ⟨him, hi⟩ | ⟨j, l, rfl, hl, ho⟩
    · exact .inl ⟨him, g, t, k, cap, es, by rw [frH_get _ _ (fun q => by have := ((hL i).1 q).2.1; omega)]; exact hi, (b0 i him).symm.trans hp, hvv⟩
    · rw [b1, hl, Option.bind_some] at hp
      obtain ⟨p0, hp0, rfl⟩ := Option.map_eq_some_iff.1 hp
      cases hhl : h[l]? with
      | none => rw [hhl] at ho; cases ho
      | some o0 =>
        rw [hhl] at ho
        cases o0 with
        | own g0 t0 k0 cap0 es0 =>
          refine .inr ⟨j, l, p0, rfl, hl, ⟨g0, t0, k0, cap0, es0, ?_, hp0, hvv⟩, rfl⟩
          rw [frH_get _ _ (fun q => ((hL l).1 q).2.2 (List.mem_of_getElem? hl))]
          exact hhl
        | _ => cases ho
  refine ⟨φ', M', ⟨RF.os, RF.tape, RF.output, RF.size, RF.blk, RF.mon, RF.imm, RF.imn, fun i hi => ?_, ?_, fun i p ho => ?_, fun i j p q hi hj hne => ?_, fun a v i p hmm ho => ?_⟩, ?_, fun l p hl hp => ⟨p, (b0 l hl).trans hp, .inl rfl⟩⟩
  · rw [List.length_append, hlen, List.length_map] at hi
    show (if i < m then _ else _) = none
    rw [if_neg (by omega), List.getElem?_eq_none (by omega)]
    rfl
  · intro i o hi
    rcases hgets i o hi with ⟨him, hi⟩ | ⟨j, l, rfl, hl, rfl⟩
    · have hw := (List.all_eq_true.1 hwf) o (by
        refine List.mem_of_getElem? (i := i) ?_
        rw [List.getElem?_take_of_lt him]; exact hi)
      have HO := R.obj i o hi
      cases o with
      | dead => trivial
      | ro g t k es =>
        obtain ⟨p, h1, h2, h3, h4, h5, h6, h7⟩ := HO
        refine ⟨p, (b0 i him).trans h1, h2, h3, h4, h5, h6, fun hvv => ?_⟩
        obtain ⟨h8, C, h9⟩ := h7 hvv
        exact ⟨h8, C, fun i e j x hi hj => ⟨hM _ _ (h9 i e j x hi hj).1, (h9 i e j x hi hj).2.mono hM⟩⟩
      | own g t k cap es =>
        obtain ⟨p, h1, h2, h3, h4, h5, h6, h7, h8⟩ := HO
        refine ⟨p, (b0 i him).trans h1, h2, h3, h4, h5, h6, h7, fun hvv => ?_⟩
        obtain ⟨h9, C, fr, h10, h11, h12, h13⟩ := h8 hvv
        refine ⟨h9, C, fr, h10, h11, h12, fun i e j x hi hj => ?_⟩
        obtain ⟨v, hv1, hv2⟩ := h13 i e j x hi hj
        exact ⟨v, hv1, low _ v ((List.all_eq_true.1 ((List.all_eq_true.1 hw) e (List.mem_of_getElem? hi))) x (List.mem_of_getElem? hj)) hv2⟩
    · cases hhl : h[l]? with
      | none => trivial
      | some o0 =>
        cases o0 with
        | own g0 t0 k0 cap0 es0 =>
          obtain ⟨p, h1, h2, h3, h4, h5, h6, h7, h8⟩ := R.obj l _ hhl
          refine ⟨{ p with g := 0 }, ?_, rfl, h3, by simpa using h4, h5, fun e he => ?_, h7, fun hvv => ?_⟩
          · rw [b1, hl, Option.bind_some, h1]; rfl
          · obtain ⟨e', he', rfl⟩ := List.mem_map.1 he
            simpa using h6 e' he'
          · obtain ⟨h9, C, fr, h10, h11, h12, h13⟩ := h8 hvv
            refine ⟨h9, C, fr, h10, h11, h12, fun i e j x hi hj => ?_⟩
            rw [List.getElem?_map] at hi
            obtain ⟨e', he', rfl⟩ := Option.map_eq_some_iff.1 hi
            rw [List.getElem?_map] at hj
            obtain ⟨x', hx', rfl⟩ := Option.map_eq_some_iff.1 hj
            obtain ⟨v, hv1, hv2⟩ := h13 i e' j x' he' hx'
            exact ⟨v, hv1, rn _ v hv2⟩
        | _ => trivial
  · rcases hown i p ho with ⟨_, ho'⟩ | ⟨j, l, p0, _, _, ho', hb⟩
    · exact RF.new i p ho'
    · rw [← hb]
      exact RF.new l p0 ho'
  · rcases hown i p hi with ⟨him, hi'⟩ | ⟨a, l, p0, rfl, hl, hi', hb⟩ <;> rcases hown j q hj with ⟨hjm, hj'⟩ | ⟨a', l', p0', rfl, hl', hj', hb'⟩
    · exact RF.inj i j p q hi' hj' hne
    · rw [← hb']
      exact RF.inj i l' p p0' hi' hj' (by have := hge l' (List.mem_of_getElem? hl'); omega)
    · rw [← hb]
      exact RF.inj l j p0 q hi' hj' (by have := hge l (List.mem_of_getElem? hl); omega)
    · rw [← hb, ← hb']
      refine RF.inj l l' p0 p0' hi' hj' (fun e => hne ?_)
      subst e
      obtain ⟨hi1, e1⟩ := List.getElem?_eq_some_iff.1 hl
      obtain ⟨hj1, e2⟩ := List.getElem?_eq_some_iff.1 hl'
      rw [(List.getElem_inj hnd).1 (e1.trans e2.symm)]
  · rcases hown i p ho with ⟨_, ho'⟩ | ⟨j, l, p0, _, _, ho', hb⟩
    · exact RF.dis a v i p hmm ho'
    · rw [← hb]
      exact RF.dis a v l p0 hmm ho'
  · cases r with
    | tup xs =>
      obtain ⟨us, h1, h2, h3⟩ := hv
      refine ⟨us, h1, by simpa using h2, fun j x hj => ?_⟩
      rw [List.getElem?_map] at hj
      obtain ⟨x', hx', rfl⟩ := Option.map_eq_some_iff.1 hj
      obtain ⟨u, h4, h5⟩ := h3 j x' hx'
      exact ⟨u, h4, rna x' u (VA1_VA h5)⟩
    | one x => exact VA1_VA (rna _ u hv)
    | agg xs => exact VA1_VA (rna _ u hv)
    | any => trivial
end
/-- The answer and the objects handed on, over a base that stays. -/
def retH (P : Program) (m : Nat) (ls : List Nat) (rs : List ResultVar) (K : AV → AH → Prop) (f : AF) (h : AH) : Prop := On (rsG P f h rs) fun vs => vs.all notTup = true ∧ m ≤ h.length ∧ ls.Nodup ∧ (∀ l, l ∈ ls → m ≤ l) ∧ (h.take m).all (ltO m) = true ∧ K (rhT m ls h (oneOrTup vs)) (h.take m ++ ls.map fun l => rhO m ls h h[l]?)
theorem acall_h {P : Program} {h : AH} {g : Nat} {fn : Func} {c : Code} {args : List AV} {K : AV → AH → Prop} (rs : List ResultVar) (hmo : P.follows .mixedOrders = true) (hf : P.funcs[g]? = some fn) (hrs : fn.results.toList = rs) (hbody : fn.body = some c) (hB : (codeB fn.ntmps c && fnB fn && hasBody P g && decide (args.length ≤ fn.ntmps)) = true)
    (H : ∀ Q : AExit → AF → AH → Prop, (∀ ls f h', GC h.length (retH P h.length ls rs K) f h' → Q .ret f h') → (∀ ls f h', GC h.length (retH P h.length ls rs K) f h' → Q .normal f h') → goG P c [] ⟨h.length, Q⟩ (frame0 args) h) : ACalls P g args h K := by
  refine acall_gen rs hmo hf hrs hbody hB (fun Q hm hQ => ?_)
  obtain ⟨m, q⟩ := Q
  simp only at hm hQ
  subst hm
  have fin : ∀ ls f h', retH P h.length ls rs K f h' → ARet P rs h.length K f h' := fun ls f h' hr => by
    unfold retH at hr
    obtain ⟨vs, hvs, hnt, h1, h2, h3, h4, hk⟩ := hr.elim
    unfold ARet
    rw [hvs]
    exact ⟨hnt, Fin.handed ls h1 h2 h3 h4 hk⟩
  exact H q (fun ls f h' hr => (hQ f h' (hr.mono (fun f h' hr => fin ls f h' hr))).1) (fun ls f h' hr => (hQ f h' (hr.mono (fun f h' hr => fin ls f h' hr))).2)
end Go.BL
namespace Go.BL
open Go.RowKit
section
variable {h : AH} {f : AF} {P : Program} {m : Nat}
def rhG (m : Nat) (ls : List Nat) (h : AH) (vs : Option (List AV)) (K : AV → AH → Prop) : Prop := On vs fun vs => vs.all notTup = true ∧ m ≤ h.length ∧ ls.Nodup ∧ (∀ l, l ∈ ls → m ≤ l) ∧ (h.take m).all (ltO m) = true ∧ K (rhT m ls h (oneOrTup vs)) (h.take m ++ ls.map fun l => rhO m ls h h[l]?)
theorem hd_ret (ls : List Nat) (rs : List ResultVar) (K : AV → AH → Prop) : retH P m ls rs K f h = rhG m ls h (rsG P f h rs) K := _root_.id rfl
theorem hd_some (ls : List Nat) (vs : List AV) (K : AV → AH → Prop) : rhG m ls h (some vs) K = (vs.all notTup = true ∧ m ≤ h.length ∧ ls.Nodup ∧ (∀ l, l ∈ ls → m ≤ l) ∧ (h.take m).all (ltO m) = true ∧ K (rhT m ls h (oneOrTup vs)) (h.take m ++ ls.map fun l => rhO m ls h h[l]?)) := _root_.id rfl
theorem hd_tup (ls : List Nat) (xs : List AV) : rhT m ls h (.tup xs) = .tup (xs.map (rhA m ls h)) := _root_.id rfl
theorem hd_1 (ls : List Nat) (x : CV) : rhT m ls h (.one x) = rhA m ls h (.one x) := _root_.id rfl
theorem hd_agg (ls : List Nat) (xs : List CV) : rhT m ls h (.agg xs) = rhA m ls h (.agg xs) := _root_.id rfl
theorem hd_ac (ls : List Nat) (v : Value) : rhA m ls h (.one (.c v)) = .one (.c v) := _root_.id rfl
theorem hd_anl (ls : List Nat) : rhA m ls h (.one .nl) = .one (.im []) := _root_.id rfl
theorem hd_aim (ls : List Nat) (es : List (List CV)) : rhA m ls h (.one (.im es)) = .one (.im es) := _root_.id rfl
theorem hd_asl (ls : List Nat) (l g off len : Nat) : rhA m ls h (.one (.sl l g off len)) = .one (rhV m ls h (.sl l g off len)) := _root_.id rfl
theorem hd_apt (ls : List Nat) (l g i off : Nat) : rhA m ls h (.one (.pt l g i off)) = .one (rhV m ls h (.pt l g i off)) := _root_.id rfl
theorem hd_aagg (ls : List Nat) (xs : List CV) : rhA m ls h (.agg xs) = .agg (xs.map (rhV m ls h)) := _root_.id rfl
theorem hd_vc (ls : List Nat) (v : Value) : rhV m ls h (.c v) = .c v := _root_.id rfl
theorem hd_vnl (ls : List Nat) : rhV m ls h .nl = .im [] := _root_.id rfl
theorem hd_vim (ls : List Nat) (es : List (List CV)) : rhV m ls h (.im es) = .im es := _root_.id rfl
def rhS (m : Nat) (i : Option Nat) (b : Bool) (off len : Nat) (x : CV) : CV := match i with | some i => if b = true then .sl (m + i) 0 off len else .junk | none => x
def rhP (m : Nat) (j : Option Nat) (b : Bool) (i off : Nat) : CV := match j with | some j => if b = true then .pt (m + j) 0 i off else .junk | none => .junk
theorem hd_vslo (ls : List Nat) (l g off len : Nat) (hl : l < m) : rhV m ls h (.sl l g off len) = .sl l g off len := by simp [rhV, hl]
theorem hd_vslh (ls : List Nat) (l g off len : Nat) (hl : m ≤ l) : rhV m ls h (.sl l g off len) = rhS m (ls.idxOf? l) (objA h l g).isSome off len (imV h (.sl l g off len)) := by
  simp only [rhV]; rw [if_neg (by omega)]; rfl
theorem hd_vpto (ls : List Nat) (l g i off : Nat) (hl : l < m) : rhV m ls h (.pt l g i off) = .pt l g i off := by simp [rhV, hl]
theorem hd_vpth (ls : List Nat) (l g i off : Nat) (hl : m ≤ l) : rhV m ls h (.pt l g i off) = rhP m (ls.idxOf? l) (objA h l g).isSome i off := by
  simp only [rhV]; rw [if_neg (by omega)]; rfl
theorem hd_S1 (i : Nat) (off len : Nat) (x : CV) : rhS m (some i) true off len x = .sl (m + i) 0 off len := by simp [rhS]
theorem hd_S0 (b : Bool) (off len : Nat) (x : CV) : rhS m none b off len x = x := _root_.id rfl
theorem hd_P1 (j i off : Nat) : rhP m (some j) true i off = .pt (m + j) 0 i off := by simp [rhP]
theorem hd_oown (ls : List Nat) (g : Nat) (t : TypeId) (n : Nat) (cap : Option Nat) (es : List (List CV)) (he : stL es = true) : rhO m ls h (some (.own g t n cap es)) = .own 0 t n cap es := by
  simp only [rhO]
  have h1 : ∀ (x : CV), stB x = true → rhV m ls h x = x := fun x hx => by
    cases x with
    | nl => cases hx
    | emp => cases hx
    | pt _ _ _ _ => cases hx
    | sl _ _ _ _ => cases hx
    | clo g caps => cases caps with | nil => rfl | cons _ _ => cases hx
    | _ => rfl
  have h2 : es.map (·.map (rhV m ls h)) = es := by
    conv => rhs; rw [← List.map_id es]
    refine List.map_congr_left fun e hm => ?_
    have := (List.all_eq_true.1 he) e hm
    show e.map (rhV m ls h) = e
    conv => rhs; rw [← List.map_id e]
    exact List.map_congr_left fun x hx => h1 x ((List.all_eq_true.1 this) x hx)
  rw [h2]
theorem hd_onone (ls : List Nat) : rhO m ls h none = .dead := _root_.id rfl
theorem rnF_c (ρ : Nat → Nat) (v : Value) : rnFA ρ (.one (.c v)) = .one (.c v) := _root_.id rfl
theorem rnF_im (ρ : Nat → Nat) (es : List (List CV)) : rnFA ρ (.one (.im es)) = .one (.im es) := _root_.id rfl
theorem rnF_pt (ρ : Nat → Nat) (l g i off : Nat) : rnFA ρ (.one (.pt l g i off)) = .one (.pt (ρ l) g i off) := _root_.id rfl
theorem rnF_sl (ρ : Nat → Nat) (l g off len : Nat) : rnFA ρ (.one (.sl l g off len)) = .one (.sl (ρ l) g off len) := _root_.id rfl
theorem rnF_agg (ρ : Nat → Nat) (xs : List CV) : rnFA ρ (.agg xs) = .agg (xs.map (rnF ρ)) := _root_.id rfl
theorem rnF_tup (ρ : Nat → Nat) (xs : List AV) : rnFA ρ (.tup xs) = .tup (xs.map (rnF1 ρ)) := _root_.id rfl
theorem rnF_vc (ρ : Nat → Nat) (v : Value) : rnF ρ (.c v) = .c v := _root_.id rfl
theorem rnF_vim (ρ : Nat → Nat) (es : List (List CV)) : rnF ρ (.im es) = .im es := _root_.id rfl
theorem rnF_vsl (ρ : Nat → Nat) (l g off len : Nat) : rnF ρ (.sl l g off len) = .sl (ρ l) g off len := _root_.id rfl
theorem rnF1_agg (ρ : Nat → Nat) (xs : List CV) : rnF1 ρ (.agg xs) = .agg (xs.map (rnF ρ)) := _root_.id rfl
theorem rnF1_one (ρ : Nat → Nat) (x : CV) : rnF1 ρ (.one x) = .one (rnF ρ x) := _root_.id rfl
theorem rho_0 (l n : Nat) : rho l n 0 = l := _root_.id rfl
theorem rho_s (l n i : Nat) : rho l n (i + 1) = n + i := _root_.id rfl
end
end Go.BL
/-! ### A heap of chosen objects -/
namespace Go.BL
open Go.RowKit
def rkL (m : Nat) (ls : List Nat) (l : Nat) : Option Nat := if l < m then some l else (ls.idxOf? l).map (m + ·)
def rkV (m : Nat) (ls : List Nat) : CV → CV
  | .sl l g off len => match rkL m ls l with | some i => .sl i g off len | none => .junk
  | .pt l g i off => match rkL m ls l with | some j => .pt j g i off | none => .junk
  | .clo g caps => match caps.mapM (rkL m ls) with | some cs => .clo g cs | none => .junk
  | x => x
def rkA (m : Nat) (ls : List Nat) : AV → AV
  | .one (.c v) => .one (.c v)
  | .one x => .one (rkV m ls x)
  | .agg xs => .agg (xs.map (rkV m ls))
  | x => x
def rkT (m : Nat) (ls : List Nat) : AV → AV
  | .tup xs => .tup (xs.map (rkA m ls))
  | x => rkA m ls x
def rkO (m : Nat) (ls : List Nat) : Option AO → AO
  | some (.own g t k cap es) => .own g t k cap (es.map (·.map (rkV m ls)))
  | some (.ro g t k es) => .ro g t k es
  | _ => .dead
theorem mapM_len {α β : Type} (f : α → Option β) : ∀ (xs : List α) (ys : List β), xs.mapM f = some ys → ys.length = xs.length ∧ ∀ (j : Nat) (y : β), ys[j]? = some y → ∃ x : α, xs[j]? = some x ∧ f x = some y
  | [], ys, h => by
    simp at h; subst h
    exact ⟨rfl, fun j y hj => by simp at hj⟩
  | x :: r, ys, h => by
    simp only [List.mapM_cons, Option.bind_eq_bind, Option.bind_eq_some_iff, Option.pure_def, Option.some.injEq] at h
    obtain ⟨b, hb, bs, hbs, rfl⟩ := h
    obtain ⟨h1, h2⟩ := mapM_len f r bs hbs
    refine ⟨by simp [h1], fun j y hj => ?_⟩
    cases j with
    | zero => simp at hj; subst hj; exact ⟨x, rfl, hb⟩
    | succ j => simpa using h2 j y (by simpa using hj)
theorem Ghost.keep {m : Nat} {f : AF} {h : AH} (ls : List Nat) (hm : m ≤ h.length) (hnd : ls.Nodup) (hge : ∀ l, l ∈ ls → m ≤ l) : Ghost m f h (fun r => rkT m ls (f r)) (((h.take m).map fun o => rkO m ls (some o)) ++ ls.map fun l => rkO m ls h[l]?) := fun G φ M w R => by
  have hlen : ((h.take m).map fun o => rkO m ls (some o)).length = m := by rw [List.length_map, List.length_take]; omega
  let φ' : Phi := fun i => if i < m then φ i else (ls[i - m]?).bind φ
  have b0 : ∀ i, i < m → φ' i = φ i := fun i hi => by show (if i < m then _ else _) = _; rw [if_pos hi]
  have b1 : ∀ i, φ' (m + i) = (ls[i]?).bind φ := fun i => by show (if m + i < m then _ else _) = _; rw [if_neg (by omega), show m + i - m = i by omega]
  have hL : ∀ l i, rkL m ls l = some i → φ' i = φ l := fun l i hi => by
    rw [rkL] at hi
    split at hi
    · rename_i q; cases hi; exact b0 l q
    · obtain ⟨j, hj, rfl⟩ := Option.map_eq_some_iff.1 hi
      rw [b1, idx_of hj]; rfl
  have rn : ∀ x u, V φ M x u → V φ' M (rkV m ls x) u := fun x u hv => by
    cases x with
    | sl l g off len =>
      simp only [rkV]
      cases hi : rkL m ls l with
      | some i => obtain ⟨h1, p, h2, h3⟩ := hv; exact ⟨h1, p, (hL l i hi).trans h2, h3⟩
      | none => exact V0.junk u hv.1
    | pt l g i off =>
      simp only [rkV]
      cases hi : rkL m ls l with
      | some j => obtain ⟨h1, p, h2, h3⟩ := hv; exact ⟨h1, p, (hL l j hi).trans h2, h3⟩
      | none => exact V0.junk u hv.1
    | clo g caps =>
      simp only [rkV]
      cases hc : caps.mapM (rkL m ls) with
      | none => obtain ⟨vs, rfl, _⟩ := hv; exact V0.junk _ rfl
      | some cs =>
        obtain ⟨vs, h1, h2, h3⟩ := hv
        obtain ⟨a1, a2⟩ := mapM_len _ _ _ hc
        refine ⟨vs, h1, h2.trans a1.symm, fun j l hj => ?_⟩
        obtain ⟨l', q1, q2⟩ := a2 j l hj
        obtain ⟨v, h4, h5, p, h6, h7⟩ := h3 j l' q1
        exact ⟨v, h4, h5, p, (hL l' l q2).trans h6, h7⟩
    | _ => exact hv
  have rna : ∀ x u, VA1 φ M x u → VA1 φ' M (rkA m ls x) u := fun x u hv => by
    cases x with
    | one x =>
      rcases VA_V (show VA φ M (.one x) u from hv) with q | ⟨v, rfl, rfl⟩
      · have q2 := rn x u q
        cases x with
        | c v => cases q; rfl
        | sl l g off len => exact nt_VA1 (v := .one _) rfl (V_VA q2)
        | pt l g i off => exact nt_VA1 (v := .one _) rfl (V_VA q2)
        | clo g caps => exact nt_VA1 (v := .one _) rfl (V_VA q2)
        | _ => exact nt_VA1 (v := .one _) rfl (V_VA q2)
      · rfl
    | agg xs =>
      obtain ⟨us, h1, h2, h3⟩ := hv
      refine ⟨us, h1, by simpa using h2, fun j x hj => ?_⟩
      rw [List.getElem?_map] at hj
      obtain ⟨x', hx', rfl⟩ := Option.map_eq_some_iff.1 hj
      obtain ⟨u, h4, h5⟩ := h3 j x' hx'
      exact ⟨u, h4, rn _ u h5⟩
    | tup xs => exact hv
    | any => trivial
  have hgets : ∀ (i : Nat) (o : AO), (((h.take m).map fun o => rkO m ls (some o)) ++ ls.map fun l => rkO m ls h[l]?)[i]? = some o → ∃ l, φ' i = φ l ∧ o = rkO m ls h[l]? ∧ ((i < m ∧ l = i) ∨ ∃ j, i = m + j ∧ ls[j]? = some l) := fun i o hi => by
    rcases Nat.lt_or_ge i m with q | q
    · rw [List.getElem?_append_left (by omega), List.getElem?_map, List.getElem?_take_of_lt q] at hi
      obtain ⟨o', h1, rfl⟩ := Option.map_eq_some_iff.1 hi
      exact ⟨i, b0 i q, by rw [h1], .inl ⟨q, rfl⟩⟩
    · rw [List.getElem?_append_right (by omega), hlen, List.getElem?_map] at hi
      obtain ⟨l, hl, rfl⟩ := Option.map_eq_some_iff.1 hi
      refine ⟨l, ?_, rfl, .inr ⟨i - m, by omega, hl⟩⟩
      have := b1 (i - m)
      rw [show m + (i - m) = i by omega, hl] at this
      exact this
  have hown : ∀ i p, Own φ' (((h.take m).map fun o => rkO m ls (some o)) ++ ls.map fun l => rkO m ls h[l]?) i p → ∃ l, Own φ h l p ∧ ((i < m ∧ l = i) ∨ ∃ j, i = m + j ∧ ls[j]? = some l) := by
    rintro i p ⟨g, t, k, cap, es, hi, hp, hvv⟩
    obtain ⟨l, h1, h2, h3⟩ := hgets i _ hi
    cases hhl : h[l]? with
    | none => rw [hhl] at h2; cases h2
    | some o0 =>
      rw [hhl] at h2
      cases o0 with
      | own g0 t0 k0 cap0 es0 => exact ⟨l, ⟨g0, t0, k0, cap0, es0, hhl, h1 ▸ hp, hvv⟩, h3⟩
      | _ => cases h2
  refine ⟨φ', M, ⟨R.os, R.tape, R.output, R.size, R.blk, R.mon, R.imm, R.imn, fun i hi => ?_, ?_, fun i p ho => ?_, fun i j p q hi hj hne => ?_, fun a v i p hmm ho => ?_⟩, MLe.refl _, fun l p hl hp => ⟨p, (b0 l hl).trans hp, .inl rfl⟩, fun r u hv => ?_⟩
  · rw [List.length_append, hlen, List.length_map] at hi
    show (if i < m then _ else _) = none
    rw [if_neg (by omega), List.getElem?_eq_none (by omega)]
    rfl
  · intro i o hi
    obtain ⟨l, h1, rfl, _⟩ := hgets i o hi
    cases hhl : h[l]? with
    | none => trivial
    | some o0 =>
      have HO := R.obj l o0 hhl
      cases o0 with
      | dead => trivial
      | ro g t k es =>
        obtain ⟨p, a1, a2⟩ := HO
        exact ⟨p, h1.trans a1, a2⟩
      | own g t k cap es =>
        obtain ⟨p, a1, a2, a3, a4, a5, a6, a7, a8⟩ := HO
        refine ⟨p, h1.trans a1, a2, a3, by simpa using a4, a5, fun e he => ?_, a7, fun hvv => ?_⟩
        · obtain ⟨e', he', rfl⟩ := List.mem_map.1 he
          simpa using a6 e' he'
        · obtain ⟨h9, C, fr, h10, h11, h12, h13⟩ := a8 hvv
          refine ⟨h9, C, fr, h10, h11, h12, fun i e j x hi hj => ?_⟩
          rw [List.getElem?_map] at hi
          obtain ⟨e', he', rfl⟩ := Option.map_eq_some_iff.1 hi
          rw [List.getElem?_map] at hj
          obtain ⟨x', hx', rfl⟩ := Option.map_eq_some_iff.1 hj
          obtain ⟨v, hv1, hv2⟩ := h13 i e' j x' he' hx'
          exact ⟨v, hv1, rn _ v hv2⟩
  · obtain ⟨l, ho', _⟩ := hown i p ho
    exact R.new l p ho'
  · obtain ⟨l, ho, hl⟩ := hown i p hi
    obtain ⟨l', ho', hl'⟩ := hown j q hj
    refine R.inj l l' p q ho ho' (fun e => hne ?_)
    subst e
    rcases hl with ⟨a1, rfl⟩ | ⟨a, rfl, ha⟩ <;> rcases hl' with ⟨b1', b2⟩ | ⟨b, rfl, hb⟩
    · exact b2
    · have := hge _ (List.mem_of_getElem? hb); omega
    · have := hge _ (List.mem_of_getElem? ha); omega
    · obtain ⟨hi1, e1⟩ := List.getElem?_eq_some_iff.1 ha
      obtain ⟨hj1, e2⟩ := List.getElem?_eq_some_iff.1 hb
      rw [(List.getElem_inj hnd).1 (e1.trans e2.symm)]
  · obtain ⟨l, ho', _⟩ := hown i p ho
    exact R.dis a v l p hmm ho'
  · have hv' : VA φ M (f r) u := hv
    show VA φ' M (rkT m ls (f r)) u
    cases hx : f r with
    | tup xs =>
      rw [hx] at hv'
      obtain ⟨us, h1, h2, h3⟩ := hv'
      refine ⟨us, h1, by simpa using h2, fun j x hj => ?_⟩
      rw [List.getElem?_map] at hj
      obtain ⟨x', hx', rfl⟩ := Option.map_eq_some_iff.1 hj
      obtain ⟨u, h4, h5⟩ := h3 j x' hx'
      exact ⟨u, h4, rna x' u h5⟩
    | one x => rw [hx] at hv'; exact VA1_VA (rna (.one x) u hv')
    | agg xs => rw [hx] at hv'; exact VA1_VA (rna (.agg xs) u hv')
    | any => trivial
theorem Ghost.gc {m : Nat} {f : AF} {h : AH} (ls : List Nat) (hm : m ≤ h.length) (hc : (ls.all (fun l => decide (m ≤ l)) && decide ls.Nodup) = true) : Ghost m f h (fun r => rkT m ls (f r)) (((h.take m).map fun o => rkO m ls (some o)) ++ ls.map fun l => rkO m ls h[l]?) := by
  rw [Bool.and_eq_true] at hc
  exact Ghost.keep ls hm (of_decide_eq_true hc.2) (fun l hl => of_decide_eq_true ((List.all_eq_true.1 hc.1) l hl))
section
variable {h : AH} {f : AF} {m : Nat}
theorem hd_krl_lo (ls : List Nat) (l : Nat) (hl : l < m) : rkL m ls l = some l := by simp [rkL, hl]
theorem hd_krl_hi (ls : List Nat) (l : Nat) (hl : m ≤ l) : rkL m ls l = (ls.idxOf? l).map (m + ·) := by rw [rkL, if_neg (by omega)]
def rkS (i : Option Nat) (g off len : Nat) : CV := match i with | some i => .sl i g off len | none => .junk
def rkP (i : Option Nat) (g j off : Nat) : CV := match i with | some i => .pt i g j off | none => .junk
theorem hd_kvc (ls : List Nat) (v : Value) : rkV m ls (.c v) = .c v := _root_.id rfl
theorem hd_kvim (ls : List Nat) (es : List (List CV)) : rkV m ls (.im es) = .im es := _root_.id rfl
theorem hd_kvnl (ls : List Nat) : rkV m ls .nl = .nl := _root_.id rfl
theorem hd_kvemp (ls : List Nat) : rkV m ls .emp = .emp := _root_.id rfl
theorem hd_kvj (ls : List Nat) : rkV m ls .junk = .junk := _root_.id rfl
theorem hd_kvsl (ls : List Nat) (l g off len : Nat) : rkV m ls (.sl l g off len) = rkS (rkL m ls l) g off len := _root_.id rfl
theorem hd_kvpt (ls : List Nat) (l g i off : Nat) : rkV m ls (.pt l g i off) = rkP (rkL m ls l) g i off := _root_.id rfl
theorem hd_kS1 (i g off len : Nat) : rkS (some i) g off len = .sl i g off len := _root_.id rfl
theorem hd_kS0 (g off len : Nat) : rkS none g off len = .junk := _root_.id rfl
theorem hd_kP1 (i g j off : Nat) : rkP (some i) g j off = .pt i g j off := _root_.id rfl
theorem hd_kP0 (g j off : Nat) : rkP none g j off = .junk := _root_.id rfl
theorem hd_kAc (ls : List Nat) (v : Value) : rkA m ls (.one (.c v)) = .one (.c v) := _root_.id rfl
theorem hd_kAim (ls : List Nat) (es : List (List CV)) : rkA m ls (.one (.im es)) = .one (.im es) := _root_.id rfl
theorem hd_kAnl (ls : List Nat) : rkA m ls (.one .nl) = .one .nl := _root_.id rfl
theorem hd_kAsl (ls : List Nat) (l g off len : Nat) : rkA m ls (.one (.sl l g off len)) = .one (rkV m ls (.sl l g off len)) := _root_.id rfl
theorem hd_kApt (ls : List Nat) (l g i off : Nat) : rkA m ls (.one (.pt l g i off)) = .one (rkV m ls (.pt l g i off)) := _root_.id rfl
theorem hd_kAagg (ls : List Nat) (xs : List CV) : rkA m ls (.agg xs) = .agg (xs.map (rkV m ls)) := _root_.id rfl
theorem hd_kT1 (ls : List Nat) (x : CV) : rkT m ls (.one x) = rkA m ls (.one x) := _root_.id rfl
theorem hd_kTagg (ls : List Nat) (xs : List CV) : rkT m ls (.agg xs) = rkA m ls (.agg xs) := _root_.id rfl
theorem hd_kTtup (ls : List Nat) (xs : List AV) : rkT m ls (.tup xs) = .tup (xs.map (rkA m ls)) := _root_.id rfl
theorem hd_kO1 (ls : List Nat) (g : Nat) (t : TypeId) (k : Nat) (cap : Option Nat) (e : List CV) : rkO m ls (some (.own g t k cap [e])) = .own g t k cap [e.map (rkV m ls)] := _root_.id rfl
theorem kOown (ls : List Nat) (g : Nat) (t : TypeId) (k : Nat) (cap : Option Nat) (es : List (List CV)) : rkO m ls (some (.own g t k cap es)) = .own g t k cap (es.map (·.map (rkV m ls))) := _root_.id rfl
theorem hd_kOclo (ls : List Nat) (g : Nat) (t : TypeId) (k : Nat) (cap : Option Nat) (es : List (List CV)) (hc : clE es = true) : rkO m ls (some (.own g t k cap es)) = .own g t k cap es := by
  have h1 : ∀ x : CV, clB x = true → rkV m ls x = x := fun x hx => by
    cases x with
    | pt _ _ _ _ => cases hx
    | sl _ _ _ _ => cases hx
    | clo g caps => cases caps with | nil => rfl | cons _ _ => cases hx
    | _ => rfl
  have h2 : es.map (·.map (rkV m ls)) = es := by
    conv => rhs; rw [← List.map_id es]
    refine List.map_congr_left fun e hm => ?_
    have := (List.all_eq_true.1 hc) e hm
    show e.map (rkV m ls) = e
    conv => rhs; rw [← List.map_id e]
    exact List.map_congr_left fun x hx => h1 x ((List.all_eq_true.1 this) x hx)
  rw [kOown, h2]
end
end Go.BL
/-! ### The frame rule over several objects -/
namespace Go.BL
open Go.RowKit
def rhoL (ls : List Nat) (n i : Nat) : Nat := match ls[i]? with | some l => l | none => n + (i - ls.length)
def plug : List Nat → AH → AH → AH
  | l :: ls, o :: os, h => plug ls os (h.set l o)
  | _, _, h => h
theorem plug_len : ∀ (ls : List Nat) (os h : AH), (plug ls os h).length = h.length
  | [], _, h => by cases ‹AH› <;> rfl
  | l :: ls, [], h => rfl
  | l :: ls, o :: os, h => by rw [plug, plug_len ls os]; simp
theorem plug_ne : ∀ (ls : List Nat) (os h : AH) {j : Nat}, j ∉ ls → (plug ls os h)[j]? = h[j]?
  | [], os, h, j, _ => by cases os <;> rfl
  | l :: ls, [], h, j, _ => rfl
  | l :: ls, o :: os, h, j, hj => by
    simp only [List.mem_cons, not_or] at hj
    rw [plug, plug_ne ls os _ hj.2, List.getElem?_set_ne (Ne.symm hj.1)]
theorem plug_at : ∀ (ls : List Nat) (os h : AH) {i l : Nat}, ls.Nodup → ls[i]? = some l → l < h.length → (i < os.length → (plug ls os h)[l]? = os[i]?)
  | [], os, h, i, l, _, hi, _ => by simp at hi
  | l0 :: ls, [], h, i, l, _, hi, _ => fun hh => by simp at hh
  | l0 :: ls, o :: os, h, i, l, hnd, hi, hl => fun hh => by
    rw [List.nodup_cons] at hnd
    rw [plug]
    cases i with
    | zero =>
      simp at hi; subst hi
      rw [plug_ne ls os _ hnd.1, List.getElem?_set_self hl]; rfl
    | succ i =>
      simp only [List.getElem?_cons_succ] at hi ⊢
      exact plug_at ls os (h.set l0 o) hnd.2 hi (by simpa using hl) (by simpa using hh)
def clO : AO → Bool
  | .own _ _ _ _ es => es.all fun e => e.all clB
  | _ => false
section
variable {P : Program} {g : Nat} {args : List AV} {h : AH} {K : AV → AH → Prop}
theorem frameL {ls : List Nat} {hs : AH} (hnd : ls.Nodup) (hlen : hs.length = ls.length) (hget : ∀ (i l : Nat), ls[i]? = some l → h[l]? = hs[i]?) (hcl : hs.all clO = true)
    (H : ACalls P g args hs fun r h' => ∀ os ext, h' = os ++ ext → os.length = ls.length → K (rnFA (rhoL ls h.length) r) (plug ls (os.map (rnFO (rhoL ls h.length))) h ++ ext.map (rnFO (rhoL ls h.length)))) : FCalls P g (args.map (rnFA (rhoL ls h.length))) h ls K := by
  refine ⟨H.1, fun φ M w vs R hv => ?_⟩
  have hin : ∀ i l, ls[i]? = some l → l < h.length ∧ ∃ o, h[l]? = some o ∧ hs[i]? = some o ∧ clO o = true := fun i l hi => by
    have hil : i < hs.length := by rw [hlen]; exact (List.getElem?_eq_some_iff.1 hi).1
    have h1 := hget i l hi
    rw [List.getElem?_eq_getElem hil] at h1
    exact ⟨hlt h1, _, h1, List.getElem?_eq_getElem hil, (List.all_eq_true.1 hcl) _ (List.getElem_mem hil)⟩
  let φs : Phi := fun i => (ls[i]?).bind φ
  have hps : ∀ i l, ls[i]? = some l → φs i = φ l := fun i l hi => by show (ls[i]?).bind φ = _; rw [hi]; rfl
  have hpl : ∀ i, (∃ l, ls[i]? = some l ∧ φs i = φ l) ∨ (ls.length ≤ i ∧ φs i = none) := fun i => by
    rcases Nat.lt_or_ge i ls.length with q | q
    · exact .inl ⟨_, List.getElem?_eq_getElem q, hps i _ (List.getElem?_eq_getElem q)⟩
    · exact .inr ⟨q, by show (ls[i]?).bind φ = none; rw [List.getElem?_eq_none q]; rfl⟩
  have hos : ∀ i q, Own φs hs i q → ∃ l, ls[i]? = some l ∧ Own φ h l q := by
    rintro i q ⟨g1, t1, k1, cap1, es1, hi, hq, hvv⟩
    rcases hpl i with ⟨l, hl, e⟩ | ⟨_, e⟩
    · obtain ⟨_, o, h1, h2, _⟩ := hin i l hl
      rw [hi] at h2
      cases h2
      exact ⟨l, hl, g1, t1, k1, cap1, es1, h1, e ▸ hq, hvv⟩
    · rw [e] at hq; cases hq
  have hown : ∀ b, owned φs hs b → owned φ h b := by
    rintro b ⟨i, q, ho, hb⟩
    obtain ⟨l, _, ho'⟩ := hos i q ho
    exact ⟨l, q, ho', hb⟩
  have hndi : ∀ {i j l : Nat}, ls[i]? = some l → ls[j]? = some l → i = j := fun {i j l} hi hj => by
    obtain ⟨a1, e1⟩ := List.getElem?_eq_some_iff.1 hi
    obtain ⟨a2, e2⟩ := List.getElem?_eq_some_iff.1 hj
    exact (List.getElem_inj hnd).1 (e1.trans e2.symm)
  have Rs : Rep ⟨w, owned φs hs, M⟩ φs M hs w := by
    refine ⟨rfl, rfl, ⟨rfl, R.output.2.of rfl hown⟩, Nat.le_refl _, fun _ _ _ => rfl, MLe.refl _, R.imm, fun _ _ q => .inl q, fun i hi => ?_, fun i o hi => ?_, fun i q ho => .inl ⟨i, q, ho, rfl⟩, fun i j q s hi hj hne => ?_, fun a v i q hm ho => ?_⟩
    · rcases hpl i with ⟨l, hl, _⟩ | ⟨_, e⟩
      · have := (List.getElem?_eq_some_iff.1 hl).1; omega
      · exact e
    · have hil : i < ls.length := by rw [← hlen]; exact (List.getElem?_eq_some_iff.1 hi).1
      obtain ⟨_, o', h1, h2, h3⟩ := hin i _ (List.getElem?_eq_getElem hil)
      rw [hi] at h2
      cases h2
      have HO := R.obj _ _ h1
      cases o with
      | dead => cases h3
      | ro _ _ _ _ => cases h3
      | own g1 t1 k1 cap1 es1 =>
        obtain ⟨p, b1, b2, b3, b4, b5, b6, b7, b8⟩ := HO
        refine ⟨p, (hps i _ (List.getElem?_eq_getElem hil)).trans b1, b2, b3, b4, b5, b6, b7, fun hvv => ?_⟩
        obtain ⟨b9, C, fr, b10, b11, b12, b13⟩ := b8 hvv
        refine ⟨b9, C, fr, b10, b11, b12, fun i e j x hi hj => ?_⟩
        obtain ⟨v, hv1, hv2⟩ := b13 i e j x hi hj
        exact ⟨v, hv1, clB_V ((List.all_eq_true.1 ((List.all_eq_true.1 h3) e (List.mem_of_getElem? hi))) x (List.mem_of_getElem? hj)) hv2⟩
    · obtain ⟨l, hl, ho⟩ := hos i q hi
      obtain ⟨l', hl', ho'⟩ := hos j s hj
      exact R.inj l l' q s ho ho' (fun e => hne (by subst e; exact hndi hl hl'))
    · obtain ⟨l, _, ho'⟩ := hos i q ho
      exact R.dis a v l q hm ho'
  have hr1 : ∀ {i l : Nat}, ls[i]? = some l → rhoL ls h.length i = l := fun {i l} hi => by rw [rhoL, hi]
  have hr2 : ∀ i, ls.length ≤ i → rhoL ls h.length i = h.length + (i - ls.length) := fun i hi => by rw [rhoL, List.getElem?_eq_none hi]
  have hvs : VAs φs M args vs := VAs_from (φ' := φ) (ρ := rhoL ls h.length) (fun i q hq => by
    rcases hpl i with ⟨l, hl, e⟩ | ⟨hi, e⟩
    · rw [hr1 hl] at hq; rw [e]; exact hq
    · rw [hr2 i hi, R.dom _ (by omega)] at hq; cases hq) hv
  refine (H.2 φs M w vs Rs hvs).mono ?_
  rintro e w' ⟨v, r, h', φ1, M1, rfl, hv1, hk, R1, hle⟩
  have hlong : ls.length ≤ h'.length := by
    rcases Nat.lt_or_ge h'.length ls.length with q | q
    · exfalso
      have hl := List.getElem?_eq_getElem q
      obtain ⟨_, o, b1, _, b3⟩ := hin _ _ hl
      cases o with
      | dead => cases b3
      | ro _ _ _ _ => cases b3
      | own g1 t1 k1 cap1 es1 =>
        obtain ⟨p, hp, _⟩ := R.own_p b1
        obtain ⟨p', hp', _⟩ := hle _ p ((hps _ _ hl).trans hp)
        rw [R1.dom _ (Nat.le_refl _)] at hp'
        cases hp'
    · exact q
  obtain ⟨os, ext, rfl, hol⟩ : ∃ os ext, h' = os ++ ext ∧ os.length = ls.length := ⟨h'.take ls.length, h'.drop ls.length, (List.take_append_drop _ _).symm, by rw [List.length_take]; omega⟩
  let φ2 : Phi := fun k => match ls.idxOf? k with | some i => φ1 i | none => if k < h.length then φ k else φ1 (k - h.length + ls.length)
  have hix : ∀ {i l : Nat}, ls[i]? = some l → ls.idxOf? l = some i := fun {i l} hi => by
    cases hq : ls.idxOf? l with
    | none => rw [List.idxOf?_eq_none_iff] at hq; exact absurd (List.mem_of_getElem? hi) hq
    | some j => rw [hndi (idx_of hq) hi]
  have a0 : ∀ {i l : Nat}, ls[i]? = some l → φ2 l = φ1 i := fun {i l} hi => by show (match ls.idxOf? l with | some i => φ1 i | none => _) = _; rw [hix hi]
  have a1 : ∀ i, i ∉ ls → i < h.length → φ2 i = φ i := fun i h1 h2 => by show (match ls.idxOf? i with | some i => φ1 i | none => if i < h.length then φ i else _) = _; rw [List.idxOf?_eq_none_iff.2 h1]; exact if_pos h2
  have a2 : ∀ j, ls.length ≤ j → φ2 (h.length + (j - ls.length)) = φ1 j := fun j hj => by
    have hno : h.length + (j - ls.length) ∉ ls := fun hm => by
      obtain ⟨i, hi⟩ := List.mem_iff_getElem?.1 hm
      have := (hin i _ hi).1; omega
    show (match ls.idxOf? _ with | some i => φ1 i | none => if _ < h.length then _ else φ1 _) = _
    rw [List.idxOf?_eq_none_iff.2 hno]
    show (if _ < h.length then _ else φ1 _) = _
    rw [if_neg (by omega)]; congr 1; omega
  have hto' : ∀ i, φ2 (rhoL ls h.length i) = φ1 i := fun i => by
    rcases Nat.lt_or_ge i ls.length with q | q
    · have hl := List.getElem?_eq_getElem q
      rw [hr1 hl]; exact a0 hl
    · rw [hr2 i q]; exact a2 i q
  have hto : ∀ i q, φ1 i = some q → φ2 (rhoL ls h.length i) = some q := fun i q hq => (hto' i).trans hq
  have hle2 : Le φ φ2 := fun i q hq => by
    by_cases e : i ∈ ls
    · obtain ⟨j, hj⟩ := List.mem_iff_getElem?.1 e
      obtain ⟨p', b1, b2⟩ := hle j q ((hps j i hj).trans hq)
      exact ⟨p', (a0 hj).trans b1, b2⟩
    · have : i < h.length := by
        rcases Nat.lt_or_ge i h.length with q1 | q1
        · exact q1
        · rw [R.dom i q1] at hq; cases hq
      exact ⟨q, (a1 i e this).trans hq, .inl rfl⟩
  have hget2 : ∀ (i : Nat) (o : AO), (plug ls (os.map (rnFO (rhoL ls h.length))) h ++ ext.map (rnFO (rhoL ls h.length)))[i]? = some o → (∃ j o2, (os ++ ext)[j]? = some o2 ∧ i = rhoL ls h.length j ∧ o = rnFO (rhoL ls h.length) o2) ∨ (i ∉ ls ∧ i < h.length ∧ h[i]? = some o) := fun i o hi => by
    rcases Nat.lt_or_ge i h.length with q | q
    · rw [List.getElem?_append_left (by rw [plug_len]; exact q)] at hi
      by_cases e : i ∈ ls
      · obtain ⟨j, hj⟩ := List.mem_iff_getElem?.1 e
        have hjl := (List.getElem?_eq_some_iff.1 hj).1
        rw [plug_at ls _ h hnd hj q (by rw [List.length_map]; omega), List.getElem?_map] at hi
        obtain ⟨o2, h2, rfl⟩ := Option.map_eq_some_iff.1 hi
        exact .inl ⟨j, o2, by rw [List.getElem?_append_left (by omega)]; exact h2, (hr1 hj).symm, rfl⟩
      · rw [plug_ne ls _ h e] at hi
        exact .inr ⟨e, q, hi⟩
    · rw [List.getElem?_append_right (by rw [plug_len]; exact q), plug_len, List.getElem?_map] at hi
      obtain ⟨o2, h2, rfl⟩ := Option.map_eq_some_iff.1 hi
      refine .inl ⟨i - h.length + ls.length, o2, ?_, ?_, rfl⟩
      · rw [List.getElem?_append_right (by omega)]
        rw [show i - h.length + ls.length - os.length = i - h.length by omega]; exact h2
      · rw [hr2 _ (by omega)]; omega
  have hown2 : ∀ i q, Own φ2 (plug ls (os.map (rnFO (rhoL ls h.length))) h ++ ext.map (rnFO (rhoL ls h.length))) i q → (∃ j, i = rhoL ls h.length j ∧ Own φ1 (os ++ ext) j q) ∨ (i ∉ ls ∧ Own φ h i q) := by
    rintro i q ⟨g1, t1, k1, cap1, es1, hi, hq, hvv⟩
    rcases hget2 i _ hi with ⟨j, o2, h1, rfl, h3⟩ | ⟨hn, hil, hi⟩
    · cases o2 with
      | own g2 t2 k2 cap2 es2 => exact .inl ⟨j, rfl, _, _, _, _, _, h1, (hto' j).symm.trans hq, hvv⟩
      | _ => cases h3
    · exact .inr ⟨hn, g1, t1, k1, cap1, es1, hi, (a1 i hn hil).symm.trans hq, hvv⟩
  have hnot : ∀ i q, i ∉ ls → Own φ h i q → ¬ owned φs hs q.b := fun i q hn ho => by
    rintro ⟨j', s', hs', hb⟩
    obtain ⟨l, hl, ho'⟩ := hos j' s' hs'
    exact R.inj i l q s' ho ho' (fun e => hn (e ▸ List.mem_of_getElem? hl)) hb.symm
  have hfar : ∀ i q j s, i ∉ ls → Own φ h i q → Own φ1 (os ++ ext) j s → q.b ≠ s.b := fun i q j s hn ho ho1 e => by
    rcases R1.new j s ho1 with q1 | q1
    · exact hnot i q hn ho (e ▸ q1)
    · have := R.own_blk ho
      have q1' : w.heap.size ≤ s.b := q1
      omega
  refine ⟨v, _, _, φ2, M1, rfl, VA_to hto hv1, hk os ext rfl hol, ⟨R1.os, R1.tape, ⟨R1.output.1, R.output.2⟩, R1.size, fun b hb hn => R1.blk b hb (fun ho => hn (hown b ho)), R1.mon, R1.imm, fun a u q => ?_, fun i hi => ?_, fun i o hi => ?_, fun i q ho => ?_, fun i j q s hi hj hne => ?_, fun a u i q hm ho => ?_⟩, hle2, fun i q ho hs => ?_⟩
  · rcases R1.imn a u q with q | q | q
    · exact .inl q
    · exact .inr (.inl (hown _ q))
    · exact .inr (.inr q)
  · rw [List.length_append, plug_len, List.length_map] at hi
    have := R1.dom (i - h.length + ls.length) (by rw [List.length_append]; omega)
    rw [← this, ← a2 (i - h.length + ls.length) (by omega)]
    congr 1; omega
  · rcases hget2 i o hi with ⟨j, o2, h1, rfl, rfl⟩ | ⟨hn, hil, hi⟩
    · have HO := R1.obj j o2 h1
      cases o2 with
      | dead => trivial
      | ro g2 t2 k2 es2 =>
        obtain ⟨q, b1, b2⟩ := HO
        exact ⟨q, hto j q b1, b2⟩
      | own g2 t2 k2 cap2 es2 =>
        obtain ⟨q, b1, b2, b3, b4, b5, b6, b7, b8⟩ := HO
        refine ⟨q, hto j q b1, b2, b3, by simpa using b4, b5, fun e he => ?_, b7, fun hvv => ?_⟩
        · obtain ⟨e', he', rfl⟩ := List.mem_map.1 he
          simpa using b6 e' he'
        · obtain ⟨b9, C, fr, b10, b11, b12, b13⟩ := b8 hvv
          refine ⟨b9, C, fr, b10, b11, b12, fun i e j x hi hj => ?_⟩
          rw [List.getElem?_map] at hi
          obtain ⟨e', he', rfl⟩ := Option.map_eq_some_iff.1 hi
          rw [List.getElem?_map] at hj
          obtain ⟨x', hx', rfl⟩ := Option.map_eq_some_iff.1 hj
          obtain ⟨u, hu1, hu2⟩ := b13 i e' j x' he' hx'
          exact ⟨u, hu1, V_to hto hu2⟩
    · refine (R.obj i o hi).move hle2 R1.mon (a1 i hn hil) (fun q hq hvv ho => ?_)
      cases o with
      | own g2 t2 k2 cap2 es2 =>
        have ho' : Own φ h i q := ⟨_, _, _, _, _, hi, hq, hvv⟩
        exact R1.blk q.b (R.own_blk ho') (hnot i q hn ho')
      | _ => cases ho
  · rcases hown2 i q ho with ⟨j, rfl, ho1⟩ | ⟨_, ho1⟩
    · rcases R1.new j q ho1 with q1 | q1
      · exact .inl (hown _ q1)
      · exact .inr q1
    · exact .inl ⟨i, q, ho1, rfl⟩
  · rcases hown2 i q hi with ⟨i', rfl, hi1⟩ | ⟨hn, hi1⟩ <;> rcases hown2 j s hj with ⟨j', rfl, hj1⟩ | ⟨hn', hj1⟩
    · exact R1.inj i' j' q s hi1 hj1 (fun e => hne (by rw [e]))
    · exact (hfar j s i' q hn' hj1 hi1).symm
    · exact hfar i q j' s hn hi1 hj1
    · exact R.inj i j q s hi1 hj1 hne
  · rcases hown2 i q ho with ⟨i', rfl, ho1⟩ | ⟨hn, ho1⟩
    · exact R1.dis a u i' q hm ho1
    · rcases R1.imn a u hm with q1 | q1 | q1
      · exact R.dis a u i q q1 ho1
      · exact fun e => hnot i q hn ho1 (e ▸ q1)
      · have := R.own_blk ho1
        have q1' : w.heap.size ≤ a.block := q1
        omega
  · have hn : i ∉ ls := by simpa using hs
    refine ⟨R1.blk q.b (R.own_blk ho) (hnot i q hn ho), ?_⟩
    obtain ⟨g1, t1, k1, cap1, es1, hi, hq, hvv⟩ := ho
    have hil := hlt hi
    refine ⟨g1, t1, k1, cap1, es1, ?_, (a1 i hn hil).trans hq, hvv⟩
    rw [List.getElem?_append_left (by rw [plug_len]; exact hil), plug_ne ls _ h hn]
    exact hi
end
end Go.BL
namespace Go.BL
open Go.RowKit
/-- A cell by content; nothing as an empty row. -/
def clm : CV → CV
  | .nl => .im []
  | .emp => .im []
  | x => clz x
theorem clm_V0 {φ : Phi} {M : Im} {x : CV} {u : Value} (h : V φ M x u) : V0 M (clm x) u := by
  cases x with
  | nl => cases (show V0 M .nl u from h); exact .im0 none 0
  | emp => cases (show V0 M .emp u from h) with | emp a => exact .im0 a 0
  | _ => exact clz_V0 h
theorem hd_shpt (n l g i off : Nat) : shV n (.pt l g i off) = .pt (n + l) g i off := _root_.id rfl
theorem hd_clm_nl : clm .nl = .im [] := _root_.id rfl
theorem hd_clm_c (v : Value) : clm (.c v) = .c v := _root_.id rfl
theorem hd_clm_im (es : List (List CV)) : clm (.im es) = .im es := _root_.id rfl
/-- The cells of an object told by content. -/
theorem Ghost.clz {m : Nat} {f : AF} {h : AH} {l g k : Nat} {t : TypeId} {cap : Option Nat} {es : List (List CV)} (hl : h[l]? = some (.own g t k cap es)) : Ghost m f h f (h.set l (.own g t k cap (es.map (·.map clm)))) := fun G φ M w R => by
  have hown : ∀ i p, Own φ (h.set l (.own g t k cap (es.map (·.map clm)))) i p → Own φ h i p := by
    rintro i p ⟨g1, t1, k1, cap1, es1, hi, hp, hv⟩
    rcases set_get hi with ⟨rfl, _, _⟩ | ⟨_, hi⟩
    · exact ⟨g, t, k, cap, es, hl, hp, hv⟩
    · exact ⟨g1, t1, k1, cap1, es1, hi, hp, hv⟩
  refine ⟨φ, M, ⟨R.os, R.tape, R.output, R.size, R.blk, R.mon, R.imm, R.imn, fun i hi => R.dom i (by simpa using hi), fun i o hi => ?_, fun i p ho => R.new i p (hown i p ho), fun i j p q hi hj hne => R.inj i j p q (hown i p hi) (hown j q hj) hne, fun a v i p hm ho => R.dis a v i p hm (hown i p ho)⟩, MLe.refl _, fun i p _ hp => ⟨p, hp, .inl rfl⟩, fun _ _ hv => hv⟩
  rcases set_get hi with ⟨rfl, rfl, _⟩ | ⟨_, hi⟩
  · obtain ⟨p, b1, b2, b3, b4, b5, b6, b7, b8⟩ := R.obj i _ hl
    refine ⟨p, b1, b2, b3, by simpa using b4, b5, fun e he => ?_, b7, fun hvv => ?_⟩
    · obtain ⟨e', he', rfl⟩ := List.mem_map.1 he
      simpa using b6 e' he'
    · obtain ⟨b9, C, fr, b10, b11, b12, b13⟩ := b8 hvv
      refine ⟨b9, C, fr, b10, b11, b12, fun i e j x hi hj => ?_⟩
      rw [List.getElem?_map] at hi
      obtain ⟨e', he', rfl⟩ := Option.map_eq_some_iff.1 hi
      rw [List.getElem?_map] at hj
      obtain ⟨x', hx', rfl⟩ := Option.map_eq_some_iff.1 hj
      obtain ⟨v, hv1, hv2⟩ := b13 i e' j x' he' hx'
      exact ⟨v, hv1, V0_V (clm_V0 hv2)⟩
  · exact R.obj i o hi
end Go.BL
