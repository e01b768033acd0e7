/- What functions hand back; objects let go, renumbered, told as content. Conditions: none. -/
import Derived.Test.YtedkpjaojdkpcaaGreatLB
namespace Go.BL
open Go.RowKit
set_option linter.unusedVariables false
set_option linter.unusedSimpArgs false

/-! ### Elements of closed cells -/
def clE (es : List (List CV)) : Bool := es.all fun e => e.all clB
theorem clE_nil : clE [] = true := _root_.id rfl
theorem clE_cons (e : List CV) (r : List (List CV)) : clE (e :: r) = (e.all clB && clE r) := _root_.id rfl
theorem clE_map {α : Type} (enc : α → List CV) (xs : List α) (he : ∀ x, (enc x).all clB = true) : clE (xs.map enc) = true := by simp [clE, he]
theorem clE_app (xs ys : List (List CV)) : clE (xs ++ ys) = (clE xs && clE ys) := by simp [clE]
theorem clE_bytes (s : ByteArray) : clE (bytesE s) = true := by
  simp only [clE, bytesE, List.all_eq_true]
  intro e he
  obtain ⟨b, _, rfl⟩ := List.mem_map.1 he
  intro x hx
  rw [List.mem_singleton.1 hx]
  rfl
theorem cl_id {g : CV → CV} (hg : ∀ x, clB x = true → g x = x) {es : List (List CV)} (h : clE es = true) : es.map (·.map g) = es := by
  have h1 : ∀ e ∈ es, e.map g = e := fun e he => by
    have := (List.all_eq_true.1 h) e he
    conv => rhs; rw [← List.map_id e]
    exact List.map_congr_left fun x hx => hg x ((List.all_eq_true.1 this) x hx)
  conv => rhs; rw [← List.map_id es]
  exact List.map_congr_left h1
theorem clz_cl (x : CV) (hx : clB x = true) : clz x = x := by
  cases x with
  | pt _ _ _ _ => cases hx
  | sl _ _ _ _ => cases hx
  | clo g caps => cases caps with | nil => rfl | cons _ _ => cases hx
  | _ => rfl
theorem shV_cl (n : Nat) (x : CV) (hx : clB x = true) : shV n x = x := by
  cases x with
  | pt _ _ _ _ => cases hx
  | sl _ _ _ _ => cases hx
  | clo g caps => cases caps with | nil => rfl | cons _ _ => cases hx
  | _ => rfl
theorem clz_E (es : List (List CV)) (h : clE es = true) : es.map (List.map clz) = es := cl_id clz_cl h
theorem shV_E (n : Nat) (es : List (List CV)) (h : clE es = true) : es.map (List.map (shV n)) = es := cl_id (shV_cl n) h
theorem clE_take (n : Nat) (es : List (List CV)) (h : clE es = true) : clE (es.take n) = true := by
  simp only [clE, List.all_eq_true] at h ⊢
  exact fun e he => h e (List.mem_of_mem_take he)
theorem clE_drop (n : Nat) (es : List (List CV)) (h : clE es = true) : clE (es.drop n) = true := by
  simp only [clE, List.all_eq_true] at h ⊢
  exact fun e he => h e (List.mem_of_mem_drop he)

section
variable {P : Program} {G : Cx} {φ : Phi} {M : Im} {h : AH} {w : World}
/-! ### All by content -/
theorem nt_im (x : AV) : notTup (imA h x) = true := by
  cases x with
  | one x => cases x <;> rfl
  | _ => rfl
def retA (h : AH) : AV → AV
  | .tup xs => .tup (xs.map (imA h))
  | x => imA h x
theorem Rep.drop (R : Rep G φ M h w) : Rep G (fun _ => none) M [] w :=
  ⟨R.os, R.tape, R.output, R.size, R.blk, R.mon, R.imm, R.imn, fun _ _ => rfl, fun l o hl => by simp at hl, fun l p ho => by obtain ⟨_, _, _, _, _, hl, _⟩ := ho; simp at hl, fun i j p q ho => by obtain ⟨_, _, _, _, _, hl, _⟩ := ho; simp at hl, fun a v l p _ ho => by obtain ⟨_, _, _, _, _, hl, _⟩ := ho; simp at hl⟩
theorem own_lt' {l : Nat} {p : Pl} (ho : Own φ h l p) : l < h.length := by obtain ⟨_, _, _, _, _, hl, _⟩ := ho; exact hlt hl
theorem retA_V (R : Rep G φ M h w) {M' : Im} (hM : MLe M M') (hc : ∀ l p, Own φ h l p → ∀ (o : Nat) v, w.cell? ⟨p.b, o, none⟩ = some v → M' ⟨p.b, o, none⟩ v) {r : AV} {u : Value} (hv : VA φ M r u) : VA (fun _ => none) M' (retA h r) u := by
  cases r with
  | tup xs =>
    obtain ⟨us, h1, h2, h3⟩ := hv
    refine ⟨us, h1, by simpa using h2, fun j x hj => ?_⟩
    rw [List.getElem?_map] at hj
    obtain ⟨x', hx', rfl⟩ := Option.map_eq_some_iff.1 hj
    obtain ⟨u, h4, h5⟩ := h3 j x' hx'
    exact ⟨u, h4, nt_VA1 (nt_im x') (imA_V R hM (fun l _ => hc l) (VA1_VA h5))⟩
  | one x => exact imA_V R hM (fun l _ => hc l) hv
  | agg xs => exact imA_V R hM (fun l _ => hc l) hv
  | any => trivial
theorem Fin.im {r : AV} {K : AV → AH → Prop} (hk : K (retA h r) []) : Fin 0 r h K :=
  ⟨_, _, hk, fun G φ M w u R hv => by
    obtain ⟨M', RF, hM, hc⟩ := R.freeze (List.range h.length)
    exact ⟨_, M', RF.drop, retA_V R hM (fun l p ho => hc l (List.mem_range.2 (own_lt' ho)) p ho) hv, fun l p hl => absurd hl (Nat.not_lt_zero l)⟩⟩
/-! ### Some objects handed on -/
def cnV (ls : List Nat) (h : AH) : CV → CV
  | .sl l g off len => if l ∈ ls then .junk else imV h (.sl l g off len)
  | x => imV h x
def rnV (ls : List Nat) (h : AH) : CV → CV
  | .sl l g off len => match ls.idxOf? l with
    | some i => if (objA h l g).isSome = true then .sl i 0 off len else .junk
    | none => imV h (.sl l g off len)
  | x => imV h x
def rnA (ls : List Nat) (h : AH) : AV → AV
  | .one (.c v) => .one (.c v)
  | .one x => .one (rnV ls h x)
  | .agg xs => .agg (xs.map (rnV ls h))
  | _ => .any
def rnT (ls : List Nat) (h : AH) : AV → AV
  | .tup xs => .tup (xs.map (rnA ls h))
  | x => rnA ls h x
def rnO (ls : List Nat) (h : AH) : Option AO → AO
  | some (.own g t k cap es) => .own 0 t k cap (es.map (·.map (cnV ls h)))
  | _ => .dead
theorem frH_get : ∀ (L : List Nat) (h : AH) {l : Nat}, l ∉ L → (frH L h)[l]? = h[l]?
  | [], h, l, _ => rfl
  | l0 :: r, h, l, hl => by
    simp only [List.mem_cons, not_or] at hl
    rw [frH, frH_get r _ hl.2]
    split
    · rw [List.getElem?_set_ne (Ne.symm hl.1)]
    · rfl
theorem frH_own : ∀ (L : List Nat) (h : AH) {l : Nat} {g k : Nat} {t : TypeId} {cap : Option Nat} {es : List (List CV)}, (frH L h)[l]? = some (.own g t k cap es) → h[l]? = some (.own g t k cap es)
  | [], h, l, g, k, t, cap, es, hl => hl
  | l0 :: r, h, l, g, k, t, cap, es, hl => by
    rw [frH] at hl
    have := frH_own r _ hl
    split at this
    · rename_i o ho
      rcases set_get this with ⟨rfl, he, _⟩ | ⟨_, this⟩
      · cases o <;> cases he
      · exact this
    · exact this
theorem idx_of {ls : List Nat} {l i : Nat} (h : ls.idxOf? l = some i) : ls[i]? = some l := by
  rw [List.idxOf?_eq_some_iff] at h
  obtain ⟨hi, h1, _⟩ := h
  rw [List.getElem?_eq_getElem hi, h1]
theorem Fin.own {r : AV} {K : AV → AH → Prop} (ls : List Nat) (hnd : ls.Nodup) (hk : K (rnT ls h r) (ls.map fun l => rnO ls h h[l]?)) : Fin 0 r h K := by
  refine ⟨_, _, hk, fun G φ M w u R hv => ?_⟩
  obtain ⟨M', RF, hM, hc0⟩ := R.freeze ((List.range h.length).filter fun l => !(decide (l ∈ ls)))
  have hc : ∀ l, l ∉ ls → ∀ p, Own φ h l p → ∀ (o : Nat) v, w.cell? ⟨p.b, o, none⟩ = some v → M' ⟨p.b, o, none⟩ v := fun l hl p ho =>
    hc0 l (List.mem_filter.2 ⟨List.mem_range.2 (own_lt' ho), by simp [hl]⟩) p ho
  let φ' : Phi := fun i => ((ls[i]?).bind φ).map fun p => { p with g := 0 }
  have im : ∀ x u, (∀ l g off len, x = .sl l g off len → l ∉ ls) → V φ M x u → V φ' M' (imV h x) u := fun x u hx hv => by
    refine V0_V (imV_V0 R hM (fun l hl => ?_) hv)
    cases x with
    | sl l' g off len =>
      simp only [locV, List.mem_singleton] at hl
      subst hl
      exact hc l (hx l g off len rfl)
    | _ => cases hl
  have cn : ∀ x u, V φ M x u → V φ' M' (cnV ls h x) u := fun x u hv => by
    cases x with
    | sl l g off len =>
      simp only [cnV]
      split
      · exact V0.junk u hv.1
      · rename_i hl
        exact im _ u (fun l' g' off' len' e => by cases e; exact hl) hv
    | _ => exact im _ u (fun l' g' off' len' e => by cases e) hv
  have rn : ∀ x u, V φ M x u → V φ' M' (rnV ls h x) u := fun x u hv => by
    cases x with
    | sl l g off len =>
      simp only [rnV]
      split
      · rename_i i hi
        split
        · rename_i ho
          obtain ⟨q, hq⟩ := Option.isSome_iff_exists.1 ho
          obtain ⟨p', q1, q2, _⟩ := R.own_p (objA_spec hq)
          obtain ⟨h1, p, h2, h3, h4⟩ := hv
          rw [q1] at h2
          cases h2
          refine ⟨h1, { p' with g := 0 }, ?_, Nat.le_refl _, fun _ => h4 q2⟩
          show ((ls[i]?).bind φ).map _ = _
          rw [idx_of hi, Option.bind_some, q1]
          rfl
        · exact V0.junk u hv.1
      · rename_i hl
        refine im _ u (fun l' g' off' len' e => ?_) hv
        cases e
        exact fun hm => by rw [List.idxOf?_eq_none_iff] at hl; exact hl hm
    | _ => exact im _ u (fun l' g' off' len' e => by cases e) hv
  have rna : ∀ x u, VA φ M x u → VA1 φ' M' (rnA ls h x) u := fun x u hv => by
    cases x with
    | one x =>
      cases x with
      | c v => exact hv
      | _ => exact nt_VA1 (v := .one _) rfl (V_VA (rn _ u (by simpa only [VA, VA1] using hv)))
    | agg xs =>
      obtain ⟨us, h1, h2, h3⟩ := hv
      refine ⟨us, h1, by simpa using h2, fun j x hj => ?_⟩
      rw [List.getElem?_map] at hj
      obtain ⟨x', hx', rfl⟩ := Option.map_eq_some_iff.1 hj
      obtain ⟨u, h4, h5⟩ := h3 j x' hx'
      exact ⟨u, h4, rn _ u h5⟩
    | tup xs => trivial
    | any => trivial
  have hgets : ∀ (i : Nat) (o : AO), (ls.map fun l => rnO ls h h[l]?)[i]? = some o → ∃ l, ls[i]? = some l ∧ o = rnO ls h h[l]? := fun i o hi => by
    rw [List.getElem?_map] at hi
    obtain ⟨l, hl, rfl⟩ := Option.map_eq_some_iff.1 hi
    exact ⟨l, hl, rfl⟩
  have hown : ∀ i p, Own φ' (ls.map fun l => rnO ls h h[l]?) i p → ∃ l p0, ls[i]? = some l ∧ Own φ (frH ((List.range h.length).filter fun l => !(decide (l ∈ ls))) h) l p0 ∧ p0.b = p.b := by
    rintro i p ⟨g, t, k, cap, es, hi, hp, hv⟩
    obtain ⟨l, hl, ho⟩ := hgets i _ hi
    have hp' : ((ls[i]?).bind φ).map (fun p => ({ p with g := 0 } : Pl)) = some p := hp
    rw [hl, Option.bind_some] at hp'
    obtain ⟨p0, hp0, rfl⟩ := Option.map_eq_some_iff.1 hp'
    cases hhl : h[l]? with
    | none => rw [hhl] at ho; cases ho
    | some o0 =>
      rw [hhl] at ho
      cases o0 with
      | own g0 t0 k0 cap0 es0 =>
        refine ⟨l, p0, hl, ⟨g0, t0, k0, cap0, es0, ?_, hp0, hv⟩, rfl⟩
        rw [frH_get _ _ (by simp only [List.mem_filter, not_and]; intro _; simp [List.mem_of_getElem? hl])]
        exact hhl
      | _ => cases ho
  refine ⟨φ', M', ⟨RF.os, RF.tape, RF.output, RF.size, RF.blk, RF.mon, RF.imm, RF.imn, fun i hi => ?_, ?_, fun i p ho => ?_, fun i j p q hi hj hne => ?_, fun a v i p hm ho => ?_⟩, ?_, fun l p hl => absurd hl (Nat.not_lt_zero l)⟩
  · simp at hi
    show ((ls[i]?).bind φ).map _ = none
    rw [List.getElem?_eq_none hi]
    rfl
  · intro i o hi
    obtain ⟨l, hl, rfl⟩ := hgets i o hi
    cases hhl : h[l]? with
    | none => trivial
    | some o0 =>
      cases o0 with
      | own g0 t0 k0 cap0 es0 =>
        obtain ⟨p, h1, h2, h3, h4, h5, h6, h7, h8⟩ := R.obj l _ hhl
        refine ⟨{ p with g := 0 }, ?_, rfl, h3, by simpa using h4, h5, fun e he => ?_, h7, fun hv => ?_⟩
        · show ((ls[i]?).bind φ).map _ = _
          rw [hl, Option.bind_some, h1]
          rfl
        · obtain ⟨e', he', rfl⟩ := List.mem_map.1 he
          simpa using h6 e' he'
        · obtain ⟨h9, C, fr, h10, h11, h12, h13⟩ := h8 hv
          refine ⟨h9, C, fr, h10, h11, h12, fun i e j x hi hj => ?_⟩
          rw [List.getElem?_map] at hi
          obtain ⟨e', he', rfl⟩ := Option.map_eq_some_iff.1 hi
          rw [List.getElem?_map] at hj
          obtain ⟨x', hx', rfl⟩ := Option.map_eq_some_iff.1 hj
          obtain ⟨v, hv1, hv2⟩ := h13 i e' j x' he' hx'
          exact ⟨v, hv1, cn _ v hv2⟩
      | _ => trivial
  · obtain ⟨l, p0, _, ho', hb⟩ := hown i p ho
    rw [← hb]
    exact RF.new l p0 ho'
  · obtain ⟨l, p0, hl, ho, hb⟩ := hown i p hi
    obtain ⟨l', p0', hl', ho', hb'⟩ := hown j q hj
    rw [← hb, ← hb']
    refine RF.inj l l' p0 p0' ho ho' (fun e => hne ?_)
    subst e
    obtain ⟨hi1, e1⟩ := List.getElem?_eq_some_iff.1 hl
    obtain ⟨hj1, e2⟩ := List.getElem?_eq_some_iff.1 hl'
    exact (List.getElem_inj hnd).1 (e1.trans e2.symm)
  · obtain ⟨l, p0, _, ho', hb⟩ := hown i p ho
    rw [← hb]
    exact RF.dis a v l p0 hm ho'
  · cases r with
    | tup xs =>
      obtain ⟨us, h1, h2, h3⟩ := hv
      refine ⟨us, h1, by simpa using h2, fun j x hj => ?_⟩
      rw [List.getElem?_map] at hj
      obtain ⟨x', hx', rfl⟩ := Option.map_eq_some_iff.1 hj
      obtain ⟨u, h4, h5⟩ := h3 j x' hx'
      exact ⟨u, h4, rna x' u (VA1_VA h5)⟩
    | one x => exact VA1_VA (rna _ u hv)
    | agg xs => exact VA1_VA (rna _ u hv)
    | any => trivial
/-! ### The ends of functions -/
def retI (P : Program) (rs : List ResultVar) (K : AV → AH → Prop) (f : AF) (h : AH) : Prop := On (rsG P f h rs) fun vs => vs.all notTup = true ∧ K (retA h (oneOrTup vs)) []
def retO (P : Program) (ls : List Nat) (rs : List ResultVar) (K : AV → AH → Prop) (f : AF) (h : AH) : Prop := On (rsG P f h rs) fun vs => vs.all notTup = true ∧ ls.Nodup ∧ K (rnT ls h (oneOrTup vs)) (ls.map fun l => rnO ls h h[l]?)
/-- A contract of a function that is handed nothing owned. -/
theorem acall_c {g : Nat} {fn : Func} {c : Code} {args : List AV} {K : AV → AH → Prop} (rs : List ResultVar) (hmo : P.follows .mixedOrders = true) (hf : P.funcs[g]? = some fn) (hrs : fn.results.toList = rs) (hbody : fn.body = some c) (hB : (codeB fn.ntmps c && fnB fn && hasBody P g && decide (args.length ≤ fn.ntmps)) = true)
    (H : ∀ Q : AExit → AF → AH → Prop, (∀ f h', retI P rs K f h' → Q .ret f h') → (∀ ls f h', GC 0 (retO P ls rs K) f h' → Q .ret f h') → goG P c [] ⟨0, Q⟩ (frame0 args) []) : ACalls P g args [] K := by
  refine acall_gen rs hmo hf hrs hbody hB (fun Q hm hQ => ?_)
  obtain ⟨m, q⟩ := Q
  simp only [List.length_nil] at hm hQ
  subst hm
  refine H q (fun f h' hr => (hQ f h' (GC.now ?_)).1) (fun ls f h' hr => (hQ f h' (hr.mono fun f h' hr => ?_)).1)
  · unfold retI at hr
    obtain ⟨vs, hvs, hnt, hk⟩ := hr.elim
    unfold ARet
    rw [hvs]
    exact ⟨hnt, Fin.im hk⟩
  · unfold retO at hr
    obtain ⟨vs, hvs, hnt, hnd, hk⟩ := hr.elim
    unfold ARet
    rw [hvs]
    exact ⟨hnt, Fin.own ls hnd hk⟩
/-! ### Objects let go -/
def ltV (n : Nat) : CV → Bool
  | .pt l _ _ _ => decide (l < n)
  | .sl l _ _ _ => decide (l < n)
  | .clo _ caps => caps.all (· < n)
  | _ => true
def trV (n : Nat) (x : CV) : CV := if ltV n x = true then x else .junk
def trA1 (n : Nat) : AV → AV
  | .one (.c v) => .one (.c v)
  | .one x => .one (trV n x)
  | .agg xs => .agg (xs.map (trV n))
  | x => x
def trA (n : Nat) : AV → AV
  | .tup xs => .tup (xs.map (trA1 n))
  | x => trA1 n x
def trF (n : Nat) (f : AF) : AF := fun r => trA n (f r)
def ltO (n : Nat) : AO → Bool
  | .own _ _ _ _ es => es.all fun e => e.all (ltV n)
  | _ => true
theorem ltV_V {n : Nat} {x : CV} {u : Value} (hx : ltV n x = true) (hv : V φ M x u) : V (fun l => if l < n then φ l else none) M x u := by
  cases x with
  | pt l g i off => obtain ⟨h1, p, h2, h3⟩ := hv; exact ⟨h1, p, by simp only [ltV, decide_eq_true_eq] at hx; simp [hx, h2], h3⟩
  | sl l g off len => obtain ⟨h1, p, h2, h3⟩ := hv; exact ⟨h1, p, by simp only [ltV, decide_eq_true_eq] at hx; simp [hx, h2], h3⟩
  | clo g caps =>
    obtain ⟨vs, h1, h2, h3⟩ := hv
    refine ⟨vs, h1, h2, fun j l hj => ?_⟩
    obtain ⟨v, h4, h5, p, h6, h7⟩ := h3 j l hj
    have := (List.all_eq_true.1 hx) l (List.mem_of_getElem? hj)
    simp only [decide_eq_true_eq] at this
    exact ⟨v, h4, h5, p, by simp [this, h6], h7⟩
  | _ => exact hv
theorem trV_V {n : Nat} {x : CV} {u : Value} (hv : V φ M x u) : V (fun l => if l < n then φ l else none) M (trV n x) u := by
  unfold trV
  split
  · rename_i hx; exact ltV_V hx hv
  · exact V0.junk u hv.one
theorem trA1_V {n : Nat} {x : AV} {u : Value} (hv : VA1 φ M x u) : VA1 (fun l => if l < n then φ l else none) M (trA1 n x) u := by
  cases x with
  | one x =>
    cases x with
    | c v => exact hv
    | _ => exact nt_VA1 (v := .one _) rfl (V_VA (trV_V (by simpa only [VA1] using hv)))
  | agg xs =>
    obtain ⟨us, h1, h2, h3⟩ := hv
    refine ⟨us, h1, by simpa using h2, fun j x hj => ?_⟩
    rw [List.getElem?_map] at hj
    obtain ⟨x', hx', rfl⟩ := Option.map_eq_some_iff.1 hj
    obtain ⟨u, h4, h5⟩ := h3 j x' hx'
    exact ⟨u, h4, trV_V h5⟩
  | tup xs => exact hv
  | any => trivial
theorem Ghost.trim {m : Nat} (n : Nat) {f : AF} {h : AH} (hm : m ≤ n) (hn : n ≤ h.length) (hl : (h.take n).all (ltO n) = true) : Ghost m f h (trF n f) (h.take n) := by
  intro G φ M w R
  have hget : ∀ (i : Nat) (o : AO), (h.take n)[i]? = some o → i < n ∧ h[i]? = some o := by
    intro i o hi
    rw [List.getElem?_take] at hi
    split at hi
    · exact ⟨by assumption, hi⟩
    · cases hi
  have hown : ∀ i p, Own (fun l => if l < n then φ l else none) (h.take n) i p → Own φ h i p := by
    rintro i p ⟨g, t, k, cap, es, hi, hp, hv⟩
    obtain ⟨hin, hi⟩ := hget i _ hi
    simp only [hin, if_true] at hp
    exact ⟨g, t, k, cap, es, hi, hp, hv⟩
  refine ⟨fun l => if l < n then φ l else none, M, ⟨R.os, R.tape, R.output, R.size, R.blk, R.mon, R.imm, R.imn, fun i hi => ?_, fun i o hi => ?_, fun l p ho => R.new l p (hown l p ho), fun i j p q hi hj hne => R.inj i j p q (hown i p hi) (hown j q hj) hne, fun a v l p hm ho => R.dis a v l p hm (hown l p ho)⟩, MLe.refl _, fun l p hlm hp => ?_, fun r u hv => ?_⟩
  · rw [List.length_take, Nat.min_eq_left hn] at hi
    simp [Nat.not_lt.2 hi]
  · obtain ⟨hin, hi'⟩ := hget i o hi
    have H := R.obj i o hi'
    have ho := (List.all_eq_true.1 hl) o (List.mem_of_getElem? hi)
    cases o with
    | dead => trivial
    | ro g t k es =>
      obtain ⟨p, h1, h2⟩ := H
      exact ⟨p, by simp [hin, h1], h2⟩
    | own g t k cap es =>
      obtain ⟨p, h1, h2, h3, h4, h5, h6, h7, h8⟩ := H
      refine ⟨p, by simp [hin, h1], h2, h3, h4, h5, h6, h7, fun hv => ?_⟩
      obtain ⟨h9, C, fr, h10, h11, h12, h13⟩ := h8 hv
      refine ⟨h9, C, fr, h10, h11, h12, fun i e j x hi hj => ?_⟩
      obtain ⟨v, hv1, hv2⟩ := h13 i e j x hi hj
      exact ⟨v, hv1, ltV_V ((List.all_eq_true.1 ((List.all_eq_true.1 ho) e (List.mem_of_getElem? hi))) x (List.mem_of_getElem? hj)) hv2⟩
  · have : l < n := by omega
    exact ⟨p, by simp [this, hp], .inl rfl⟩
  · show VA _ M (trA n (f r)) u
    generalize f r = x at hv
    cases x with
    | tup xs =>
      obtain ⟨us, h1, h2, h3⟩ := hv
      refine ⟨us, h1, by simpa using h2, fun j x hj => ?_⟩
      rw [List.getElem?_map] at hj
      obtain ⟨x', hx', rfl⟩ := Option.map_eq_some_iff.1 hj
      obtain ⟨u, h4, h5⟩ := h3 j x' hx'
      exact ⟨u, h4, trA1_V h5⟩
    | one x => exact VA1_VA (trA1_V (x := .one x) hv)
    | agg xs => exact VA1_VA (trA1_V (x := .agg xs) hv)
    | any => trivial
theorem gc_trim {m : Nat} (n : Nat) {N : AF → AH → Prop} {f : AF} {h : AH} (hm : m ≤ n) (hn : n ≤ h.length) (hl : (h.take n).all (ltO n) = true) (H : N (trF n f) (h.take n)) : GC m N f h := ⟨_, _, Ghost.trim n hm hn hl, H⟩
/-! ### Nothing told as an owned row without a block -/
theorem nl_virt (R : Rep G φ M h w) {l g i off : Nat} (t : TypeId) (k : Nat) :
    ∃ φ', Rep G φ' M (h ++ [.own 0 t k none []]) w ∧ Le φ φ' ∧ (∀ l p, φ l = some p → φ' l = some p) ∧ ∀ u, u = .slice none 0 0 → V φ' M (.sl h.length 0 0 0) u := by
  obtain ⟨R', hle⟩ := R.virt t k
  refine ⟨_, R', hle, fun l p hl => ?_, fun u hu => ⟨by rw [hu]; rfl, _, phiAt_at φ _ _, Nat.le_refl _, fun _ => .inl ⟨rfl, rfl, rfl, none, hu⟩⟩⟩
  have : l ≠ h.length := by intro e; subst e; rw [R.dom _ (Nat.le_refl _)] at hl; cases hl
  rw [phiAt_ne φ _ this]
  exact hl
/-- A register that holds nil. -/
theorem Ghost.nlr {m : Nat} {f : AF} {h : AH} (r : Nat) (hr : f r = .one .nl) (t : TypeId) (k : Nat) : Ghost m f h (upd f r (.one (.sl h.length 0 0 0))) (h ++ [.own 0 t k none []]) := fun G φ M w R => by
  obtain ⟨φ', R', hle, hkeep, hV⟩ := nl_virt R (l := 0) (g := 0) (i := 0) (off := 0) t k
  refine ⟨φ', M, R', MLe.refl _, fun l p _ hp => ⟨p, hkeep l p hp, .inl rfl⟩, fun r' u hv => ?_⟩
  unfold upd
  split
  · rename_i e
    subst e
    rw [hr] at hv
    cases (show V0 M .nl u from hv)
    exact hV _ rfl
  · exact hv.mono hle (MLe.refl _)
/-- A cell of an owned object that holds nil. -/
theorem Ghost.nlc {m : Nat} {f : AF} {h : AH} {l g : Nat} {t0 : TypeId} {k0 : Nat} {cap : Option Nat} {es : List (List CV)} (hl : h[l]? = some (.own g t0 k0 cap es)) (i j : Nat) {e : List CV} (hi : es[i]? = some e) (hj : e[j]? = some .nl) (t : TypeId) (k : Nat) :
    Ghost m f h f (h.set l (.own g t0 k0 cap (es.set i (e.set j (.sl h.length 0 0 0)))) ++ [.own 0 t k none []]) := fun G φ M w R => by
  obtain ⟨φ', R', hle, hkeep, hV⟩ := nl_virt R (l := 0) (g := 0) (i := 0) (off := 0) t k
  have hll := hlt hl
  have hset : h.set l (.own g t0 k0 cap (es.set i (e.set j (.sl h.length 0 0 0)))) ++ [AO.own 0 t k none []] = (h ++ [AO.own 0 t k none []]).set l (.own g t0 k0 cap (es.set i (e.set j (.sl h.length 0 0 0)))) := by
    rw [List.set_append_left _ _ hll]
  rw [hset]
  have hl' : (h ++ [AO.own 0 t k none []])[l]? = some (.own g t0 k0 cap es) := by rw [List.getElem?_append_left hll]; exact hl
  have hown : ∀ i' p, Own φ' ((h ++ [AO.own 0 t k none []]).set l (.own g t0 k0 cap (es.set i (e.set j (.sl h.length 0 0 0))))) i' p → Own φ' (h ++ [AO.own 0 t k none []]) i' p := by
    rintro i' p ⟨g1, t1, k1, cap1, es1, hi', hp, hv⟩
    rcases set_get hi' with ⟨rfl, _, _⟩ | ⟨_, hi'⟩
    · exact ⟨_, _, _, _, _, hl', hp, hv⟩
    · exact ⟨g1, t1, k1, cap1, es1, hi', hp, hv⟩
  refine ⟨φ', M, ⟨R'.os, R'.tape, R'.output, R'.size, R'.blk, R'.mon, R'.imm, R'.imn, fun l hl => R'.dom l (by simpa using hl), fun l' o' hl2 => ?_, fun l p ho => R'.new l p (hown l p ho), fun i j p q hi hj hne => R'.inj i j p q (hown i p hi) (hown j q hj) hne, fun a v l p hm ho => R'.dis a v l p hm (hown l p ho)⟩, MLe.refl _, fun l p _ hp => ⟨p, hkeep l p hp, .inl rfl⟩, fun r u hv => hv.mono hle (MLe.refl _)⟩
  rcases set_get hl2 with ⟨rfl, rfl, _⟩ | ⟨hne, hl2⟩
  · obtain ⟨p, h1, h2, h3, h4, h5, h6, h7, h8⟩ := R'.obj l' _ hl'
    have hel : e.length = k0 := h6 e (List.mem_of_getElem? hi)
    refine ⟨p, h1, h2, h3, by simpa using h4, h5, fun e' he' => ?_, h7, fun hv => ?_⟩
    · rcases List.mem_or_eq_of_mem_set he' with he' | rfl
      · exact h6 e' he'
      · simpa using hel
    · obtain ⟨h9, C, fr, h10, h11, h12, h13⟩ := h8 hv
      refine ⟨h9, C, fr, h10, h11, h12, fun i' e' j' x hi' hj' => ?_⟩
      by_cases hii : i' = i
      · subst hii
        rw [List.getElem?_set_self (List.getElem?_eq_some_iff.1 hi).1] at hi'
        cases hi'
        by_cases hjj : j' = j
        · subst hjj
          rw [List.getElem?_set_self (List.getElem?_eq_some_iff.1 hj).1] at hj'
          cases hj'
          obtain ⟨v, hv1, hv2⟩ := h13 i' e j' _ hi hj
          cases (show V0 M .nl v from hv2)
          exact ⟨_, hv1, hV _ rfl⟩
        · rw [List.getElem?_set_ne (Ne.symm hjj)] at hj'
          exact h13 i' e j' x hi hj'
      · rw [List.getElem?_set_ne (Ne.symm hii)] at hi'
        exact h13 i' e' j' x hi' hj'
  · exact R'.obj l' o' hl2
end
/-! ### Laws of the ends -/
section
variable (P : Program) (f : AF) (h : AH)
theorem rs_nil : rsG P f h [] = some [] := _root_.id rfl
theorem rs_cons (r : ResultVar) (rs : List ResultVar) : rsG P f h (r :: rs) = cons2 (resOne P f h r) (rsG P f h rs) := _root_.id rfl
theorem cons2_some (v : AV) (r : List AV) : cons2 (some v) (some r) = some (v :: r) := _root_.id rfl
theorem rs_tmp (t : Nat) : resOne P f h (.tmp t) = some (f t) := _root_.id rfl
def rcG (P : Program) (t : TypeId) (a : AV) (h : AH) : Option AV := match a with | .one (.pt l g i off) => ldR P t (objR h l g) i off | _ => none
theorem rs_cell (a : Nat) (t : TypeId) : resOne P f h (.cell a t) = rcG P t (f a) h := _root_.id rfl
theorem rc_pt (l g i off : Nat) (t : TypeId) : rcG P t (.one (.pt l g i off)) h = ldR P t (objR h l g) i off := _root_.id rfl
theorem ot_1 (v : AV) : oneOrTup [v] = v := _root_.id rfl
theorem ot_2 (v u : AV) (r : List AV) : oneOrTup (v :: u :: r) = .tup (v :: u :: r) := _root_.id rfl
theorem ot_0 : oneOrTup [] = .tup [] := _root_.id rfl
def riG (h : AH) (vs : Option (List AV)) (K : AV → AH → Prop) : Prop := On vs fun vs => vs.all notTup = true ∧ K (retA h (oneOrTup vs)) []
theorem ret_i (rs : List ResultVar) (K : AV → AH → Prop) : retI P rs K f h = riG h (rsG P f h rs) K := _root_.id rfl
theorem ri_some (vs : List AV) (K : AV → AH → Prop) : riG h (some vs) K = (vs.all notTup = true ∧ K (retA h (oneOrTup vs)) []) := _root_.id rfl
def roG (ls : List Nat) (h : AH) (vs : Option (List AV)) (K : AV → AH → Prop) : Prop := On vs fun vs => vs.all notTup = true ∧ ls.Nodup ∧ K (rnT ls h (oneOrTup vs)) (ls.map fun l => rnO ls h h[l]?)
theorem ret_o (ls : List Nat) (rs : List ResultVar) (K : AV → AH → Prop) : retO P ls rs K f h = roG ls h (rsG P f h rs) K := _root_.id rfl
theorem ro_some (ls : List Nat) (vs : List AV) (K : AV → AH → Prop) : roG ls h (some vs) K = (vs.all notTup = true ∧ ls.Nodup ∧ K (rnT ls h (oneOrTup vs)) (ls.map fun l => rnO ls h h[l]?)) := _root_.id rfl
theorem nt_1 (x : CV) : notTup (.one x) = true := _root_.id rfl
theorem nt_agg (xs : List CV) : notTup (.agg xs) = true := _root_.id rfl
theorem ra_tup (xs : List AV) : retA h (.tup xs) = .tup (xs.map (imA h)) := _root_.id rfl
theorem ra_1 (x : CV) : retA h (.one x) = imA h (.one x) := _root_.id rfl
theorem ra_agg (xs : List CV) : retA h (.agg xs) = imA h (.agg xs) := _root_.id rfl
theorem rt_tup (ls : List Nat) (xs : List AV) : rnT ls h (.tup xs) = .tup (xs.map (rnA ls h)) := _root_.id rfl
theorem rt_1 (ls : List Nat) (x : CV) : rnT ls h (.one x) = rnA ls h (.one x) := _root_.id rfl
theorem rt_agg (ls : List Nat) (xs : List CV) : rnT ls h (.agg xs) = rnA ls h (.agg xs) := _root_.id rfl
theorem rna_c (ls : List Nat) (v : Value) : rnA ls h (.one (.c v)) = .one (.c v) := _root_.id rfl
theorem rna_nl (ls : List Nat) : rnA ls h (.one .nl) = .one (.im []) := _root_.id rfl
theorem rna_im (ls : List Nat) (es : List (List CV)) : rnA ls h (.one (.im es)) = .one (.im es) := _root_.id rfl
theorem rna_sl (ls : List Nat) (l g off len : Nat) : rnA ls h (.one (.sl l g off len)) = .one (rnV ls h (.sl l g off len)) := _root_.id rfl
theorem rna_agg (ls : List Nat) (xs : List CV) : rnA ls h (.agg xs) = .agg (xs.map (rnV ls h)) := _root_.id rfl
theorem rnv_c (ls : List Nat) (v : Value) : rnV ls h (.c v) = .c v := _root_.id rfl
theorem rnv_nl (ls : List Nat) : rnV ls h .nl = .im [] := _root_.id rfl
theorem rnv_im (ls : List Nat) (es : List (List CV)) : rnV ls h (.im es) = .im es := _root_.id rfl
def rnS (i : Option Nat) (b : Bool) (off len : Nat) (x : CV) : CV := match i with | some i => if b = true then .sl i 0 off len else .junk | none => x
theorem rnv_sl (ls : List Nat) (l g off len : Nat) : rnV ls h (.sl l g off len) = rnS (ls.idxOf? l) (objA h l g).isSome off len (imV h (.sl l g off len)) := _root_.id rfl
theorem rnS_some (i : Nat) (off len : Nat) (x : CV) : rnS (some i) true off len x = .sl i 0 off len := by simp [rnS]
theorem rnS_none (b : Bool) (off len : Nat) (x : CV) : rnS none b off len x = x := _root_.id rfl
def stB : CV → Bool
  | .nl => false
  | .emp => false
  | x => clB x
def stL (es : List (List CV)) : Bool := es.all fun e => e.all stB
theorem stL_nil : stL [] = true := _root_.id rfl
theorem stL_cons (e : List CV) (r : List (List CV)) : stL (e :: r) = (e.all stB && stL r) := _root_.id rfl
theorem stL_map {α : Type} (enc : α → List CV) (xs : List α) (he : ∀ x, (enc x).all stB = true) : stL (xs.map enc) = true := by simp [stL, he]
theorem stL_app (xs ys : List (List CV)) : stL (xs ++ ys) = (stL xs && stL ys) := by simp [stL]
theorem stL_bytes (s : ByteArray) : stL (bytesE s) = true := by
  simp only [stL, bytesE, List.all_eq_true]
  intro e he
  obtain ⟨b, _, rfl⟩ := List.mem_map.1 he
  intro x hx
  rw [List.mem_singleton.1 hx]
  rfl
theorem st_c (v : Value) : stB (.c v) = true := _root_.id rfl
theorem st_im (es : List (List CV)) : stB (.im es) = true := _root_.id rfl
theorem rno_own (ls : List Nat) (g : Nat) (t : TypeId) (n : Nat) (cap : Option Nat) (es : List (List CV)) (he : stL es = true) : rnO ls h (some (.own g t n cap es)) = .own 0 t n cap es := by
  simp only [rnO]
  have h1 : ∀ (x : CV), stB x = true → cnV ls h x = x := fun x hx => by
    cases x with
    | nl => cases hx
    | emp => cases hx
    | pt _ _ _ _ => cases hx
    | sl _ _ _ _ => cases hx
    | clo g caps => cases caps with | nil => rfl | cons _ _ => cases hx
    | _ => rfl
  have h2 : es.map (·.map (cnV ls h)) = es := by
    conv => rhs; rw [← List.map_id es]
    refine List.map_congr_left fun e hm => ?_
    have := (List.all_eq_true.1 he) e hm
    show e.map (cnV ls h) = e
    conv => rhs; rw [← List.map_id e]
    exact List.map_congr_left fun x hx => h1 x ((List.all_eq_true.1 this) x hx)
  rw [h2]
theorem rno_none (ls : List Nat) : rnO ls h none = .dead := _root_.id rfl
theorem tr_at (n r : Nat) : trF n f r = trA n (f r) := _root_.id rfl
theorem tr_c (n : Nat) (v : Value) : trA n (.one (.c v)) = .one (.c v) := _root_.id rfl
theorem tr_nl (n : Nat) : trA n (.one .nl) = .one .nl := _root_.id rfl
theorem tr_im (n : Nat) (es : List (List CV)) : trA n (.one (.im es)) = .one (.im es) := _root_.id rfl
theorem tr_sl (n l g off len : Nat) (hl : l < n) : trA n (.one (.sl l g off len)) = .one (.sl l g off len) := by simp [trA, trA1, trV, ltV, hl]
theorem tr_pt (n l g i off : Nat) (hl : l < n) : trA n (.one (.pt l g i off)) = .one (.pt l g i off) := by simp [trA, trA1, trV, ltV, hl]
theorem tr_agg (n : Nat) (xs : List CV) : trA n (.agg xs) = .agg (xs.map (trV n)) := _root_.id rfl
theorem trv_c (n : Nat) (v : Value) : trV n (.c v) = .c v := _root_.id rfl
theorem trv_im (n : Nat) (es : List (List CV)) : trV n (.im es) = .im es := _root_.id rfl
theorem trv_nl (n : Nat) : trV n .nl = .nl := _root_.id rfl
theorem trv_sl (n l g off len : Nat) (hl : l < n) : trV n (.sl l g off len) = .sl l g off len := by simp [trV, ltV, hl]
def ltE (n : Nat) (es : List (List CV)) : Bool := es.all fun e => e.all (ltV n)
theorem lt_own (n g : Nat) (t : TypeId) (m : Nat) (cap : Option Nat) (es : List (List CV)) : ltO n (.own g t m cap es) = ltE n es := _root_.id rfl
theorem lt_ro (n g : Nat) (t : TypeId) (m : Nat) (es : List (List CV)) : ltO n (.ro g t m es) = true := _root_.id rfl
theorem lt_dead (n : Nat) : ltO n .dead = true := _root_.id rfl
theorem lte_nil (n : Nat) : ltE n [] = true := _root_.id rfl
theorem lte_cons (n : Nat) (e : List CV) (r : List (List CV)) : ltE n (e :: r) = (e.all (ltV n) && ltE n r) := _root_.id rfl
theorem lte_cl (n : Nat) (es : List (List CV)) (he : clE es = true) : ltE n es = true := by
  simp only [ltE, clE, List.all_eq_true] at he ⊢
  intro e h1 x h2
  have := he e h1 x h2
  cases x with
  | pt _ _ _ _ => cases this
  | sl _ _ _ _ => cases this
  | clo g caps => cases caps with | nil => rfl | cons _ _ => cases this
  | _ => rfl
theorem ltv_c (n : Nat) (v : Value) : ltV n (.c v) = true := _root_.id rfl
theorem ltv_nl (n : Nat) : ltV n .nl = true := _root_.id rfl
theorem ltv_im (n : Nat) (es : List (List CV)) : ltV n (.im es) = true := _root_.id rfl
theorem ltv_sl (n l g off len : Nat) : ltV n (.sl l g off len) = decide (l < n) := _root_.id rfl
theorem ltv_pt (n l g i off : Nat) : ltV n (.pt l g i off) = decide (l < n) := _root_.id rfl
end
/-! ### Calls, by content or on all objects -/
section
variable {P : Program} {g : Nat} {args args' : List AV} {ls : List Nat} {b : Bool} {h : AH} {k : Ko}
/-- What stands behind a call by content. -/
def ccG (P : Program) (ls : List Nat) (h : AH) (k : Ko) (r : AV) (h' : AH) : Prop := if freeA r = true ∧ h'.all freeO = true then krl P k (shA h.length r) (h ++ h'.map (shO h.length)) else kr P k (shA h.length r) (frH ls h ++ h'.map (shO h.length))
theorem call_c (H : ACalls P g args' [] (ccG P ls h k)) : clG P g args args' ls b h k := .inl H
theorem call_h (H : ACalls P g args h (kr P k)) : clG P g args args' ls false h k := .inr (.inl ⟨rfl, H⟩)
theorem call_e {b : Bool} (H : ExtA P g args h (krl P k)) : clG P g args args' ls b h k := .inr (.inr (.inl H))
theorem call_n (H : ACalls P g args [] (ccG P ls h k)) : clG P g args args' ls true h k := .inr (.inr (.inr (.inl ⟨rfl, H⟩)))
theorem call_f (q : List Nat) (H : FCalls P g args h q (krf P k q)) : clG P g args args' ls false h k := .inr (.inr (.inr (.inr ⟨q, rfl, H⟩)))
theorem pl_sh1 (n : Nat) (r : AV) (hr : plainA1 r = true) : shA1 n r = r ∧ freeA1 r = true := by
  have hx : ∀ x : CV, plainC x = true → shV n x = x ∧ freeC x = true := fun x hx => by cases x <;> first | exact ⟨rfl, rfl⟩ | cases hx
  cases r with
  | one x => cases x <;> first | exact ⟨rfl, rfl⟩ | cases hr
  | agg xs =>
    have h1 : ∀ x ∈ xs, shV n x = x ∧ freeC x = true := fun x h => hx x ((List.all_eq_true.1 hr) x h)
    refine ⟨?_, List.all_eq_true.2 fun x h => (h1 x h).2⟩
    simp only [shA1, AV.agg.injEq]
    conv => rhs; rw [← List.map_id xs]
    exact List.map_congr_left fun x h => (h1 x h).1
  | tup xs => cases hr
  | any => cases hr
theorem pl_sh (n : Nat) (r : AV) (hr : plainA r = true) : shA n r = r ∧ freeA r = true := by
  cases r with
  | tup xs =>
    have h1 : ∀ x ∈ xs, shA1 n x = x ∧ freeA1 x = true := fun x h => pl_sh1 n x ((List.all_eq_true.1 hr) x h)
    refine ⟨?_, List.all_eq_true.2 fun x h => (h1 x h).2⟩
    simp only [shA, AV.tup.injEq]
    conv => rhs; rw [← List.map_id xs]
    exact List.map_congr_left fun x h => (h1 x h).1
  | one x => exact pl_sh1 n (.one x) hr
  | agg xs => exact pl_sh1 n (.agg xs) hr
  | any => cases hr
theorem cc_p (r : AV) (hr : plainA r = true) : ccG P ls h k r [] = krl P k r h := by simp [ccG, pl_sh h.length r hr]
theorem cc_n (r : AV) (hr : freeA r = false) : ccG P ls h k r [] = kr P k (shA h.length r) (frH ls h) := by simp [ccG, hr]
def ccI (b : Bool) (A B : Prop) : Prop := if b = true then A else B
theorem ccI_t (A B : Prop) : ccI true A B = A := by simp [ccI]
theorem ccI_f (A B : Prop) : ccI false A B = B := by simp [ccI]
theorem cc_o (r : AV) (o : AO) (h' : AH) : ccG P ls h k r (o :: h') = ccI (freeA r && (freeO o && h'.all freeO)) (krl P k (shA h.length r) (h ++ (shO h.length o :: h'.map (shO h.length)))) (kr P k (shA h.length r) (frH ls h ++ (shO h.length o :: h'.map (shO h.length)))) := by
  simp only [ccG, ccI, List.all_cons, Bool.and_eq_true, List.map_cons]
theorem fe_c (v : Value) : freeA (.one (.c v)) = true := _root_.id rfl
theorem fe_im (es : List (List CV)) : freeA (.one (.im es)) = false := _root_.id rfl
theorem fe_sl (l g off len : Nat) : freeA (.one (.sl l g off len)) = true := _root_.id rfl
theorem fe_agg (xs : List CV) : freeA (.agg xs) = xs.all freeC := _root_.id rfl
theorem fe_tup (xs : List AV) : freeA (.tup xs) = xs.all freeA1 := _root_.id rfl
theorem fe1_c (v : Value) : freeA1 (.one (.c v)) = true := _root_.id rfl
theorem fe1_im (es : List (List CV)) : freeA1 (.one (.im es)) = false := _root_.id rfl
theorem fe1_sl (l g off len : Nat) : freeA1 (.one (.sl l g off len)) = true := _root_.id rfl
theorem fe1_agg (xs : List CV) : freeA1 (.agg xs) = xs.all freeC := _root_.id rfl
theorem fec_c (v : Value) : freeC (.c v) = true := _root_.id rfl
theorem fec_im (es : List (List CV)) : freeC (.im es) = false := _root_.id rfl
theorem fec_sl (l g off len : Nat) : freeC (.sl l g off len) = true := _root_.id rfl
theorem fec_nl : freeC .nl = true := _root_.id rfl
theorem feo_own (g : Nat) (t : TypeId) (n : Nat) (cap : Option Nat) (es : List (List CV)) : freeO (.own g t n cap es) = freeE es := _root_.id rfl
theorem feo_dead : freeO .dead = true := _root_.id rfl
theorem fee_nil : freeE [] = true := _root_.id rfl
theorem fee_cons (e : List CV) (r : List (List CV)) : freeE (e :: r) = (e.all freeC && freeE r) := _root_.id rfl
theorem fee_app (xs ys : List (List CV)) : freeE (xs ++ ys) = (freeE xs && freeE ys) := by simp [freeE]
theorem fee_map {α : Type} (enc : α → List CV) (xs : List α) (he : ∀ x, (enc x).all freeC = true) : freeE (xs.map enc) = true := by simp [freeE, he]
end
/-! ### From a contract to a law's call -/
theorem rep0 (W : World) (hT : ∀ b, tabB b = true → b < W.heap.size ∧ tabP b W.heap[b]?) : Rep ⟨W, owned (fun _ => none) [], fun a v => W.cell? a = some v ∧ a.block < W.heap.size⟩ (fun _ => none) (fun a v => W.cell? a = some v ∧ a.block < W.heap.size) [] W :=
  ⟨rfl, rfl, ⟨rfl, fun b hb => ⟨(hT b hb).1, fun ⟨l, p, ⟨_, _, _, _, _, hl, _⟩, e⟩ => by simp at hl, (hT b hb).2⟩⟩, Nat.le_refl _, fun _ _ _ => rfl, MLe.refl _, fun _ _ h => h, fun _ _ h => .inl h, fun _ _ => rfl, fun l o hl => by simp at hl, fun l p ho => by obtain ⟨_, _, _, _, _, hl, _⟩ := ho; simp at hl, fun i j p q ho => by obtain ⟨_, _, _, _, _, hl, _⟩ := ho; simp at hl,
    fun a v l p _ ho => by obtain ⟨_, _, _, _, _, hl, _⟩ := ho; simp at hl⟩
theorem law_callsT {P : Program} {g : Nat} {args : List AV} {us : List Value} {W : World} (H : ACalls P g args [] fun r _ => r = .one (.c (.bool true))) (ha : VAs (fun _ => none) (fun a v => W.cell? a = some v ∧ a.block < W.heap.size) args us) (hT : ∀ b, tabB b = true → b < W.heap.size ∧ tabP b W.heap[b]?) :
    Calls P g us.toArray W fun e W' => e = .returned (.bool true) ∧ Below W.heap.size W W' := by
  refine (H.2 _ _ W us (rep0 W hT) ha).mono ?_
  rintro e w' ⟨v, r, h', φ', M', rfl, hv, rfl, R', _⟩
  have hno : ∀ b, ¬ owned (fun _ => none) [] b := by rintro b ⟨l, p, ⟨_, _, _, _, _, hl, _⟩, _⟩; simp at hl
  exact ⟨by rw [VA_c hv], R'.os, R'.tape, R'.output.1, R'.size, fun b hb => R'.blk b hb (hno b)⟩
end Go.BL
