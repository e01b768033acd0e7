/- The weakest precondition of code over an abstract heap, and that the machine meets it: from it a contract of a function. Conditions: none. -/
import Derived.Test.YtjfmfcdempkpdaaA6
namespace Go.AL
open Go.RowKit
set_option linter.unusedVariables false
set_option linter.unusedSimpArgs false

abbrev DS := List (Option Nat)
def gslot (ds : DS) (f : AF) (j : Nat) : AV := match ds[j]? with | some (some d) => f d | _ => undefA
def wantB (v : AV) (t : Bool) (x y : Unit → Prop) : Prop := match v with | .one (.c (.bool b)) => Br (b == t) x y | _ => y ()
def wantA (ds : DS) (f : AF) (g : Option (Nat × Bool)) (x y : Unit → Prop) : Prop :=
  match g with
  | none => x ()
  | some (j, t) => wantB (gslot ds f j) t x y
def aops (P : Program) (ds : DS) : List Oper → (AF → AH → Prop) → AF → AH → Prop
  | [], K, f, h => K f h
  | o :: r, K, f, h => wantA ds f o.guard (fun _ => aop P o.op f h fun v h' => aops P ds r K (put f o.dst v) h') (fun _ => aops P ds r K (put f o.dst undefA) h)
def adraw (P : Program) (ds : DS) (ops : Array Oper) : List (Nat × Bool × Bool) → (AF → AH → Prop) → AF → AH → List (Nat × AO) → Prop
  | [], K, f, h, _ => K f h
  | (i, tk, sy) :: r, K, f, h, pr => match ops[i]? with
    | none => False
    | some o => match tk with
      | true => wantA ds f o.guard
          (fun _ => On (takeA P o.op f h) fun v => adraw P ds ops r K (put f o.dst v.1) h (match v.2 with | some l => (match h[l]? with | some ob => (l, ob) :: pr | none => pr) | none => pr))
          (fun _ => adraw P ds ops r K (put f o.dst undefA) h pr)
      | false => wantA ds f o.guard
          (fun _ => aop P o.op f h fun v h' => (sy = true ∨ ∀ p ∈ pr, h'[p.1]? = some p.2) ∧ adraw P ds ops r K (put f o.dst v) h' pr)
          (fun _ => (sy = true ∨ ∀ p ∈ pr, h[p.1]? = some p.2) ∧ adraw P ds ops r K (put f o.dst undefA) h pr)
def dsts (ops : Array Oper) : DS := ops.toList.map (·.dst)
/-- Operation j waits for operation i. -/
def waits (ops : Array Oper) (j i : Nat) : Bool := match ops[j]? with | some o => o.after.any fun e => Region.binds .any e && e.on == i | none => false
def schedGo (T : Nat → Bool) (ops : Array Oper) : List (Nat × Bool × Bool) → Array Bool → List Nat → Bool
  | [], listed, _ => (Region.ready .any ops listed).isEmpty
  | (i, tk, sy) :: r, listed, tks => (Region.ready .any ops listed).contains i && (tk == T i) && (if tk then Region.free .any ops listed i else Region.ready .any ops listed == [i]) && (!sy || tks.all (waits ops i)) &&
      schedGo T ops r (listed.setIfInBounds i true) (if tk then i :: tks else tks)
def schedOk (ops : Array Oper) (L : List (Nat × Bool × Bool)) : Bool := Region.noSelect ops && L.length == ops.size && schedGo (fun i => L.any fun e => e.1 == i && e.2.1) ops L (Array.replicate ops.size false) []

def awp (P : Program) : Code → (AExit → AF → AH → Prop) → AF → AH → Prop
  | .skip, Q, f, h => Q .normal f h
  | .region _ ops false, Q, f, h => aops P (dsts ops) ops.toList (Q .normal) f h
  | .region _ ops true, Q, f, h => ∃ L, schedOk ops L = true ∧ adraw P (dsts ops) ops L (Q .normal) f h []
  | .seq x y, Q, f, h => awp P x (AExit.then (fun f h => awp P y Q f h) Q) f h
  | .cond c x y, Q, f, h => (match ev f c with | .one (.c (.bool b)) => Br b (fun _ => awp P x Q f h) (fun _ => awp P y Q f h) | _ => False)
  | .block id b, Q, f, h => awp P b (AExit.inBlock id Q) f h
  | .loop b, Q, f, h => ∃ (I : Nat → AF → AH → Prop) (k : Nat), I k f h ∧ ∀ k f h, I k f h → awp P b (AExit.then (fun f' h' => ∃ k', k' < k ∧ I k' f' h') Q) f h
  | .exit id, Q, f, h => Q (.exit id) f h
  | .ret, Q, f, h => Q .ret f h
  | _, _, _, _ => False

def opndB (n : Nat) : Operand → Bool
  | .tmp t => t < n
  | _ => true
def operB (n : Nat) (o : Oper) : Bool := o.op.operands.all (opndB n) && (match o.dst with | some d => decide (d < n) | none => true)
def codeB (n : Nat) : Code → Bool
  | .region _ ops _ => ops.all (operB n)
  | .seq x y => codeB n x && codeB n y
  | .cond c x y => opndB n c && codeB n x && codeB n y
  | .block _ b => codeB n b
  | .loop b => codeB n b
  | _ => true

section
variable {P : Program} {base : Nat} {w0 : World} {φ0 : Phi} {m0 n : Nat}
/-- What a state of the machine is told by. -/
def St (base : Nat) (w0 : World) (φ0 : Phi) (m0 n : Nat) (N : AF → AH → Prop) (a : Act) (w : World) : Prop :=
  ∃ f h φ, N f h ∧ Rep base w0 φ h w ∧ FOk n φ f h.length a ∧ m0 ≤ h.length ∧ ∀ l, l < m0 → φ l = φ0 l
theorem St.mono {N N' : AF → AH → Prop} {a : Act} {w : World} (H : St base w0 φ0 m0 n N a w) (hn : ∀ f h, N f h → N' f h) : St base w0 φ0 m0 n N' a w :=
  let ⟨f, h, φ, k, r⟩ := H; ⟨f, h, φ, hn f h k, r⟩
def QQ (base : Nat) (w0 : World) (φ0 : Phi) (m0 n : Nat) (Q : AExit → AF → AH → Prop) : Exit → Act → World → Prop
  | .normal, a, w => St base w0 φ0 m0 n (Q .normal) a w
  | .exit id, a, w => St base w0 φ0 m0 n (Q (.exit id)) a w
  | .ret, a, w => St base w0 φ0 m0 n (Q .ret) a w
  | _, _, _ => False
theorem FOk.move {φ φ' : Phi} {f : AF} {m m' : Nat} {a : Act} (F : FOk n φ f m a) (hm : m ≤ m') (hag : ∀ l, l < m → φ' l = φ l) : FOk n φ' f m' a where
  size := F.size
  val := fun i hi => by rw [aconc_eq_of φ φ' hag (F.wf i hi)]; exact F.val i hi
  wf := fun i hi => AV.wf_mono hm (F.wf i hi)
  defers := F.defers
theorem FOk.put {φ : Phi} {f : AF} {m : Nat} {a : Act} (F : FOk n φ f m a) {dst : Option Nat} (hd : ∀ d, dst = some d → d < n) {v : AV} (hv : v.wf m) : FOk n φ (put f dst v) m (a.put dst (v.conc φ)) := by
  cases dst with
  | none => exact F
  | some d =>
    have hd := hd d rfl
    refine ⟨by simp [Act.put, F.size], fun i hi => ?_, fun i hi => ?_, F.defers⟩
    · simp only [Act.put, AL.put, upd]
      by_cases e : i = d
      · subst e; simp [F.size, hi]
      · rw [if_neg e, Array.getElem?_setIfInBounds_ne (Ne.symm e)]; exact F.val i hi
    · simp only [AL.put, upd]
      split
      · exact hv
      · exact F.wf i hi
theorem want_spec {ops : Array Oper} {φ : Phi} {f : AF} {m : Nat} {a : Act} (F : FOk n φ f m a) (hB : ops.all (operB n) = true) (o : Oper) {x y : Unit → Prop} (H : wantA (dsts ops) f o.guard x y) :
    (Region.wanted o (yielded ops a.tmps) = true ∧ x ()) ∨ (Region.wanted o (yielded ops a.tmps) = false ∧ y ()) := by
  unfold wantA at H
  unfold Region.wanted
  split at H
  · rename_i hg
    rw [hg]
    exact .inl ⟨rfl, H⟩
  · rename_i j t hg
    rw [hg]
    simp only [yielded]
    have hds : (dsts ops)[j]? = (ops[j]?).map (·.dst) := by unfold dsts; rw [List.getElem?_map, Array.getElem?_toList]
    unfold gslot at H
    rw [hds] at H
    cases hoj : ops[j]? with
    | none =>
      rw [hoj] at H
      simp only [Option.map_none, wantB, undefA] at H
      exact .inr ⟨rfl, H⟩
    | some oj =>
      rw [hoj] at H
      simp only [Option.map_some] at H
      cases hd : oj.dst with
      | none =>
        rw [hd] at H
        simp only [wantB, undefA] at H
        simp only [Option.bind_some, hd, Option.bind_none]
        exact .inr ⟨rfl, H⟩
      | some d =>
        rw [hd] at H
        simp only at H
        have hdn : d < n := by
          have := (Array.all_eq_true.1 hB) j (Array.getElem?_eq_some_iff.1 hoj).1
          rw [(Array.getElem?_eq_some_iff.1 hoj).2] at this
          simp only [operB, hd, Bool.and_eq_true, decide_eq_true_eq] at this
          exact this.2
        have hv := F.val d hdn
        simp only [Option.bind_some, hd, hv]
        unfold wantB at H
        split at H
        · rename_i b hfd
          rw [hfd]
          simp only [AV.conc, CV.conc]
          cases b <;> cases t <;> first | exact .inl ⟨rfl, H⟩ | exact .inr ⟨rfl, H⟩
        · rename_i hne
          refine .inr ⟨?_, H⟩
          split
          · rename_i b hb
            exfalso
            cases hfd : f d with
            | one c =>
              rw [hfd] at hb
              simp only [AV.conc, Option.some.injEq] at hb
              cases c <;> simp only [CV.conc] at hb <;> first | (subst hb; exact hne _ hfd) | cases hb
            | agg xs => rw [hfd] at hb; simp only [AV.conc] at hb; cases hb
            | tup xs => rw [hfd] at hb; simp only [AV.conc] at hb; cases hb
          · rfl
theorem oper_bnd {o : Oper} (h : operB n o = true) : (∀ t, Operand.tmp t ∈ o.op.operands → t < n) ∧ ∀ d, o.dst = some d → d < n := by
  unfold operB at h
  rw [Bool.and_eq_true] at h
  refine ⟨fun t ht => ?_, fun d hd => ?_⟩
  · have := (Array.all_eq_true_iff_forall_mem.1 h.1) _ ht
    simpa [opndB] using this
  · have := h.2
    rw [hd] at this
    simpa using this

/-- One operation, as the machine's region carries it out. -/
theorem wpOp_of {ops : Array Oper} (hB : ops.all (operB n) = true) {i : Nat} {o : Oper} (hi : ops[i]? = some o) {Q : Exit → Act → World → Prop} {Kc : Act → World → Prop} {K1 : AV → AH → Prop} {K2 : Prop} {f : AF} {h : AH} {φ : Phi} {a : Act} {w : World}
    (R : Rep base w0 φ h w) (F : FOk n φ f h.length a) (H : wantA (dsts ops) f o.guard (fun _ => aop P o.op f h K1) (fun _ => K2))
    (h1 : ∀ v h' φ' w', K1 v h' → Rep base w0 φ' h' w' → h.length ≤ h'.length → (∀ l, l < h.length → φ' l = φ l) → FOk n φ' (put f o.dst v) h'.length (a.put o.dst (v.conc φ')) → Kc (a.put o.dst (v.conc φ')) w')
    (h2 : K2 → FOk n φ (put f o.dst undefA) h.length (a.put o.dst undef) → Kc (a.put o.dst undef) w) : wpOp P ops Q i Kc a w := by
  have hob : operB n o = true := by
    have := (Array.all_eq_true.1 hB) i (Array.getElem?_eq_some_iff.1 hi).1
    rwa [(Array.getElem?_eq_some_iff.1 hi).2] at this
  obtain ⟨b1, b2⟩ := oper_bnd hob
  unfold wpOp
  simp only [hi]
  rcases want_spec F hB o H with ⟨hw, H⟩ | ⟨hw, H⟩
  · rw [if_pos hw]
    refine .inl (aop_sound o R F b1 H ?_)
    intro v h' φ' w' hk R' hl hag hwf
    exact h1 v h' φ' w' hk R' hl hag ((F.move hl hag).put b2 hwf)
  · rw [hw]
    exact h2 H (F.put (v := undefA) b2 (wf_c _ _))
theorem aops_sound {ops : Array Oper} (hB : ops.all (operB n) = true) {Q : Exit → Act → World → Prop} {N : AF → AH → Prop} (hQ : ∀ a w, St base w0 φ0 m0 n N a w → Q .normal a w) :
    ∀ (k : Nat) (l : List Oper), l = ops.toList.drop k → ∀ (f : AF) (h : AH) (φ : Phi) (a : Act) (w : World), aops P (dsts ops) l N f h → Rep base w0 φ h w → FOk n φ f h.length a → m0 ≤ h.length → (∀ l, l < m0 → φ l = φ0 l) →
      wpOps P ops Q (List.range' k (ops.size - k)) a w := by
  intro k l
  induction l generalizing k with
  | nil =>
    intro hl f h φ a w H R F hm hag
    have : ops.size ≤ k := by
      have := congrArg List.length hl
      simp at this
      omega
    rw [show ops.size - k = 0 by omega]
    exact hQ a w ⟨f, h, φ, H, R, F, hm, hag⟩
  | cons o r ih =>
    intro hl f h φ a w H R F hm hag
    have hk : k < ops.size := by
      have := congrArg List.length hl
      simp at this
      omega
    have hcons : ops.toList.drop k = ops[k] :: ops.toList.drop (k + 1) := by
      rw [List.drop_eq_getElem_cons (by simpa using hk)]
      simp
    rw [hcons] at hl
    injection hl with ho hr
    have hi : ops[k]? = some o := by rw [Array.getElem?_eq_getElem hk, ho]
    rw [show ops.size - k = (ops.size - (k + 1)) + 1 by omega, List.range'_succ, wpOps_cons]
    simp only [aops] at H
    refine wpOp_of hB hi R F H (fun v h' φ' w' hk' R' hl' hag' F' => ?_) (fun hk2 F' => ?_)
    · exact ih (k + 1) hr _ _ _ _ _ hk' R' F' (Nat.le_trans hm hl') (fun l hl => (hag' l (by omega)).trans (hag l hl))
    · exact ih (k + 1) hr _ _ _ _ _ hk2 R F' hm hag

/-! ### A region whose order is open -/
def wpAnyS (P : Program) (T : Nat → Bool) (ops : Array Oper) (Q : Exit → Act → World → Prop) (S : Nat → World → Prop) : Nat → Array Bool → Act → World → Prop
  | 0, listed, a, w => Region.ready .any ops listed = [] ∧ Q .normal a w
  | fuel + 1, listed, a, w =>
    (Region.ready .any ops listed = [] → Q .normal a w) ∧
    ∀ i ∈ Region.ready .any ops listed, wpOp P ops Q i (fun a' w' => (if T i = true then w' = w else S i w') ∧ wpAnyS P T ops Q S fuel (listed.setIfInBounds i true) a' w') a w
theorem wpAny_of_S {T : Nat → Bool} {ops : Array Oper} {Q : Exit → Act → World → Prop} {S : Nat → World → Prop} : ∀ (fuel : Nat) (listed : Array Bool) (a : Act) (w : World), wpAnyS P T ops Q S fuel listed a w → wpAny P .any ops Q fuel listed a w
  | 0, _, _, _, h => h
  | fuel + 1, _, _, _, h => ⟨h.1, fun i hi => wpOp_mono (fun a' w' h' => wpAny_of_S fuel _ a' w' h'.2) (h.2 i hi)⟩
theorem wpAnyS_first {T : Nat → Bool} {ops : Array Oper} {Q : Exit → Act → World → Prop} {F : World → Prop} {i : Nat} {oi : Oper} {v : Value} (hi : ops[i]? = some oi) (hsel : ∀ (j : Nat) (o : Oper) cs b, ops[j]? = some o → o.op ≠ .select cs b)
    (hQ : ∀ c a w, Q (.panic c) (a.put oi.dst v) w → Q (.panic c) a w) (hT : T i = true) (S : Nat → World → Prop) :
    ∀ (fuel : Nat) (listed : Array Bool) (a : Act) (w : World),
      (∀ j oj, ops[j]? = some oj → j ≠ i → listed.getD j true = false → (∀ e ∈ oj.after, Region.binds .any e = true → e.on ≠ i) → oi.apart ops oj = true) →
      i ∈ Region.ready .any ops listed → YieldsIf P ops F oi v a → F w →
      wpAnyS P T ops Q (fun j w' => S j w' ∧ (waits ops j i = false → F w')) fuel (listed.setIfInBounds i true) (a.put oi.dst v) w → wpAnyS P T ops Q S (fuel + 1) listed a w := by
  have drop : ∀ (fuel : Nat) (listed : Array Bool) (a : Act) (w : World), wpAnyS P T ops Q (fun j w' => S j w' ∧ (waits ops j i = false → F w')) fuel listed a w → wpAnyS P T ops Q S fuel listed a w := by
    intro fuel
    induction fuel with
    | zero => intro _ _ _ h; exact h
    | succ fuel ih =>
      intro listed a w h
      refine ⟨h.1, fun k hk => wpOp_mono (fun a' w' h' => ⟨?_, ih _ _ _ h'.2⟩) (h.2 k hk)⟩
      have := h'.1
      split at this
      · rename_i ht; rw [if_pos ht]; exact this
      · rename_i ht; rw [if_neg ht]; exact this.1
  intro fuel
  induction fuel with
  | zero =>
    intro listed a w _ hr hy hF H
    refine ⟨fun h => (by rw [h] at hr; cases hr), fun j hj => ?_⟩
    by_cases hji : j = i
    · subst hji; exact hy.wpOp hi hF ⟨by rw [if_pos hT], ⟨H.1, H.2⟩⟩
    · have := ready_mono hj hji
      rw [H.1] at this
      cases this
  | succ fuel ih =>
    intro listed a w hfree hr hy hF H
    refine ⟨fun h => (by rw [h] at hr; cases hr), fun j hj => ?_⟩
    by_cases hji : j = i
    · subst hji
      exact hy.wpOp hi hF ⟨by rw [if_pos hT], drop _ _ _ _ H⟩
    · have h1 := H.2 j (ready_mono hj hji)
      obtain ⟨hjun, oj, hoj, hall⟩ := mem_ready.1 hj
      have hnot : ∀ e ∈ oj.after, Region.binds .any e = true → e.on ≠ i := fun e he hb heq => by
        have h1 := hall e he hb
        have h0 := (mem_ready.1 hr).1
        rw [heq] at h1
        rcases Nat.lt_or_ge i listed.size with h' | h'
        · simp [h'] at h0 h1; rw [h0] at h1; cases h1
        · simp [Array.getElem?_eq_none h'] at h1
      have hwait : waits ops j i = false := by
        unfold waits
        rw [hoj]
        simp only [Bool.eq_false_iff, ne_eq, Array.any_eq_true]
        rintro ⟨x, hx, he⟩
        simp only [Bool.and_eq_true, beq_iff_eq] at he
        exact hnot _ (Array.getElem_mem hx) he.1 he.2
      have h2 := wpOp_putIf hoj (hfree j oj hoj hji hjun hnot) (fun cs b => hsel i oi cs b hi) (fun cs b => hsel j oj cs b hoj) hQ hy h1
      have hfree' : ∀ k ok, ops[k]? = some ok → k ≠ i → (listed.setIfInBounds j true).getD k true = false →
          (∀ e ∈ ok.after, Region.binds .any e = true → e.on ≠ i) → oi.apart ops ok = true := fun k ok hk hki hun hno => by
        refine hfree k ok hk hki ?_ hno
        by_cases hjk : j = k
        · subst hjk; exact hjun
        · rw [getD_set_ne true hjk] at hun; exact hun
      refine wpOp_mono (fun a' w' h3 => ?_) h2
      obtain ⟨hy', hc, hrec⟩ := h3
      have hFw : F w' := by
        split at hc
        · rw [hc]; exact hF
        · exact hc.2 hwait
      refine ⟨?_, ih (listed.setIfInBounds j true) a' w' hfree' (ready_mono hr (Ne.symm hji)) hy' hFw ?_⟩
      · split at hc
        · rename_i ht; rw [if_pos ht]; exact hc
        · rename_i ht; rw [if_neg ht]; exact hc.1
      · rw [Array.setIfInBounds_comm _ _ hji]
        exact hrec
theorem takeA_loc {op : Op} {f : AF} {h : AH} {v : AV} {l : Nat} (H : takeA P op f h = some (v, some l)) : ∃ ob, h[l]? = some ob := by
  cases op <;> simp only [takeA] at H <;> try (cases H; done)
  case load t x =>
    split at H
    · obtain ⟨ob, hl, H⟩ := Option.bind_eq_some_iff.1 H
      obtain ⟨v', hv, H⟩ := Option.map_eq_some_iff.1 H
      simp only [Prod.mk.injEq, Option.some.injEq] at H
      obtain ⟨_, rfl⟩ := H
      exact ⟨ob, hl⟩
    · cases H
  case indexAddr t x ix =>
    obtain ⟨el, hel, H⟩ := Option.bind_eq_some_iff.1 H
    obtain ⟨m, hm, H⟩ := Option.bind_eq_some_iff.1 H
    split at H
    · split at H <;> simp at H
    · split at H <;> simp at H
    · cases H
  case convert src dst x =>
    split at H
    · split at H <;> simp at H
    · cases H
  case call c =>
    split at H
    · unfold lenA at H
      split at H <;> first | (split at H <;> simp at H) | cases H
    · cases H
  all_goals (split at H <;> simp at H)
theorem adraw_sound {T : Nat → Bool} {ops : Array Oper} (hB : ops.all (operB n) = true) (hns : Region.noSelect ops = true) {Q : Exit → Act → World → Prop} (hQp : ∀ c a w, ¬ Q (.panic c) a w) {N : AF → AH → Prop} (hQ : ∀ a w, St base w0 φ0 m0 n N a w → Q .normal a w) :
    ∀ (L : List (Nat × Bool × Bool)) (listed : Array Bool) (tks : List Nat) (pr : List (Nat × AO)) (f : AF) (h : AH) (φ : Phi) (a : Act) (w : World) (S : Nat → World → Prop) (fuel : Nat), schedGo T ops L listed tks = true → L.length ≤ fuel →
      adraw P (dsts ops) ops L N f h pr → Rep base w0 φ h w → FOk n φ f h.length a → m0 ≤ h.length → (∀ l, l < m0 → φ l = φ0 l) → (∀ p ∈ pr, p.1 < h.length ∧ ∀ x ∈ p.2.cs, x.wf h.length) →
      (∀ j w', (tks.all (waits ops j) = true ∨ ∀ p ∈ pr, RepO base φ w' p.1 p.2) → S j w') → wpAnyS P T ops Q S fuel listed a w
  | [], listed, tks, pr, f, h, φ, a, w, S, fuel, hs, _, H, R, F, hm, hag, hpr, hS => by
    have hr : Region.ready .any ops listed = [] := by simpa [schedGo] using hs
    have hq := hQ a w ⟨f, h, φ, H, R, F, hm, hag⟩
    cases fuel with
    | zero => exact ⟨hr, hq⟩
    | succ fuel => exact ⟨fun _ => hq, by rw [hr]; simp⟩
  | (i, tk, sy) :: r, listed, tks, pr, f, h, φ, a, w, S, fuel, hs, hfuel, H, R, F, hm, hag, hpr, hS => by
    simp only [schedGo, Bool.and_eq_true] at hs
    obtain ⟨⟨⟨⟨hr, ht⟩, hfr⟩, hsy⟩, hgo⟩ := hs
    have hri : i ∈ Region.ready .any ops listed := by simpa using hr
    have htk : tk = T i := by simpa using ht
    obtain ⟨fuel, rfl⟩ : ∃ q, fuel = q + 1 := ⟨fuel - 1, by simp at hfuel; omega⟩
    simp only [adraw] at H
    split at H
    · exact H.elim
    · rename_i o hi
      have hob : operB n o = true := by
        have := (Array.all_eq_true.1 hB) i (Array.getElem?_eq_some_iff.1 hi).1
        rwa [(Array.getElem?_eq_some_iff.1 hi).2] at this
      obtain ⟨b1, b2⟩ := oper_bnd hob
      cases tk with
      | true =>
        simp only [if_true] at hfr hgo
        have hsel := Region.noSelect_spec hns
        rcases want_spec F hB o H with ⟨hw, H⟩ | ⟨hw, H⟩
        · obtain ⟨⟨v, ol⟩, hv, H⟩ := H.elim
          obtain ⟨hvw, hrun⟩ := takeA_run (base := base) o F b1 R.wf hv
          refine wpAnyS_first (F := fun w' => HoldsL base φ h w' ol) (v := v.conc φ) hi hsel (fun c a w hp => absurd hp (hQp c _ w)) htk.symm S fuel listed a w (Region.free_spec hi hfr) hri (.inl ⟨hw, hrun⟩) ?_ ?_
          · cases ol with
            | none => trivial
            | some l =>
              obtain ⟨ob, hl⟩ := takeA_loc hv
              exact ⟨ob, hl, R.obj l ob hl⟩
          · refine adraw_sound hB hns hQp hQ r _ (i :: tks) _ _ _ φ _ _ _ fuel hgo (by simp at hfuel; omega) H R (F.put b2 hvw) hm hag ?_ ?_
            · cases ol with
              | none => exact hpr
              | some l =>
                obtain ⟨ob, hl⟩ := takeA_loc hv
                simp only [hl]
                intro p hp
                rcases List.mem_cons.1 hp with rfl | hp
                · exact ⟨hlt hl, R.wf l ob hl⟩
                · exact hpr p hp
            · intro j w' hc
              cases ol with
              | none =>
                refine ⟨hS j w' ?_, fun _ => trivial⟩
                rcases hc with hc | hc
                · rw [List.all_cons, Bool.and_eq_true] at hc
                  exact .inl hc.2
                · exact .inr hc
              | some l =>
                obtain ⟨ob, hl⟩ := takeA_loc hv
                simp only [hl] at hc
                rcases hc with hc | hc
                · rw [List.all_cons, Bool.and_eq_true] at hc
                  exact ⟨hS j w' (.inl hc.2), fun hw' => by rw [hc.1] at hw'; cases hw'⟩
                · exact ⟨hS j w' (.inr fun p hp => hc p (List.mem_cons_of_mem _ hp)), fun _ => ⟨ob, hl, hc (l, ob) (by simp)⟩⟩
        · refine wpAnyS_first (F := fun _ => True) (v := undef) hi hsel (fun c a w hp => absurd hp (hQp c _ w)) htk.symm S fuel listed a w (Region.free_spec hi hfr) hri (.inr ⟨hw, rfl⟩) trivial ?_
          refine adraw_sound hB hns hQp hQ r _ (i :: tks) pr _ _ φ _ _ _ fuel hgo (by simp at hfuel; omega) H R (F.put (v := undefA) b2 (wf_c _ _)) hm hag hpr (fun j w' hc => ⟨hS j w' ?_, fun _ => trivial⟩)
          rcases hc with hc | hc
          · rw [List.all_cons, Bool.and_eq_true] at hc
            exact .inl hc.2
          · exact .inr hc
      | false =>
        simp only [Bool.false_eq_true, if_false] at hfr hgo H
        have hre : Region.ready .any ops listed = [i] := by simpa using hfr
        refine ⟨fun h0 => (by rw [hre] at h0; cases h0), fun j hj => ?_⟩
        rw [hre] at hj
        obtain rfl := List.mem_singleton.1 hj
        refine wpOp_of hB hi R F H (fun v h' φ' w' hk R' hl hag' F' => ?_) (fun hk F' => ?_)
        · obtain ⟨hp, hk⟩ := hk
          have hmove : ∀ (w2 : World) (p : Nat × AO), p ∈ pr → (RepO base φ' w2 p.1 p.2 ↔ RepO base φ w2 p.1 p.2) := fun w2 p hp =>
            ⟨fun H => H.move (n := h.length) (hpr p hp).2 (fun l hl => (hag' l hl).symm) (hag' _ (hpr p hp).1).symm rfl, fun H => H.move (n := h.length) (hpr p hp).2 hag' (hag' _ (hpr p hp).1) rfl⟩
          refine ⟨?_, adraw_sound hB hns hQp hQ r _ tks pr _ _ φ' _ _ S fuel hgo (by simp at hfuel; omega) hk R' F' (Nat.le_trans hm hl) (fun l hl' => (hag' l (by omega)).trans (hag l hl')) (fun p hp => ⟨Nat.lt_of_lt_of_le (hpr p hp).1 hl, fun x hx => CV.wf_mono hl ((hpr p hp).2 x hx)⟩) (fun j w2 hc => hS j w2 ?_)⟩
          · rw [← htk]
            simp only [Bool.false_eq_true, if_false]
            refine hS _ _ ?_
            rcases hp with hp | hp
            · subst hp
              simp only [Bool.not_true, Bool.false_or] at hsy
              exact .inl hsy
            · exact .inr fun p hp' => (hmove w' p hp').1 (R'.obj _ _ (hp p hp'))
          · exact hc.imp id fun hc p hp => (hmove w2 p hp).1 (hc p hp)
        · obtain ⟨hp, hk⟩ := hk
          refine ⟨?_, adraw_sound hB hns hQp hQ r _ tks pr _ _ φ _ _ S fuel hgo (by simp at hfuel; omega) hk R F' hm hag hpr hS⟩
          rw [← htk]
          simp only [Bool.false_eq_true, if_false]
          refine hS _ _ ?_
          rcases hp with hp | hp
          · subst hp
            simp only [Bool.not_true, Bool.false_or] at hsy
            exact .inl hsy
          · exact .inr fun p hp' => R.obj _ _ (hp p hp')

theorem QQ_noPanic {Q : AExit → AF → AH → Prop} (c : List PanicEntry) (a : Act) (w : World) : ¬ QQ base w0 φ0 m0 n Q (.panic c) a w := fun h => h
theorem awp_sound (hmo : P.follows .mixedOrders = true) : ∀ (c : Code) (_ : codeB n c = true) (Q : AExit → AF → AH → Prop) (f : AF) (h : AH) (φ : Phi) (a : Act) (w : World), awp P c Q f h → Rep base w0 φ h w → FOk n φ f h.length a → m0 ≤ h.length → (∀ l, l < m0 → φ l = φ0 l) →
    c.wp P (QQ base w0 φ0 m0 n Q) a w := by
  intro c
  induction c with
  | skip => intro _ Q f h φ a w H R F hm hag; exact wp_skip ⟨f, h, φ, H, R, F, hm, hag⟩
  | region id ops draw =>
    intro hB Q f h φ a w H R F hm hag
    simp only [codeB] at hB
    cases draw with
    | false =>
      simp only [awp] at H
      refine wp_region ?_
      have := aops_sound (Q := QQ base w0 φ0 m0 n Q) (N := Q .normal) hB (fun a w hs => hs) 0 ops.toList (by simp) f h φ a w H R F hm hag
      rw [Nat.sub_zero, ← List.range_eq_range'] at this
      exact this
    | true =>
      simp only [awp] at H
      obtain ⟨L, hL, H⟩ := H
      simp only [schedOk, Bool.and_eq_true] at hL
      obtain ⟨⟨h1, h2⟩, h3⟩ := hL
      have hlen : L.length = ops.size := by simpa using h2
      refine wp_region_any hmo ?_
      refine wpAny_of_S (T := fun i => L.any fun e => e.1 == i && e.2.1) (S := fun _ _ => True) _ _ _ _ ?_
      exact adraw_sound hB h1 QQ_noPanic (N := Q .normal) (fun a w hs => hs) L _ [] [] f h φ a _ _ ops.size h3 (by omega) H R.drew F hm hag (fun p hp => by cases hp) (fun _ _ _ => trivial)
  | seq x y ihx ihy =>
    intro hB Q f h φ a w H R F hm hag
    simp only [codeB, Bool.and_eq_true] at hB
    simp only [awp] at H
    refine wp_seq (wp_mono (ihx hB.1 _ f h φ a w H R F hm hag) ?_)
    intro e a' w' hq
    cases e with
    | normal =>
      obtain ⟨f', h', φ', H', R', F', hm', hag'⟩ := hq
      exact ihy hB.2 Q f' h' φ' a' w' H' R' F' hm' hag'
    | exit id => exact hq
    | ret => exact hq
    | _ => exact hq.elim
  | cond c x y ihx ihy =>
    intro hB Q f h φ a w H R F hm hag
    simp only [codeB, Bool.and_eq_true] at hB
    simp only [awp] at H
    have ec := ev_conc F (x := c) (fun t ht => by have := hB.1.1; rw [ht] at this; simpa [opndB] using this)
    split at H
    · rename_i b hb
      rw [hb] at ec
      simp only [AV.conc, CV.conc] at ec
      cases b with
      | true => exact wp_cond_true ec (ihx hB.1.2 Q f h φ a w H R F hm hag)
      | false => exact wp_cond_false ec (ihy hB.2 Q f h φ a w H R F hm hag)
    · exact H.elim
  | block id b ih =>
    intro hB Q f h φ a w H R F hm hag
    simp only [codeB] at hB
    simp only [awp] at H
    refine wp_block (wp_mono (ih hB _ f h φ a w H R F hm hag) ?_)
    intro e a' w' hq
    cases e with
    | normal => exact hq
    | exit id' =>
      simp only [Exit.inBlock]
      by_cases e : id' = id
      · rw [if_pos e]; exact St.mono hq (fun f h hh => by simpa [AExit.inBlock, e] using hh)
      · rw [if_neg e]; exact St.mono hq (fun f h hh => by simpa [AExit.inBlock, e] using hh)
    | ret => exact hq
    | _ => exact hq.elim
  | loop b ih =>
    intro hB Q f h φ a w H R F hm hag
    simp only [codeB] at hB
    simp only [awp] at H
    obtain ⟨I, k, h0, hr⟩ := H
    refine wp_loop_ghost (fun k a w => St base w0 φ0 m0 n (I k) a w) k ⟨f, h, φ, h0, R, F, hm, hag⟩ ?_
    rintro k a w ⟨f, h, φ, hI, R, F, hm, hag⟩
    refine wp_mono (ih hB _ f h φ a w (hr k f h hI) R F hm hag) ?_
    intro e a' w' hq
    cases e with
    | normal =>
      obtain ⟨f', h', φ', ⟨k', hk, hI'⟩, r⟩ := hq
      exact ⟨k', hk, f', h', φ', hI', r⟩
    | exit id => exact hq
    | ret => exact hq
    | _ => exact hq.elim
  | exit id => intro _ Q f h φ a w H R F hm hag; exact wp_exit ⟨f, h, φ, H, R, F, hm, hag⟩
  | ret => intro _ Q f h φ a w H R F hm hag; exact wp_ret ⟨f, h, φ, H, R, F, hm, hag⟩
  | _ => intro _ Q f h φ a w H R F hm hag; exact H.elim

/-! ### From code to a call -/
def frame0 (args : List AV) : AF := fun i => args.getD i undefA
def resOne (P : Program) (f : AF) (h : AH) : ResultVar → Option AV
  | .tmp t => some (f t)
  | .cell a t => match f a with | .one (.ptr l off) => (h[l]?).bind fun o => partA P t o.cs off | _ => none
def resB (n : Nat) : ResultVar → Bool
  | .tmp t => t < n
  | .cell a _ => a < n
def oneOrTup : List AV → AV
  | [v] => v
  | vs => .tup vs
/-- What a function hands back: the results, and m objects at least that stood before the call; what was made behind the first m may be forgotten. -/
def ARet (P : Program) (fn : Func) (m0 : Nat) (K : AV → AH → Prop) (f : AF) (h : AH) : Prop :=
  On (fn.results.toList.mapM (resOne P f h)) fun vs => ∃ m, m0 ≤ m ∧ m ≤ h.length ∧ (oneOrTup vs).wf m ∧ (∀ (l : Nat) (o : AO), l < m → h[l]? = some o → ∀ x ∈ o.cs, x.wf m) ∧ K (oneOrTup vs) (h.take m)
def fnB (fn : Func) : Bool := fn.results.all (resB fn.ntmps)

theorem concs_eq (φ : Phi) : ∀ vs : List AV, AV.concs φ vs = vs.map (AV.conc φ)
  | [] => by simp [AV.concs]
  | v :: r => by rw [AV.concs, concs_eq φ r]; rfl
def resSem (tmps : Array Value) : ResultVar → Sem Value
  | .tmp t => pure (tmps.getD t undef)
  | .cell b t => do loadVar t (← asAddr (tmps.getD b undef))
theorem run_res {φ : Phi} {f : AF} {h : AH} {a : Act} {w : World} (R : Rep base w0 φ h w) (F : FOk n φ f h.length a) : ∀ (rs : List ResultVar) (vs : List AV), rs.all (resB n) = true → rs.mapM (resOne P f h) = some vs →
    (rs.mapM (resSem a.tmps)).run P w = .ok (vs.map (AV.conc φ)) w
  | [], vs, _, hv => by simp at hv; subst hv; rfl
  | r :: rs, vs, hb, hv => by
    rw [List.mapM_cons] at hv
    simp only [Option.bind_eq_bind, Option.pure_def] at hv
    obtain ⟨v, h1, hv⟩ := Option.bind_eq_some_iff.1 hv
    obtain ⟨vs', h2, hv⟩ := Option.bind_eq_some_iff.1 hv
    cases hv
    rw [List.all_cons, Bool.and_eq_true] at hb
    have ih := run_res R F rs vs' hb.2 h2
    have hd : (resSem a.tmps r).run P w = .ok (v.conc φ) w := by
      cases r with
      | tmp t =>
        simp only [resOne, Option.some.injEq] at h1
        subst h1
        have ht : t < n := by simpa [resB] using hb.1
        have := F.val t ht
        simp [resSem, Array.getD_eq_getD_getElem?, this]
      | cell b t =>
        have hbn : b < n := by simpa [resB] using hb.1
        have hv := F.val b hbn
        simp only [resOne] at h1
        split at h1
        · rename_i l off hfb
          obtain ⟨o, ho, h1⟩ := Option.bind_eq_some_iff.1 h1
          rw [hfb] at hv
          simp only [AV.conc, CV.conc, adr] at hv
          have hr := run_loadVarA (P := P) (w := w) (φ := φ) (b := (φ l).b) (o := (φ l).o) h1 (fun j y hj => R.cell ho hj)
          simp [resSem, Array.getD_eq_getD_getElem?, hv, asAddr, hr]
        · cases h1
    rw [List.mapM_cons]
    simp only [Sem.run_bind, hd, ih, Result.andThen_ok, Sem.run_pure, List.map_cons]
theorem one_conc (φ : Phi) (vs : List AV) : (if h : (vs.map (AV.conc φ)).toArray.size = 1 then (vs.map (AV.conc φ)).toArray[0] else .tuple (vs.map (AV.conc φ)).toArray) = (oneOrTup vs).conc φ := by
  match vs with
  | [] => simp [oneOrTup, AV.conc, AV.concs]
  | [v] => simp [oneOrTup]
  | v :: u :: r => simp [oneOrTup, AV.conc, concs_eq]
theorem frame0_ok {φ : Phi} {n : Nat} {args : List AV} {m : Nat} (hn : args.length ≤ n) (hargs : ∀ x ∈ args, x.wf m) : FOk n φ (frame0 args) m { tmps := (args.map (AV.conc φ)).toArray ++ Array.replicate (n - (args.map (AV.conc φ)).toArray.size) undef, defers := [] } := by
  refine ⟨by simp; omega, fun i hi => ?_, fun i hi => ?_, rfl⟩
  · simp only [frame0]
    by_cases hia : i < args.length
    · rw [Array.getElem?_append_left (by simpa using hia)]
      simp [List.getD, hia]
    · rw [Array.getElem?_append_right (by simp; omega)]
      have : args[i]? = none := List.getElem?_eq_none (by omega)
      rw [List.getD, this, Array.getElem?_replicate, if_pos (by simp; omega)]
      simp [AV.conc, CV.conc]
  · simp only [frame0]
    by_cases hia : i < args.length
    · have : args.getD i undefA = args[i] := by simp [List.getD, hia]
      rw [this]
      exact hargs _ (List.getElem_mem hia)
    · have : args.getD i undefA = undefA := by simp [List.getD, List.getElem?_eq_none (show args.length ≤ i by omega)]
      rw [this]
      exact wf_c _ _
theorem acall_gen {g : Nat} {fn : Func} {c : Code} {args : List AV} {h : AH} {K : AV → AH → Prop} (hmo : P.follows .mixedOrders = true) (hf : P.funcs[g]? = some fn) (hbody : fn.body = some c) (hB : codeB fn.ntmps c = true) (hR : fnB fn = true) (hg : hasBody P g = true) (hn : args.length ≤ fn.ntmps)
    (Qp : AExit → AF → AH → Prop) (hret : ∀ base w0 φ w, Rep base w0 φ h w → ∀ f h', (Qp .normal f h' ∨ Qp .ret f h' → ARet P fn h.length K f h') ∧ ∀ id, ¬ Qp (.exit id) f h') (H : awp P c Qp (frame0 args) h) : ACalls P g args h K := by
  refine ⟨hg, fun base w0 φ w R hargs => ?_⟩
  refine calls_of_wp hf hbody ?_
  have F := frame0_ok (φ := φ) (n := fn.ntmps) hn hargs
  refine wp_mono (awp_sound (m0 := h.length) (φ0 := φ) (n := fn.ntmps) hmo c hB _ _ h φ _ w H R F (Nat.le_refl _) (fun _ _ => rfl)) ?_
  have fin : ∀ a' w', St base w0 φ h.length fn.ntmps (fun f h' => ARet P fn h.length K f h') a' w' → a'.defers = [] ∧ ∃ v, (results fn a'.tmps).run P w' = .ok v w' ∧
      ∃ r h' φ', Ending.returned v = .returned (r.conc φ') ∧ K r h' ∧ Rep base w0 φ' h' w' ∧ h.length ≤ h'.length ∧ (∀ l, l < h.length → φ' l = φ l) ∧ r.wf h'.length := by
    rintro a' w' ⟨f', h', φ', hret, R', F', hm', hag'⟩
    obtain ⟨vs, hvs, m, hm1, hm2, hw, hwo, hk⟩ := hret.elim
    have hres := run_res R' F' fn.results.toList vs (by simpa [fnB] using hR) hvs
    refine ⟨F'.defers, (oneOrTup vs).conc φ', ?_, oneOrTup vs, h'.take m, φ', rfl, hk, R'.take m hm2 hwo, by rw [List.length_take]; omega, hag', by rw [List.length_take, Nat.min_eq_left hm2]; exact hw⟩
    show ((do let vs ← fn.results.mapM (resSem a'.tmps); pure (if h : vs.size = 1 then vs[0] else .tuple vs)) : Sem Value).run P w' = _
    rw [Array.mapM_eq_mapM_toList]
    simp only [Sem.run_bind, Sem.run_map, hres, Result.andThen_ok, Sem.run_pure]
    rw [← one_conc]
  intro e a' w' hq
  cases e with
  | normal => exact fin a' w' (hq.mono fun f h' hh => (hret base w0 φ w R f h').1 (.inl hh))
  | ret => exact fin a' w' (hq.mono fun f h' hh => (hret base w0 φ w R f h').1 (.inr hh))
  | exit id => obtain ⟨f', h', _, hq, _⟩ := hq; exact absurd hq ((hret base w0 φ w R f' h').2 id)
  | _ => exact hq.elim
end
end Go.AL
