/- Walks of functions of the program and the laws they rest on (2 of 6). Conditions: none. -/
import Derived.ChangeArms
import Derived.Carry
import Derived.Lib.Overlaps
import Derived.Test.YtkndmncgohmjmaaGreatProg
import Derived.Test.YtkndmncgohmjmaaGreatM1
section
namespace Go.BL
open Go.RowKit
set_option linter.unusedVariables false
set_option linter.unusedSimpArgs false
inductive AExit where
  | normal
  | exit (id : Nat)
  | ret
theorem Br.intro {b : Bool} {x y : Unit → Prop} (h1 : b = true → x ()) (h2 : b = false → y ()) : Br b x y := by cases b; exact h2 rfl; exact h1 rfl
def AExit.then (N : AF → AH → Prop) (Q : AExit → AF → AH → Prop) : AExit → AF → AH → Prop
  | .normal, f, h => N f h
  | e, f, h => Q e f h
def AExit.inBlock (id : Nat) (Q : AExit → AF → AH → Prop) : AExit → AF → AH → Prop
  | .exit id', f, h => if id' = id then Q .normal f h else Q (.exit id') f h
  | e, f, h => Q e f h
/-! ### Steps that only tell anew -/
theorem grow2 {p p' p'' : Pl} (h : p' = p ∨ p.g < p'.g) (h' : p'' = p' ∨ p'.g < p''.g) : p'' = p ∨ p.g < p''.g := by
  rcases h with rfl | h <;> rcases h' with rfl | h'
  · exact .inl rfl
  · exact .inr h'
  · exact .inr h
  · exact .inr (Nat.lt_trans h h')
def Ghost (m : Nat) (f : AF) (h : AH) (f' : AF) (h' : AH) : Prop :=
  ∀ G φ M w, Rep G φ M h w → ∃ φ' M', Rep G φ' M' h' w ∧ MLe M M' ∧ (∀ l p, l < m → φ l = some p → ∃ p', φ' l = some p' ∧ (p' = p ∨ p.g < p'.g)) ∧ ∀ r u, VA φ M (f r) u → VA φ' M' (f' r) u
theorem Ghost.refl (m : Nat) (f : AF) (h : AH) : Ghost m f h f h := fun G φ M w R => ⟨φ, M, R, MLe.refl _, fun _ p _ h => ⟨p, h, .inl rfl⟩, fun _ _ h => h⟩
theorem Ghost.trans {m : Nat} {f f' f'' : AF} {h h' h'' : AH} (H : Ghost m f h f' h') (H' : Ghost m f' h' f'' h'') : Ghost m f h f'' h'' := fun G φ M w R => by
  obtain ⟨φ', M', R', hM, hp, hv⟩ := H G φ M w R
  obtain ⟨φ'', M'', R'', hM', hp', hv'⟩ := H' G φ' M' w R'
  exact ⟨φ'', M'', R'', hM.trans hM', fun l p hl h => let ⟨p', h1, h2⟩ := hp l p hl h; let ⟨p'', h3, h4⟩ := hp' l p' hl h1; ⟨p'', h3, grow2 h2 h4⟩, fun r u h => hv' r u (hv r u h)⟩
def GC (m : Nat) (N : AF → AH → Prop) (f : AF) (h : AH) : Prop := ∃ f' h', Ghost m f h f' h' ∧ N f' h'
theorem GC.now {m : Nat} {N : AF → AH → Prop} {f : AF} {h : AH} (H : N f h) : GC m N f h := ⟨f, h, Ghost.refl _ _ _, H⟩
theorem GC.mono {m : Nat} {N N' : AF → AH → Prop} (hn : ∀ f h, N f h → N' f h) {f : AF} {h : AH} (H : GC m N f h) : GC m N' f h := let ⟨f', h', g, k⟩ := H; ⟨f', h', g, hn _ _ k⟩
theorem GC.step {m : Nat} {N : AF → AH → Prop} {f f' : AF} {h h' : AH} (g : Ghost m f h f' h') (H : GC m N f' h') : GC m N f h := let ⟨f2, h2, g2, k⟩ := H; ⟨f2, h2, g.trans g2, k⟩
abbrev DS := List (Option Nat)
def gslot (ds : DS) (f : AF) (j : Nat) : AV := match ds[j]? with | some (some d) => f d | _ => undefA
def wantB (v : AV) (t : Bool) (x y : Unit → Prop) : Prop := match v with | .one (.c (.bool b)) => Br (b == t) x y | .one (.c .nilFunc) => y () | _ => v = undefA ∧ y ()
def wantA (ds : DS) (f : AF) (g : Option (Nat × Bool)) (x y : Unit → Prop) : Prop :=
  match g with
  | none => x ()
  | some (j, t) => wantB (gslot ds f j) t x y
def aops (P : Program) (ds : DS) : List Oper → (AF → AH → Prop) → AF → AH → Prop
  | [], K, f, h => K f h
  | o :: r, K, f, h => wantA ds f o.guard (fun _ => aop P o.op f h fun v h' => aops P ds r K (put f o.dst v) h') (fun _ => aops P ds r K (put f o.dst undefA) h)
def prAdd (v : AV × Option Nat) (h : AH) (pr : List (Nat × Option AO)) : List (Nat × Option AO) := match v.2 with
  | some l => (match h[l]? with | some (.own g t k cap es) => (l, if plainA v.1 = true then some (.own g t k cap es) else none) :: pr | _ => pr)
  | none => pr
def prOk (op : Op) (f : AF) (h' : AH) (p : Nat × Option AO) : Prop := match p.2 with
  | none => touchA op f p.1 = false
  | some ob => h'[p.1]? = some ob
def prOk0 (h' : AH) (p : Nat × Option AO) : Prop := match p.2 with
  | none => True
  | some ob => h'[p.1]? = some ob
def prOkF (q : List Nat) (h' : AH) (p : Nat × Option AO) : Prop := match p.2 with
  | none => (decide (p.1 ∈ q)) = false
  | some ob => h'[p.1]? = some ob
inductive Sch where
  | nil
  | cons (e : Nat × Bool × Bool) (r : Sch)
  | fork (x y : Sch)
def Sch.on : List (Nat × Bool × Bool) → Sch → Sch
  | [], t => t
  | e :: r, t => .cons e (Sch.on r t)
def Sch.depth : Sch → Nat
  | .nil => 0
  | .cons _ r => r.depth + 1
  | .fork x y => max x.depth y.depth
def Sch.takes (i : Nat) : Sch → Bool
  | .nil => false
  | .cons e r => (e.1 == i && e.2.1) || r.takes i
  | .fork x y => x.takes i || y.takes i
def Sch.heads : Sch → List Nat
  | .nil => []
  | .cons e _ => [e.1]
  | .fork x y => x.heads ++ y.heads
def allSy : Sch → Bool
  | .nil => true
  | .cons e r => (e.2.1 || e.2.2) && allSy r
  | .fork x y => allSy x && allSy y
def adraw (P : Program) (ds : DS) (ops : Array Oper) : Sch → (AF → AH → Prop) → AF → AH → List (Nat × Option AO) → Prop
  | .nil, K, f, h, _ => K f h
  | .fork x y, K, f, h, pr => adraw P ds ops x K f h pr ∧ adraw P ds ops y K f h pr
  | .cons (i, tk, sy) r, K, f, h, pr => match ops[i]? with
    | none => False
    | some o => match tk with
      | true => wantA ds f o.guard
          (fun _ => On (takeA P o.op f h) fun v => adraw P ds ops r K (put f o.dst v.1) h (prAdd v h pr))
          (fun _ => adraw P ds ops r K (put f o.dst undefA) h pr)
      | false => wantA ds f o.guard
          (fun _ => aop2 P o.op f h (fun v h' => ((sy && allSy r) = true ∨ ∀ p ∈ pr, prOk o.op f h' p) ∧ adraw P ds ops r K (put f o.dst v) h' pr) (fun v h' => ((sy && allSy r) = true ∨ ∀ p ∈ pr, prOk0 h' p) ∧ adraw P ds ops r K (put f o.dst v) h' pr) (fun q v h' => ((sy && allSy r) = true ∨ ∀ p ∈ pr, prOkF q h' p) ∧ adraw P ds ops r K (put f o.dst v) h' pr))
          (fun _ => ((sy && allSy r) = true ∨ ∀ p ∈ pr, prOk0 h p) ∧ adraw P ds ops r K (put f o.dst undefA) h pr)
def dsts (ops : Array Oper) : DS := ops.toList.map (·.dst)
def waits (ops : Array Oper) (j i : Nat) : Bool := match ops[j]? with | some o => o.after.any fun e => Region.binds .any e && e.on == i | none => false
inductive Dep (ops : Array Oper) : Nat → Nat → Prop
  | d {j i : Nat} (h : waits ops j i = true) : Dep ops j i
  | t {j k i : Nat} (h : waits ops j k = true) (h' : Dep ops k i) : Dep ops j i
def isLoad (ops : Array Oper) (i : Nat) : Bool := match ops[i]? with | some o => loadOp o.op | none => false
def reaches (ops : Array Oper) : Nat → Nat → Nat → Bool
  | 0, _, _ => false
  | n + 1, j, i => (List.range ops.size).any fun k => waits ops j k && (waits ops k i || reaches ops n k i)
theorem reaches_dep {ops : Array Oper} : ∀ {n j i : Nat}, reaches ops n j i = true → Dep ops j i
  | 0, _, _, h => by cases h
  | n + 1, j, i, h => by
    obtain ⟨k, _, hk⟩ := List.any_eq_true.1 h
    rw [Bool.and_eq_true, Bool.or_eq_true] at hk
    rcases hk.2 with q | q
    · exact .t hk.1 (.d q)
    · exact .t hk.1 (reaches_dep q)
theorem dep_or {ops : Array Oper} {n j i : Nat} (h : (waits ops j i || reaches ops n j i) = true) : Dep ops j i := (Bool.or_eq_true _ _ ▸ h).elim (fun q => .d q) reaches_dep
def schedGo (T : Nat → Bool) (ops : Array Oper) : Bool → Sch → Array Bool → List Nat → List Nat → Bool
  | solo, .nil, listed, _, _ => solo && (Region.ready .any ops listed).isEmpty
  | solo, .cons (i, tk, sy) r, listed, tks, sys => (Region.ready .any ops listed).contains i && (tk == T i) && (if tk then solo && Region.free .any ops listed i else !solo || Region.ready .any ops listed == [i]) && (!sy || (tks.all (fun t => waits ops i t || reaches ops 3 i t) || sys.any (waits ops i))) &&
      schedGo T ops true r (listed.setIfInBounds i true) (if tk && isLoad ops i then i :: tks else tks) (if tk && isLoad ops i then [] else if !tk && sy then i :: sys else sys)
  | solo, .fork x y, listed, tks, sys => (!solo || (Region.ready .any ops listed).all fun j => (x.heads ++ y.heads).contains j) && schedGo T ops false x listed tks sys && schedGo T ops false y listed tks sys
def schedOk (ops : Array Oper) (L : Sch) : Bool := Region.noSelect ops && decide (L.depth ≤ ops.size) && schedGo (fun i => L.takes i) ops true L (Array.replicate ops.size false) [] []
def closedL (ops : Array Oper) (listed : Array Bool) : Prop := ∀ k i, listed.getD k false = true → waits ops k i = true → listed.getD i false = true
theorem waits_ready {ops : Array Oper} {listed : Array Bool} {j i : Nat} (hj : j ∈ Region.ready .any ops listed) (hw : waits ops j i = true) : listed.getD i false = true := by
  obtain ⟨_, oj, hoj, hall⟩ := mem_ready.1 hj
  unfold waits at hw
  rw [hoj] at hw
  simp only [Array.any_eq_true] at hw
  obtain ⟨x, hx, he⟩ := hw
  simp only [Bool.and_eq_true, beq_iff_eq] at he
  rw [← he.2]
  exact hall _ (Array.getElem_mem hx) he.1
theorem closed_set {ops : Array Oper} {listed : Array Bool} {j : Nat} (hc : closedL ops listed) (hj : j ∈ Region.ready .any ops listed) : closedL ops (listed.setIfInBounds j true) := fun k i hk hw => by
  by_cases e : j = k
  · subst e; exact getD_set_true (waits_ready hj hw)
  · rw [getD_set_ne false e] at hk
    exact getD_set_true (hc k i hk hw)
theorem dep_listed {ops : Array Oper} {listed : Array Bool} (hc : closedL ops listed) {k i : Nat} (hd : Dep ops k i) (hk : listed.getD k false = true) : listed.getD i false = true := by
  induction hd with
  | d h => exact hc _ _ hk h
  | t h _ ih => exact ih (hc _ _ hk h)
theorem not_dep {ops : Array Oper} {listed : Array Bool} (hc : closedL ops listed) {j i : Nat} (hj : j ∈ Region.ready .any ops listed) (hi : i ∈ Region.ready .any ops listed) : ¬ Dep ops j i := fun hd => by
  have h1 : listed.getD i false = true := by
    cases hd with
    | d h => exact waits_ready hj h
    | t h h' => exact dep_listed hc h' (waits_ready hj h)
  have h0 := (mem_ready.1 hi).1
  rcases Nat.lt_or_ge i listed.size with h' | h'
  · simp [h'] at h0 h1; rw [h0] at h1; cases h1
  · simp [Array.getElem?_eq_none h'] at h1
def awp (P : Program) (m : Nat) : Code → (AExit → AF → AH → Prop) → AF → AH → Prop
  | .skip, Q, f, h => Q .normal f h
  | .region _ ops false, Q, f, h => aops P (dsts ops) ops.toList (Q .normal) f h
  | .region _ ops true, Q, f, h => ∃ L, schedOk ops L = true ∧ adraw P (dsts ops) ops L (Q .normal) f h []
  | .seq x y, Q, f, h => awp P m x (AExit.then (fun f h => awp P m y Q f h) Q) f h
  | .cond c x y, Q, f, h => (match ev f c with | .one (.c (.bool b)) => Br b (fun _ => awp P m x Q f h) (fun _ => awp P m y Q f h) | _ => False)
  | .block id b, Q, f, h => awp P m b (AExit.inBlock id Q) f h
  | .loop b, Q, f, h => ∃ (I : Nat → AF → AH → Prop) (k : Nat), GC m (I k) f h ∧ ∀ k f h, I k f h → awp P m b (AExit.then (GC m fun f' h' => ∃ k', k' < k ∧ I k' f' h') Q) f h
  | .exit id, Q, f, h => Q (.exit id) f h
  | .ret, Q, f, h => Q .ret f h
  | _, _, _, _ => False
def opndB (n : Nat) : Operand → Bool
  | .tmp t => t < n
  | _ => true
def operB (n : Nat) (o : Oper) : Bool := o.op.operands.all (opndB n) && (match o.dst with | some d => decide (d < n) | none => true)
def codeB (n : Nat) : Code → Bool
  | .region _ ops _ => ops.all (operB n)
  | .seq x y => codeB n x && codeB n y
  | .cond c x y => opndB n c && codeB n x && codeB n y
  | .block _ b => codeB n b
  | .loop b => codeB n b
  | _ => true
section
variable {P : Program} {G : Cx} {φ0 : Phi} {m n : Nat}
def St (G : Cx) (φ0 : Phi) (n : Nat) (N : AF → AH → Prop) (a : Act) (w : World) : Prop :=
  ∃ f h φ M, N f h ∧ Rep G φ M h w ∧ FOk n φ M f a ∧ Le φ0 φ
theorem St.mono {N N' : AF → AH → Prop} {a : Act} {w : World} (H : St G φ0 n N a w) (hn : ∀ f h, N f h → N' f h) : St G φ0 n N' a w :=
  let ⟨f, h, φ, M, k, r⟩ := H; ⟨f, h, φ, M, hn f h k, r⟩
theorem St.ghost (h0 : ∀ l p, φ0 l = some p → l < m) {N : AF → AH → Prop} {a : Act} {w : World} (H : St G φ0 n (GC m N) a w) : St G φ0 n N a w := by
  obtain ⟨f, h, φ, M, ⟨f', h', g, k⟩, R, F, hle⟩ := H
  obtain ⟨φ', M', R', hM, hp, hv⟩ := g G φ M w R
  refine ⟨f', h', φ', M', k, R', ⟨F.size, fun i hi => ?_, F.defers⟩, fun l p hl => ?_⟩
  · obtain ⟨u, h1, h2⟩ := F.val i hi
    exact ⟨u, h1, hv _ _ h2⟩
  · obtain ⟨p', h1, h2⟩ := hle l p hl
    obtain ⟨p'', h3, h4⟩ := hp l p' (h0 l p hl) h1
    exact ⟨p'', h3, grow2 h2 h4⟩
def QQ (G : Cx) (φ0 : Phi) (n : Nat) (Q : AExit → AF → AH → Prop) : Exit → Act → World → Prop
  | .normal, a, w => St G φ0 n (Q .normal) a w
  | .exit id, a, w => St G φ0 n (Q (.exit id)) a w
  | .ret, a, w => St G φ0 n (Q .ret) a w
  | _, _, _ => False
theorem FOk.put {φ : Phi} {M : Im} {f : AF} {a : Act} (F : FOk n φ M f a) {dst : Option Nat} (hd : ∀ d, dst = some d → d < n) {v : AV} {u : Value} (hv : VA φ M v u) : FOk n φ M (put f dst v) (a.put dst u) := by
  cases dst with
  | none => exact F
  | some d =>
    have hd := hd d rfl
    refine ⟨by simp [Act.put, F.size], fun i hi => ?_, F.defers⟩
    simp only [Act.put, BL.put, upd]
    by_cases e : i = d
    · subst e; exact ⟨u, by simp [F.size, hi], by rw [if_pos rfl]; exact hv⟩
    · obtain ⟨u', h1, h2⟩ := F.val i hi
      exact ⟨u', by rw [Array.getElem?_setIfInBounds_ne (Ne.symm e)]; exact h1, by rw [if_neg e]; exact h2⟩
theorem want_spec {ops : Array Oper} {φ : Phi} {M : Im} {f : AF} {a : Act} (F : FOk n φ M f a) (hB : ops.all (operB n) = true) (o : Oper) {x y : Unit → Prop} (H : wantA (dsts ops) f o.guard x y) :
    (Region.wanted o (yielded ops a.tmps) = true ∧ x ()) ∨ (Region.wanted o (yielded ops a.tmps) = false ∧ y ()) := by
  unfold wantA at H
  unfold Region.wanted
  split at H
  · rename_i hg
    rw [hg]
    exact .inl ⟨rfl, H⟩
  · rename_i j t hg
    rw [hg]
    simp only [yielded]
    have hds : (dsts ops)[j]? = (ops[j]?).map (·.dst) := by unfold dsts; rw [List.getElem?_map, Array.getElem?_toList]
    unfold gslot at H
    rw [hds] at H
    have hu : ∀ x y : Unit → Prop, wantB undefA t x y → y () := fun x y hh => by
      unfold wantB undefA at hh
      first | exact hh | exact hh.2
    cases hoj : ops[j]? with
    | none =>
      rw [hoj] at H
      simp only [Option.map_none] at H
      exact .inr ⟨rfl, hu _ _ H⟩
    | some oj =>
      rw [hoj] at H
      simp only [Option.map_some] at H
      cases hd : oj.dst with
      | none =>
        rw [hd] at H
        simp only at H
        simp only [Option.bind_some, hd, Option.bind_none]
        exact .inr ⟨rfl, hu _ _ H⟩
      | some d =>
        rw [hd] at H
        simp only at H
        have hdn : d < n := by
          have := (Array.all_eq_true.1 hB) j (Array.getElem?_eq_some_iff.1 hoj).1
          rw [(Array.getElem?_eq_some_iff.1 hoj).2] at this
          simp only [operB, hd, Bool.and_eq_true, decide_eq_true_eq] at this
          exact this.2
        obtain ⟨u, hv, hu2⟩ := F.val d hdn
        simp only [Option.bind_some, hd, hv]
        unfold wantB at H
        split at H
        · rename_i b hfd
          rw [hfd] at hu2
          have := VA_c hu2
          subst this
          cases b <;> cases t <;> first | exact .inl ⟨rfl, H⟩ | exact .inr ⟨rfl, H⟩
        · rename_i hfd
          rw [hfd] at hu2
          have := VA_c hu2
          subst this
          exact .inr ⟨rfl, H⟩
        · obtain ⟨hfd, H⟩ := H
          rw [hfd] at hu2
          have := VA_c hu2
          subst this
          exact .inr ⟨rfl, H⟩
theorem oper_bnd {o : Oper} (h : operB n o = true) : (∀ t, Operand.tmp t ∈ o.op.operands → t < n) ∧ ∀ d, o.dst = some d → d < n := by
  unfold operB at h
  rw [Bool.and_eq_true] at h
  refine ⟨fun t ht => ?_, fun d hd => ?_⟩
  · have := (Array.all_eq_true_iff_forall_mem.1 h.1) _ ht
    simpa [opndB] using this
  · have := h.2
    rw [hd] at this
    simpa using this
theorem wpOp_of {ops : Array Oper} (hB : ops.all (operB n) = true) {i : Nat} {o : Oper} (hi : ops[i]? = some o) {Q : Exit → Act → World → Prop} {Kc : Act → World → Prop} {K1 : AV → AH → Prop} {K2 : Prop} {f : AF} {h : AH} {φ : Phi} {M : Im} {a : Act} {w : World}
    (R : Rep G φ M h w) (F : FOk n φ M f a) (H : wantA (dsts ops) f o.guard (fun _ => aop P o.op f h K1) (fun _ => K2))
    (h1 : ∀ v u h' φ' M' w', K1 v h' → Rep G φ' M' h' w' → Le φ φ' → MLe M M' → FOk n φ' M' (put f o.dst v) (a.put o.dst u) → Kept (fun l => touchA o.op f l) φ φ' h h' w w' → Kc (a.put o.dst u) w')
    (h2 : K2 → FOk n φ M (put f o.dst undefA) (a.put o.dst undef) → Kc (a.put o.dst undef) w) : wpOp P ops Q i Kc a w := by
  have hob : operB n o = true := by
    have := (Array.all_eq_true.1 hB) i (Array.getElem?_eq_some_iff.1 hi).1
    rwa [(Array.getElem?_eq_some_iff.1 hi).2] at this
  obtain ⟨b1, b2⟩ := oper_bnd hob
  unfold wpOp
  simp only [hi]
  rcases want_spec F hB o H with ⟨hw, H⟩ | ⟨hw, H⟩
  · rw [if_pos hw]
    refine .inl (aop_sound (S := fun l => touchA o.op f l) o R F b1 H (fun l hl => hl) ?_)
    intro v u h' φ' M' w' hk R' hle hM hv hK
    exact h1 v u h' φ' M' w' hk R' hle hM ((F.mono hle hM).put b2 hv) hK
  · rw [hw]
    exact h2 H (F.put (v := undefA) b2 (mk_c _))
theorem wpOp_of2 {ops : Array Oper} (hB : ops.all (operB n) = true) {i : Nat} {o : Oper} (hi : ops[i]? = some o) {Q : Exit → Act → World → Prop} {Kc : Act → World → Prop} {K1 K1l : AV → AH → Prop} {K1f : List Nat → AV → AH → Prop} {K2 : Prop} {f : AF} {h : AH} {φ : Phi} {M : Im} {a : Act} {w : World}
    (R : Rep G φ M h w) (F : FOk n φ M f a) (H : wantA (dsts ops) f o.guard (fun _ => aop2 P o.op f h K1 K1l K1f) (fun _ => K2))
    (h1 : ∀ v u h' φ' M' w', K1 v h' → Rep G φ' M' h' w' → Le φ φ' → MLe M M' → FOk n φ' M' (put f o.dst v) (a.put o.dst u) → Kept (fun l => touchA o.op f l) φ φ' h h' w w' → Kc (a.put o.dst u) w')
    (h1l : ∀ v u h' φ' M' w', K1l v h' → Rep G φ' M' h' w' → Le φ φ' → MLe M M' → FOk n φ' M' (put f o.dst v) (a.put o.dst u) → Kept (fun _ => false) φ φ' h h' w w' → Kc (a.put o.dst u) w')
    (h1f : ∀ (q : List Nat) v u h' φ' M' w', K1f q v h' → Rep G φ' M' h' w' → Le φ φ' → MLe M M' → FOk n φ' M' (put f o.dst v) (a.put o.dst u) → Kept (fun l => decide (l ∈ q)) φ φ' h h' w w' → Kc (a.put o.dst u) w')
    (h2 : K2 → FOk n φ M (put f o.dst undefA) (a.put o.dst undef) → Kc (a.put o.dst undef) w) : wpOp P ops Q i Kc a w := by
  have hob : operB n o = true := by
    have := (Array.all_eq_true.1 hB) i (Array.getElem?_eq_some_iff.1 hi).1
    rwa [(Array.getElem?_eq_some_iff.1 hi).2] at this
  obtain ⟨b1, b2⟩ := oper_bnd hob
  unfold wpOp
  simp only [hi]
  rcases want_spec F hB o H with ⟨hw, H⟩ | ⟨hw, H⟩
  · rw [if_pos hw]
    refine .inl (aop2_sound (S := fun l => touchA o.op f l) o R F b1 H (fun l hl => hl) ?_ ?_ ?_)
    · intro v u h' φ' M' w' hk R' hle hM hv hK
      exact h1 v u h' φ' M' w' hk R' hle hM ((F.mono hle hM).put b2 hv) hK
    · intro v u h' φ' M' w' hk R' hle hM hv hK
      exact h1l v u h' φ' M' w' hk R' hle hM ((F.mono hle hM).put b2 hv) hK
    · intro q v u h' φ' M' w' hk R' hle hM hv hK
      exact h1f q v u h' φ' M' w' hk R' hle hM ((F.mono hle hM).put b2 hv) hK
  · rw [hw]
    exact h2 H (F.put (v := undefA) b2 (mk_c _))
theorem aops_sound {ops : Array Oper} (hB : ops.all (operB n) = true) {Q : Exit → Act → World → Prop} {N : AF → AH → Prop} (hQ : ∀ a w, St G φ0 n N a w → Q .normal a w) :
    ∀ (k : Nat) (l : List Oper), l = ops.toList.drop k → ∀ (f : AF) (h : AH) (φ : Phi) (M : Im) (a : Act) (w : World), aops P (dsts ops) l N f h → Rep G φ M h w → FOk n φ M f a → Le φ0 φ →
      wpOps P ops Q (List.range' k (ops.size - k)) a w := by
  intro k l
  induction l generalizing k with
  | nil =>
    intro hl f h φ M a w H R F hle
    have : ops.size ≤ k := by
      have := congrArg List.length hl
      simp at this
      omega
    rw [show ops.size - k = 0 by omega]
    exact hQ a w ⟨f, h, φ, M, H, R, F, hle⟩
  | cons o r ih =>
    intro hl f h φ M a w H R F hle
    have hk : k < ops.size := by
      have := congrArg List.length hl
      simp at this
      omega
    have hcons : ops.toList.drop k = ops[k] :: ops.toList.drop (k + 1) := by
      rw [List.drop_eq_getElem_cons (by simpa using hk)]
      simp
    rw [hcons] at hl
    injection hl with ho hr
    have hi : ops[k]? = some o := by rw [Array.getElem?_eq_getElem hk, ho]
    rw [show ops.size - k = (ops.size - (k + 1)) + 1 by omega, List.range'_succ, wpOps_cons]
    simp only [aops] at H
    refine wpOp_of hB hi R F H (fun v u h' φ' M' w' hk' R' hle' hM' F' _ => ?_) (fun hk2 F' => ?_)
    · exact ih (k + 1) hr _ _ _ _ _ _ hk' R' F' (hle.trans hle')
    · exact ih (k + 1) hr _ _ _ _ _ _ hk2 R F' hle
/-! ### A region whose order is open -/
def wpAnyS (P : Program) (T : Nat → Bool) (ops : Array Oper) (Q : Exit → Act → World → Prop) (S : Nat → World → Prop) : Nat → Array Bool → Act → World → Prop
  | 0, listed, a, w => Region.ready .any ops listed = [] ∧ Q .normal a w
  | fuel + 1, listed, a, w =>
    (Region.ready .any ops listed = [] → Q .normal a w) ∧
    ∀ i ∈ Region.ready .any ops listed, wpOp P ops Q i (fun a' w' => (if T i = true then w' = w else S i w') ∧ wpAnyS P T ops Q S fuel (listed.setIfInBounds i true) a' w') a w
theorem wpAny_of_S {T : Nat → Bool} {ops : Array Oper} {Q : Exit → Act → World → Prop} {S : Nat → World → Prop} : ∀ (fuel : Nat) (listed : Array Bool) (a : Act) (w : World), wpAnyS P T ops Q S fuel listed a w → wpAny P .any ops Q fuel listed a w
  | 0, _, _, _, h => h
  | fuel + 1, _, _, _, h => ⟨h.1, fun i hi => wpOp_mono (fun a' w' h' => wpAny_of_S fuel _ a' w' h'.2) (h.2 i hi)⟩
theorem wpAnyS_first {T : Nat → Bool} {ops : Array Oper} {Q : Exit → Act → World → Prop} {F : World → Prop} {i : Nat} {oi : Oper} {v : Value} (hi : ops[i]? = some oi) (hsel : ∀ (j : Nat) (o : Oper) cs b, ops[j]? = some o → o.op ≠ .select cs b)
    (hQ : ∀ c a w, Q (.panic c) (a.put oi.dst v) w → Q (.panic c) a w) (hT : T i = true) (S : Nat → World → Prop) :
    ∀ (fuel : Nat) (listed : Array Bool) (a : Act) (w : World),
      closedL ops listed → (∀ j oj, ops[j]? = some oj → j ≠ i → listed.getD j true = false → (∀ e ∈ oj.after, Region.binds .any e = true → e.on ≠ i) → oi.apart ops oj = true) →
      i ∈ Region.ready .any ops listed → YieldsIf P ops F oi v a → F w →
      wpAnyS P T ops Q (fun j w' => S j w' ∧ (¬ Dep ops j i → F w')) fuel (listed.setIfInBounds i true) (a.put oi.dst v) w → wpAnyS P T ops Q S (fuel + 1) listed a w := by
  have drop : ∀ (fuel : Nat) (listed : Array Bool) (a : Act) (w : World), wpAnyS P T ops Q (fun j w' => S j w' ∧ (¬ Dep ops j i → F w')) fuel listed a w → wpAnyS P T ops Q S fuel listed a w := by
    intro fuel
    induction fuel with
    | zero => intro _ _ _ h; exact h
    | succ fuel ih =>
      intro listed a w h
      refine ⟨h.1, fun k hk => wpOp_mono (fun a' w' h' => ⟨?_, ih _ _ _ h'.2⟩) (h.2 k hk)⟩
      have := h'.1
      split at this
      · rename_i ht; rw [if_pos ht]; exact this
      · rename_i ht; rw [if_neg ht]; exact this.1
  intro fuel
  induction fuel with
  | zero =>
    intro listed a w _ _ hr hy hF H
    refine ⟨fun h => (by rw [h] at hr; cases hr), fun j hj => ?_⟩
    by_cases hji : j = i
    · subst hji; exact hy.wpOp hi hF ⟨by rw [if_pos hT], ⟨H.1, H.2⟩⟩
    · have := ready_mono hj hji
      rw [H.1] at this
      cases this
  | succ fuel ih =>
    intro listed a w hcl hfree hr hy hF H
    refine ⟨fun h => (by rw [h] at hr; cases hr), fun j hj => ?_⟩
    by_cases hji : j = i
    · subst hji
      exact hy.wpOp hi hF ⟨by rw [if_pos hT], drop _ _ _ _ H⟩
    · have h1 := H.2 j (ready_mono hj hji)
      obtain ⟨hjun, oj, hoj, hall⟩ := mem_ready.1 hj
      have hnot : ∀ e ∈ oj.after, Region.binds .any e = true → e.on ≠ i := fun e he hb heq => by
        have h1 := hall e he hb
        have h0 := (mem_ready.1 hr).1
        rw [heq] at h1
        rcases Nat.lt_or_ge i listed.size with h' | h'
        · simp [h'] at h0 h1; rw [h0] at h1; cases h1
        · simp [Array.getElem?_eq_none h'] at h1
      have hwait : ¬ Dep ops j i := not_dep hcl hj hr
      have h2 := wpOp_putIf hoj (hfree j oj hoj hji hjun hnot) (fun cs b => hsel i oi cs b hi) (fun cs b => hsel j oj cs b hoj) hQ hy h1
      have hfree' : ∀ k ok, ops[k]? = some ok → k ≠ i → (listed.setIfInBounds j true).getD k true = false →
          (∀ e ∈ ok.after, Region.binds .any e = true → e.on ≠ i) → oi.apart ops ok = true := fun k ok hk hki hun hno => by
        refine hfree k ok hk hki ?_ hno
        by_cases hjk : j = k
        · subst hjk; exact hjun
        · rw [getD_set_ne true hjk] at hun; exact hun
      refine wpOp_mono (fun a' w' h3 => ?_) h2
      obtain ⟨hy', hc, hrec⟩ := h3
      have hFw : F w' := by
        split at hc
        · rw [hc]; exact hF
        · exact hc.2 hwait
      refine ⟨?_, ih (listed.setIfInBounds j true) a' w' (closed_set hcl hj) hfree' (ready_mono hr (Ne.symm hji)) hy' hFw ?_⟩
      · split at hc
        · rename_i ht; rw [if_pos ht]; exact hc
        · rename_i ht; rw [if_neg ht]; exact hc.1
      · rw [Array.setIfInBounds_comm _ _ hji]
        exact hrec
def Ent (φ : Phi) (h : AH) (w : World) (p : Nat × Option AO) (Hf : World → Prop) : Prop := match p.2 with
  | none => ∃ pl, Own φ h p.1 pl ∧ ∀ w' : World, w'.heap[pl.b]? = w.heap[pl.b]? → Hf w'
  | some ob => ∀ G' φ' M' h' w', Rep G' φ' M' h' w' → Le φ φ' → h'[p.1]? = some ob → Hf w'
def Ents (φ : Phi) (h : AH) (w : World) : List (Nat × Option AO) → List (World → Prop) → Prop
  | [], [] => True
  | p :: r, Hf :: s => Ent φ h w p Hf ∧ Ents φ h w r s
  | _, _ => False
theorem Ents.of {φ : Phi} {h : AH} {w : World} : ∀ {pr : List (Nat × Option AO)} {hs : List (World → Prop)}, Ents φ h w pr hs → ∀ Hf, Hf ∈ hs → ∃ p, p ∈ pr ∧ Ent φ h w p Hf
  | [], [], _, Hf, hm => by cases hm
  | p :: r, H :: s, E, Hf, hm => by
    rcases List.mem_cons.1 hm with rfl | hm
    · exact ⟨p, by simp, E.1⟩
    · obtain ⟨q, hq, e⟩ := Ents.of E.2 Hf hm
      exact ⟨q, by simp [hq], e⟩
  | [], _ :: _, E, _, _ => E.elim
  | _ :: _, [], E, _, _ => E.elim
theorem Ents.move {φ φ' : Phi} {h h' : AH} {w w' : World} : ∀ {pr : List (Nat × Option AO)} {hs : List (World → Prop)}, Ents φ h w pr hs → (∀ p, p ∈ pr → ∀ Hf, Ent φ h w p Hf → Ent φ' h' w' p Hf) → Ents φ' h' w' pr hs
  | [], [], _, _ => trivial
  | p :: r, H :: s, E, hm => ⟨hm p (by simp) H E.1, Ents.move E.2 fun q hq => hm q (by simp [hq])⟩
  | [], _ :: _, E, _ => E.elim
  | _ :: _, [], E, _ => E.elim
def goalS (P : Program) (T : Nat → Bool) (ops : Array Oper) (Q : Exit → Act → World → Prop) (S : Nat → World → Prop) (solo : Bool) (L : Sch) (fuel : Nat) (listed : Array Bool) (a : Act) (w : World) : Prop := match solo with
  | true => wpAnyS P T ops Q S fuel listed a w
  | false => ∃ q, fuel = q + 1 ∧ ∀ j, j ∈ L.heads → wpOp P ops Q j (fun a' w' => (if T j = true then w' = w else S j w') ∧ wpAnyS P T ops Q S q (listed.setIfInBounds j true) a' w') a w
theorem sched_ready {T : Nat → Bool} {ops : Array Oper} {listed : Array Bool} {tks sys : List Nat} : ∀ {x : Sch}, schedGo T ops false x listed tks sys = true → ∃ j, j ∈ Region.ready .any ops listed
  | .nil, h => by simp [schedGo] at h
  | .cons (i, tk, sy) r, h => by
    simp only [schedGo, Bool.and_eq_true] at h
    exact ⟨i, by simpa using h.1.1.1.1⟩
  | .fork x y, h => by
    simp only [schedGo, Bool.and_eq_true] at h
    exact sched_ready h.1.2
theorem adraw_sound {T : Nat → Bool} {ops : Array Oper} (hB : ops.all (operB n) = true) (hns : Region.noSelect ops = true) {Q : Exit → Act → World → Prop} (hQp : ∀ c a w, ¬ Q (.panic c) a w) {N : AF → AH → Prop} (hQ : ∀ a w, St G φ0 n N a w → Q .normal a w) :
    ∀ (L : Sch) (solo : Bool) (listed : Array Bool) (tks sys : List Nat) (pr : List (Nat × Option AO)) (hs : List (World → Prop)) (f : AF) (h : AH) (φ : Phi) (M : Im) (a : Act) (w : World) (S : Nat → World → Prop) (fuel : Nat), schedGo T ops solo L listed tks sys = true → closedL ops listed → (∀ k ∈ sys, ∀ i ∈ tks, Dep ops k i) → L.depth ≤ fuel →
      adraw P (dsts ops) ops L N f h pr → Rep G φ M h w → FOk n φ M f a → Le φ0 φ → (allSy L = true ∨ Ents φ h w pr hs) →
      (∀ j w', ((∀ i ∈ tks, Dep ops j i) ∨ (ImOk M w' ∧ ∀ Hf, Hf ∈ hs → Hf w')) → S j w') → goalS P T ops Q S solo L fuel listed a w
  | .nil, solo, listed, tks, sys, pr, hs, f, h, φ, M, a, w, S, fuel, hsch, _, _, _, H, R, F, hle, hE, hS => by
    simp only [schedGo, Bool.and_eq_true] at hsch
    obtain ⟨rfl, hsch⟩ := hsch
    have hr : Region.ready .any ops listed = [] := by simpa using hsch
    have hq := hQ a w ⟨f, h, φ, M, H, R, F, hle⟩
    cases fuel with
    | zero => exact ⟨hr, hq⟩
    | succ fuel => exact ⟨fun _ => hq, by rw [hr]; simp⟩
  | .cons (i, tk, sy) r, solo, listed, tks, sys, pr, hs, f, h, φ, M, a, w, S, fuel, hsch, hcl, hss, hfuel, H, R, F, hle, hE, hS => by
    simp only [schedGo, Bool.and_eq_true] at hsch
    obtain ⟨⟨⟨⟨hr, ht⟩, hfr⟩, hsy⟩, hgo⟩ := hsch
    have hri : i ∈ Region.ready .any ops listed := by simpa using hr
    have htk : tk = T i := by simpa using ht
    obtain ⟨fuel, rfl⟩ : ∃ q, fuel = q + 1 := ⟨fuel - 1, by simp only [Sch.depth] at hfuel; omega⟩
    have himok : ImOk M w := fun a v q => (R.imm a v q).1
    simp only [adraw] at H
    split at H
    · exact H.elim
    · rename_i o hi
      have hob : operB n o = true := by
        have := (Array.all_eq_true.1 hB) i (Array.getElem?_eq_some_iff.1 hi).1
        rwa [(Array.getElem?_eq_some_iff.1 hi).2] at this
      obtain ⟨b1, b2⟩ := oper_bnd hob
      cases tk with
      | true =>
        simp only [if_true, Bool.and_eq_true] at hfr hgo
        obtain ⟨rfl, hfr⟩ := hfr
        show wpAnyS P T ops Q S (fuel + 1) listed a w
        have hsel := Region.noSelect_spec hns
        rcases want_spec F hB o H with ⟨hw, H⟩ | ⟨hw, H⟩
        · obtain ⟨⟨v, ol⟩, hv, H⟩ := H.elim
          obtain ⟨u, Hf, tk⟩ := takeA_run o R F b1 hv
          refine wpAnyS_first (F := Hf) (v := u) hi hsel (fun c a w hp => absurd hp (hQp c _ w)) htk.symm S fuel listed a w hcl (Region.free_spec hi hfr) hri (.inl ⟨hw, tk.run⟩) tk.now ?_
          -- with, or without, an entry of its own
          have go : ∀ hs', (allSy r = true ∨ Ents φ h w (prAdd (v, ol) h pr) hs') → (∀ w', ImOk M w' → (∀ H', H' ∈ hs' → H' w') → Hf w' ∧ ∀ H', H' ∈ hs → H' w') → wpAnyS P T ops Q (fun j w' => S j w' ∧ (¬ Dep ops j i → Hf w')) fuel (listed.setIfInBounds i true) (a.put o.dst u) w := by
            intro hs' hE' himp
            cases hld : isLoad ops i with
            | true =>
              simp only [hld, Bool.and_self, if_true] at hgo
              refine adraw_sound hB hns hQp hQ r true _ (i :: tks) [] _ hs' _ _ φ M _ _ _ fuel hgo (closed_set hcl hri) (fun k hk => by cases hk) (by simp only [Sch.depth] at hfuel; omega) H R (F.put b2 tk.val) hle hE' (fun j w' hc => ?_)
              rcases hc with hc | ⟨hc1, hc2⟩
              · exact ⟨hS j w' (.inl fun i' hi' => hc i' (List.mem_cons_of_mem _ hi')), fun hw' => absurd (hc i (by simp)) hw'⟩
              · obtain ⟨h1, h2⟩ := himp w' hc1 hc2
                exact ⟨hS j w' (.inr ⟨hc1, h2⟩), fun _ => h1⟩
            | false =>
              simp only [hld, Bool.and_false, Bool.false_eq_true, if_false, Bool.not_true, Bool.false_and] at hgo
              have hall : ∀ w', Hf w' := tk.free (by unfold isLoad at hld; rw [hi] at hld; exact hld)
              refine adraw_sound hB hns hQp hQ r true _ tks sys _ hs' _ _ φ M _ _ _ fuel hgo (closed_set hcl hri) hss (by simp only [Sch.depth] at hfuel; omega) H R (F.put b2 tk.val) hle hE' (fun j w' hc => ?_)
              rcases hc with hc | ⟨hc1, hc2⟩
              · exact ⟨hS j w' (.inl hc), fun _ => hall w'⟩
              · obtain ⟨h1, h2⟩ := himp w' hc1 hc2
                exact ⟨hS j w' (.inr ⟨hc1, h2⟩), fun _ => h1⟩
          have hE2 : allSy r = true ∨ Ents φ h w pr hs := hE.imp (fun q => by simpa [allSy] using q) id
          cases ol with
          | none => exact go hs hE2 (fun w' h1 h2 => ⟨tk.none rfl w' h1, h2⟩)
          | some l =>
            obtain ⟨ob, hl, t0, t1, t2, t3⟩ := tk.strong l rfl
            cases ob with
            | dead => exact go hs (by simp only [prAdd, hl]; exact hE2) (fun w' h1 h2 => ⟨t1 rfl w' h1, h2⟩)
            | ro _ _ _ _ => exact go hs (by simp only [prAdd, hl]; exact hE2) (fun w' h1 h2 => ⟨t1 rfl w' h1, h2⟩)
            | own g t k cap es =>
              obtain ⟨pl, hpl, hpg, _⟩ := R.own_p hl
              by_cases hpv : plainA v = true
              · refine go (Hf :: hs) ?_ (fun w' h1 h2 => ⟨h2 Hf (by simp), fun H' hm => h2 H' (by simp [hm])⟩)
                simp only [prAdd, hl, hpv, if_true]
                exact hE2.imp id fun q => ⟨t3 hpv, q⟩
              · cases hvir : pl.vir with
                | false =>
                  refine go (Hf :: hs) ?_ (fun w' h1 h2 => ⟨h2 Hf (by simp), fun H' hm => h2 H' (by simp [hm])⟩)
                  simp only [prAdd, hl, hpv]
                  have ho : Own φ h l pl := ⟨_, _, _, _, _, hl, hpl, hvir⟩
                  exact hE2.imp id fun q => ⟨⟨pl, ho, t2 pl ho⟩, q⟩
                | true => have := t0 pl hpl; rw [hvir] at this; cases this
        · refine wpAnyS_first (F := fun _ => True) (v := undef) hi hsel (fun c a w hp => absurd hp (hQp c _ w)) htk.symm S fuel listed a w hcl (Region.free_spec hi hfr) hri (.inr ⟨hw, rfl⟩) trivial ?_
          cases hld : isLoad ops i with
          | true =>
            simp only [hld, Bool.and_self, if_true] at hgo
            refine adraw_sound hB hns hQp hQ r true _ (i :: tks) [] pr hs _ _ φ M _ _ _ fuel hgo (closed_set hcl hri) (fun k hk => by cases hk) (by simp only [Sch.depth] at hfuel; omega) H R (F.put (v := undefA) b2 (mk_c _)) hle (hE.imp (fun q => by simpa [allSy] using q) id) (fun j w' hc => ⟨hS j w' ?_, fun _ => trivial⟩)
            rcases hc with hc | hc
            · exact .inl fun i' hi' => hc i' (List.mem_cons_of_mem _ hi')
            · exact .inr hc
          | false =>
            simp only [hld, Bool.and_false, Bool.false_eq_true, if_false, Bool.not_true, Bool.false_and] at hgo
            exact adraw_sound hB hns hQp hQ r true _ tks sys pr hs _ _ φ M _ _ _ fuel hgo (closed_set hcl hri) hss (by simp only [Sch.depth] at hfuel; omega) H R (F.put (v := undefA) b2 (mk_c _)) hle (hE.imp (fun q => by simpa [allSy] using q) id) (fun j w' hc => ⟨hS j w' hc, fun _ => trivial⟩)
      | false =>
        simp only [Bool.false_eq_true, if_false, Bool.false_and, Bool.not_false, Bool.true_and, false_and, true_and] at hfr hgo H
        have body : ∀ j, j = i → wpOp P ops Q j (fun a' w' => (if T j = true then w' = w else S j w') ∧ wpAnyS P T ops Q S fuel (listed.setIfInBounds j true) a' w') a w := by
         intro j hj
         obtain rfl := hj
         have hdep : sy = true → ∀ i' ∈ tks, Dep ops j i' := fun e i' hi' => by
           subst e
           simp only [Bool.not_true, Bool.false_or, Bool.or_eq_true] at hsy
           rcases hsy with hsy | hsy
           · exact dep_or ((List.all_eq_true.1 hsy) i' hi')
           · obtain ⟨k, hk, hw⟩ := List.any_eq_true.1 hsy
             exact .t hw (hss k hk i' hi')
         have hss' : ∀ k ∈ (if sy = true then j :: sys else sys), ∀ i' ∈ tks, Dep ops k i' := fun k hk => by
           cases sy with
           | true =>
             rcases List.mem_cons.1 hk with rfl | hk
             · exact hdep rfl
             · exact hss k hk
           | false => exact hss k hk
         have hcl' := closed_set hcl hri
         refine wpOp_of2 hB hi R F H (fun v u h' φ' M' w' hk R' hle' hM F' hK => ?_) (fun v u h' φ' M' w' hk R' hle' hM F' hK => ?_) (fun qf v u h' φ' M' w' hk R' hle' hM F' hK => ?_) (fun hk F' => ?_)
         · obtain ⟨hp, hk⟩ := hk
           have hE2 : (sy && allSy r) = true ∨ Ents φ h w pr hs := hE.imp (fun q => by simpa [allSy] using q) id
           have syc : (sy && allSy r) = true → ((if T j = true then w' = w else S j w') ∧ wpAnyS P T ops Q S fuel (listed.setIfInBounds j true) (a.put o.dst u) w') := by
             intro hq
             rw [Bool.and_eq_true] at hq
             obtain ⟨hq1, hq2⟩ := hq
             subst hq1
             refine ⟨?_, adraw_sound hB hns hQp hQ r true _ tks _ pr hs _ _ φ' M' _ _ S fuel hgo hcl' hss' (by simp only [Sch.depth] at hfuel; omega) hk R' F' (hle.trans hle') (.inl hq2) (fun j w2 hc => hS j w2 (hc.imp id fun ⟨q1, q2⟩ => ⟨fun a v q => q1 a v (hM a v q), q2⟩))⟩
             rw [← htk]
             simp only [Bool.false_eq_true, if_false]
             exact hS _ _ (.inl (hdep rfl))
           rcases hp with hp | hp
           · exact syc hp
           rcases hE2 with hE2 | hE
           · exact syc hE2
           · have himok' : ImOk M' w' := fun a v q => (R'.imm a v q).1
             have hE' : Ents φ' h' w' pr hs := hE.move fun p hpm Hf e => by
               have hpp := hp p hpm
               unfold Ent at e ⊢
               unfold prOk at hpp
               split at e
               · rename_i e0
                 simp only [e0] at hpp ⊢
                 obtain ⟨pl, ho, hh⟩ := e
                 obtain ⟨q1, q2⟩ := hK p.1 pl ho hpp
                 exact ⟨pl, q2, fun w2 hw2 => hh w2 (hw2.trans q1)⟩
               · rename_i ob e0
                 simp only [e0] at hpp ⊢
                 exact fun G2 φ2 M2 h2 w2 R2 l2 => e G2 φ2 M2 h2 w2 R2 (hle'.trans l2)
             refine ⟨?_, adraw_sound hB hns hQp hQ r true _ tks _ pr hs _ _ φ' M' _ _ S fuel hgo hcl' hss' (by simp only [Sch.depth] at hfuel; omega) hk R' F' (hle.trans hle') (.inr hE') (fun j w2 hc => hS j w2 (hc.imp id fun ⟨q1, q2⟩ => ⟨fun a v q => q1 a v (hM a v q), q2⟩))⟩
             rw [← htk]
             simp only [Bool.false_eq_true, if_false]
             refine hS _ _ (.inr ⟨fun a v q => himok' a v (hM a v q), fun Hf hm => ?_⟩)
             obtain ⟨p, hpm, e⟩ := hE'.of Hf hm
             have hpp := hp p hpm
             unfold Ent at e
             unfold prOk at hpp
             split at e
             · obtain ⟨pl, _, hh⟩ := e
               exact hh w' rfl
             · rename_i ob e0
               simp only [e0] at hpp
               exact e G φ' M' h' w' R' (Le.refl _) hpp
         · obtain ⟨hp, hk⟩ := hk
           have hE2 : (sy && allSy r) = true ∨ Ents φ h w pr hs := hE.imp (fun q => by simpa [allSy] using q) id
           have syc : (sy && allSy r) = true → ((if T j = true then w' = w else S j w') ∧ wpAnyS P T ops Q S fuel (listed.setIfInBounds j true) (a.put o.dst u) w') := by
             intro hq
             rw [Bool.and_eq_true] at hq
             obtain ⟨hq1, hq2⟩ := hq
             subst hq1
             refine ⟨?_, adraw_sound hB hns hQp hQ r true _ tks _ pr hs _ _ φ' M' _ _ S fuel hgo hcl' hss' (by simp only [Sch.depth] at hfuel; omega) hk R' F' (hle.trans hle') (.inl hq2) (fun j w2 hc => hS j w2 (hc.imp id fun ⟨q1, q2⟩ => ⟨fun a v q => q1 a v (hM a v q), q2⟩))⟩
             rw [← htk]
             simp only [Bool.false_eq_true, if_false]
             exact hS _ _ (.inl (hdep rfl))
           rcases hp with hp | hp
           · exact syc hp
           rcases hE2 with hE2 | hE
           · exact syc hE2
           · have himok' : ImOk M' w' := fun a v q => (R'.imm a v q).1
             have hE' : Ents φ' h' w' pr hs := hE.move fun p hpm Hf e => by
               have hpp := hp p hpm
               unfold Ent at e ⊢
               unfold prOk0 at hpp
               split at e
               · rename_i e0
                 simp only [e0] at hpp ⊢
                 obtain ⟨pl, ho, hh⟩ := e
                 obtain ⟨q1, q2⟩ := hK p.1 pl ho rfl
                 exact ⟨pl, q2, fun w2 hw2 => hh w2 (hw2.trans q1)⟩
               · rename_i ob e0
                 simp only [e0] at hpp ⊢
                 exact fun G2 φ2 M2 h2 w2 R2 l2 => e G2 φ2 M2 h2 w2 R2 (hle'.trans l2)
             refine ⟨?_, adraw_sound hB hns hQp hQ r true _ tks _ pr hs _ _ φ' M' _ _ S fuel hgo hcl' hss' (by simp only [Sch.depth] at hfuel; omega) hk R' F' (hle.trans hle') (.inr hE') (fun j w2 hc => hS j w2 (hc.imp id fun ⟨q1, q2⟩ => ⟨fun a v q => q1 a v (hM a v q), q2⟩))⟩
             rw [← htk]
             simp only [Bool.false_eq_true, if_false]
             refine hS _ _ (.inr ⟨fun a v q => himok' a v (hM a v q), fun Hf hm => ?_⟩)
             obtain ⟨p, hpm, e⟩ := hE'.of Hf hm
             have hpp := hp p hpm
             unfold Ent at e
             unfold prOk0 at hpp
             split at e
             · obtain ⟨pl, _, hh⟩ := e
               exact hh w' rfl
             · rename_i ob e0
               simp only [e0] at hpp
               exact e G φ' M' h' w' R' (Le.refl _) hpp
         · obtain ⟨hp, hk⟩ := hk
           have hE2 : (sy && allSy r) = true ∨ Ents φ h w pr hs := hE.imp (fun q => by simpa [allSy] using q) id
           have syc : (sy && allSy r) = true → ((if T j = true then w' = w else S j w') ∧ wpAnyS P T ops Q S fuel (listed.setIfInBounds j true) (a.put o.dst u) w') := by
             intro hq
             rw [Bool.and_eq_true] at hq
             obtain ⟨hq1, hq2⟩ := hq
             subst hq1
             refine ⟨?_, adraw_sound hB hns hQp hQ r true _ tks _ pr hs _ _ φ' M' _ _ S fuel hgo hcl' hss' (by simp only [Sch.depth] at hfuel; omega) hk R' F' (hle.trans hle') (.inl hq2) (fun j w2 hc => hS j w2 (hc.imp id fun ⟨q1, q2⟩ => ⟨fun a v q => q1 a v (hM a v q), q2⟩))⟩
             rw [← htk]
             simp only [Bool.false_eq_true, if_false]
             exact hS _ _ (.inl (hdep rfl))
           rcases hp with hp | hp
           · exact syc hp
           rcases hE2 with hE2 | hE
           · exact syc hE2
           · have himok' : ImOk M' w' := fun a v q => (R'.imm a v q).1
             have hE' : Ents φ' h' w' pr hs := hE.move fun p hpm Hf e => by
               have hpp := hp p hpm
               unfold Ent at e ⊢
               unfold prOkF at hpp
               split at e
               · rename_i e0
                 simp only [e0] at hpp ⊢
                 obtain ⟨pl, ho, hh⟩ := e
                 obtain ⟨q1, q2⟩ := hK p.1 pl ho hpp
                 exact ⟨pl, q2, fun w2 hw2 => hh w2 (hw2.trans q1)⟩
               · rename_i ob e0
                 simp only [e0] at hpp ⊢
                 exact fun G2 φ2 M2 h2 w2 R2 l2 => e G2 φ2 M2 h2 w2 R2 (hle'.trans l2)
             refine ⟨?_, adraw_sound hB hns hQp hQ r true _ tks _ pr hs _ _ φ' M' _ _ S fuel hgo hcl' hss' (by simp only [Sch.depth] at hfuel; omega) hk R' F' (hle.trans hle') (.inr hE') (fun j w2 hc => hS j w2 (hc.imp id fun ⟨q1, q2⟩ => ⟨fun a v q => q1 a v (hM a v q), q2⟩))⟩
             rw [← htk]
             simp only [Bool.false_eq_true, if_false]
             refine hS _ _ (.inr ⟨fun a v q => himok' a v (hM a v q), fun Hf hm => ?_⟩)
             obtain ⟨p, hpm, e⟩ := hE'.of Hf hm
             have hpp := hp p hpm
             unfold Ent at e
             unfold prOkF at hpp
             split at e
             · obtain ⟨pl, _, hh⟩ := e
               exact hh w' rfl
             · rename_i ob e0
               simp only [e0] at hpp
               exact e G φ' M' h' w' R' (Le.refl _) hpp
         · obtain ⟨hp, hk⟩ := hk
           have hE2 : (sy && allSy r) = true ∨ Ents φ h w pr hs := hE.imp (fun q => by simpa [allSy] using q) id
           have hEr : allSy r = true ∨ Ents φ h w pr hs := hE2.imp (fun q => by rw [Bool.and_eq_true] at q; exact q.2) id
           refine ⟨?_, adraw_sound hB hns hQp hQ r true _ tks _ pr hs _ _ φ M _ _ S fuel hgo hcl' hss' (by simp only [Sch.depth] at hfuel; omega) hk R F' hle hEr hS⟩
           rw [← htk]
           simp only [Bool.false_eq_true, if_false]
           have syc : (sy && allSy r) = true → S j w := fun hq => by
             rw [Bool.and_eq_true] at hq
             obtain ⟨hq1, hq2⟩ := hq
             exact hS _ _ (.inl (hdep hq1))
           rcases hp with hp | hp
           · exact syc hp
           rcases hE2 with hE2 | hE
           · exact syc hE2
           refine hS _ _ (.inr ⟨himok, fun Hf hm => ?_⟩)
           obtain ⟨p, hpm, e⟩ := hE.of Hf hm
           have hpp := hp p hpm
           unfold Ent at e
           unfold prOk0 at hpp
           split at e
           · obtain ⟨pl, _, hh⟩ := e
             exact hh w rfl
           · rename_i ob e0
             simp only [e0] at hpp
             exact e G φ M h w R (Le.refl _) hpp
        cases solo with
        | false => exact ⟨fuel, rfl, fun j hj => body j (List.mem_singleton.1 hj)⟩
        | true =>
          have hre : Region.ready .any ops listed = [i] := by simpa using hfr
          refine ⟨fun h0 => (by rw [hre] at h0; cases h0), fun j hj => ?_⟩
          rw [hre] at hj
          exact body j (List.mem_singleton.1 hj)
  | .fork x y, solo, listed, tks, sys, pr, hs, f, h, φ, M, a, w, S, fuel, hsch, hcl, hss, hfuel, H, R, F, hle, hE, hS => by
    simp only [schedGo, Bool.and_eq_true] at hsch
    obtain ⟨⟨hcov, hx⟩, hy⟩ := hsch
    simp only [adraw] at H
    simp only [Sch.depth] at hfuel
    obtain ⟨q, hq, gx⟩ := adraw_sound hB hns hQp hQ x false listed tks sys pr hs f h φ M a w S fuel hx hcl hss (by omega) H.1 R F hle (hE.imp (fun q => by simp only [allSy, Bool.and_eq_true] at q; exact q.1) id) hS
    obtain ⟨q', hq', gy⟩ := adraw_sound hB hns hQp hQ y false listed tks sys pr hs f h φ M a w S fuel hy hcl hss (by omega) H.2 R F hle (hE.imp (fun q => by simp only [allSy, Bool.and_eq_true] at q; exact q.2) id) hS
    obtain rfl : q' = q := by omega
    subst hq
    have both : ∀ j, j ∈ x.heads ++ y.heads → wpOp P ops Q j (fun a' w' => (if T j = true then w' = w else S j w') ∧ wpAnyS P T ops Q S q' (listed.setIfInBounds j true) a' w') a w := fun j hj => by
      rcases List.mem_append.1 hj with hj | hj
      · exact gx j hj
      · exact gy j hj
    cases solo with
    | false => exact ⟨q', rfl, both⟩
    | true =>
      simp only [Bool.not_true, Bool.false_or, List.all_eq_true, List.contains_iff_mem] at hcov
      obtain ⟨j0, hj0⟩ := sched_ready hx
      exact ⟨fun h0 => (by rw [h0] at hj0; cases hj0), fun j hj => both j (hcov j hj)⟩
theorem QQ_noPanic {Q : AExit → AF → AH → Prop} (c : List PanicEntry) (a : Act) (w : World) : ¬ QQ G φ0 n Q (.panic c) a w := fun h => h
theorem awp_sound (hmo : P.follows .mixedOrders = true) (h0 : ∀ l p, φ0 l = some p → l < m) : ∀ (c : Code) (_ : codeB n c = true) (Q : AExit → AF → AH → Prop) (f : AF) (h : AH) (φ : Phi) (M : Im) (a : Act) (w : World), awp P m c Q f h → Rep G φ M h w → FOk n φ M f a → Le φ0 φ →
    c.wp P (QQ G φ0 n Q) a w := by
  intro c
  induction c with
  | skip => intro _ Q f h φ M a w H R F hle; exact wp_skip ⟨f, h, φ, M, H, R, F, hle⟩
  | region id ops draw =>
    intro hB Q f h φ M a w H R F hle
    simp only [codeB] at hB
    cases draw with
    | false =>
      simp only [awp] at H
      refine wp_region ?_
      have := aops_sound (Q := QQ G φ0 n Q) (N := Q .normal) hB (fun a w hs => hs) 0 ops.toList (by simp) f h φ M a w H R F hle
      rw [Nat.sub_zero, ← List.range_eq_range'] at this
      exact this
    | true =>
      simp only [awp] at H
      obtain ⟨L, hL, H⟩ := H
      simp only [schedOk, Bool.and_eq_true] at hL
      obtain ⟨⟨h1, h2⟩, h3⟩ := hL
      have hlen : L.depth ≤ ops.size := of_decide_eq_true h2
      refine wp_region_any hmo ?_
      refine wpAny_of_S (T := fun i => L.takes i) (S := fun _ _ => True) _ _ _ _ ?_
      exact adraw_sound hB h1 QQ_noPanic (N := Q .normal) (fun a w hs => hs) L true _ [] [] [] [] f h φ M a _ _ ops.size h3 (fun k i hk => by simp [Array.getElem?_replicate] at hk; split at hk <;> cases hk) (fun k hk => by cases hk) hlen H R.drew F hle (.inr trivial) (fun _ _ _ => trivial)
  | seq x y ihx ihy =>
    intro hB Q f h φ M a w H R F hle
    simp only [codeB, Bool.and_eq_true] at hB
    simp only [awp] at H
    refine wp_seq (wp_mono (ihx hB.1 _ f h φ M a w H R F hle) ?_)
    intro e a' w' hq
    cases e with
    | normal =>
      obtain ⟨f', h', φ', M', H', R', F', hle'⟩ := hq
      exact ihy hB.2 Q f' h' φ' M' a' w' H' R' F' hle'
    | exit id => exact hq
    | ret => exact hq
    | _ => exact hq.elim
  | cond c x y ihx ihy =>
    intro hB Q f h φ M a w H R F hle
    simp only [codeB, Bool.and_eq_true] at hB
    simp only [awp] at H
    have ec := ev_V F (x := c) (fun t ht => by have := hB.1.1; rw [ht] at this; simpa [opndB] using this)
    split at H
    · rename_i b hb
      rw [hb] at ec
      have ec := VA_c ec
      cases b with
      | true => exact wp_cond_true ec (ihx hB.1.2 Q f h φ M a w H R F hle)
      | false => exact wp_cond_false ec (ihy hB.2 Q f h φ M a w H R F hle)
    · exact H.elim
  | block id b ih =>
    intro hB Q f h φ M a w H R F hle
    simp only [codeB] at hB
    simp only [awp] at H
    refine wp_block (wp_mono (ih hB _ f h φ M a w H R F hle) ?_)
    intro e a' w' hq
    cases e with
    | normal => exact hq
    | exit id' =>
      simp only [Exit.inBlock]
      by_cases e : id' = id
      · rw [if_pos e]; exact St.mono hq (fun f h hh => by simpa [AExit.inBlock, e] using hh)
      · rw [if_neg e]; exact St.mono hq (fun f h hh => by simpa [AExit.inBlock, e] using hh)
    | ret => exact hq
    | _ => exact hq.elim
  | loop b ih =>
    intro hB Q f h φ M a w H R F hle
    simp only [codeB] at hB
    simp only [awp] at H
    obtain ⟨I, k, hI0, hr⟩ := H
    refine wp_loop_ghost (fun k a w => St G φ0 n (I k) a w) k (St.ghost h0 ⟨f, h, φ, M, hI0, R, F, hle⟩) ?_
    rintro k a w ⟨f, h, φ, M, hI, R, F, hle⟩
    refine wp_mono (ih hB _ f h φ M a w (hr k f h hI) R F hle) ?_
    intro e a' w' hq
    cases e with
    | normal =>
      obtain ⟨f', h', φ', M', ⟨k', hk, hI'⟩, r⟩ := St.ghost h0 hq
      exact ⟨k', hk, f', h', φ', M', hI', r⟩
    | exit id => exact hq
    | ret => exact hq
    | _ => exact hq.elim
  | exit id => intro _ Q f h φ M a w H R F hle; exact wp_exit ⟨f, h, φ, M, H, R, F, hle⟩
  | ret => intro _ Q f h φ M a w H R F hle; exact wp_ret ⟨f, h, φ, M, H, R, F, hle⟩
  | _ => intro _ Q f h φ M a w H R F hle; exact H.elim
end
end Go.BL
end
section
namespace Go.BL
open Go.RowKit
set_option linter.unusedVariables false
set_option linter.unusedSimpArgs false
/-! ### 1. What comes behind, as data -/
structure QT where
  m : Nat
  q : AExit → AF → AH → Prop
inductive Fr where
  | seq (c : Code)
  | blk (id : Nat)
  | inv (J : AF → AH → Prop)
  | jn (J : AF → AH → Prop)
def ks (P : Program) : List Fr → QT → AExit → AF → AH → Prop
  | [], Q => Q.q
  | .seq c :: s, Q => AExit.then (fun f h => awp P Q.m c (ks P s Q) f h) (ks P s Q)
  | .blk id :: s, Q => AExit.inBlock id (ks P s Q)
  | .inv J :: s, Q => AExit.then (GC Q.m J) (ks P s Q)
  | .jn J :: s, Q => AExit.then J (ks P s Q)
inductive Ko where
  | sq (ds : DS) (dst : Option Nat) (rest : List Oper) (s : List Fr) (Q : QT) (f : AF)
  | dr (ds : DS) (ops : Array Oper) (dst : Option Nat) (op : Op) (L : Sch) (sy : Bool) (s : List Fr) (Q : QT) (f : AF) (pr : List (Nat × Option AO))
def kr (P : Program) : Ko → AV → AH → Prop
  | .sq ds dst rest s Q f, v, h => aops P ds rest (ks P s Q .normal) (put f dst v) h
  | .dr ds ops dst op L sy s Q f pr, v, h => ((sy && allSy L) = true ∨ ∀ p ∈ pr, prOk op f h p) ∧ adraw P ds ops L (ks P s Q .normal) (put f dst v) h pr
def krl (P : Program) : Ko → AV → AH → Prop
  | .sq ds dst rest s Q f, v, h => aops P ds rest (ks P s Q .normal) (put f dst v) h
  | .dr ds ops dst op L sy s Q f pr, v, h => ((sy && allSy L) = true ∨ ∀ p ∈ pr, prOk0 h p) ∧ adraw P ds ops L (ks P s Q .normal) (put f dst v) h pr
def krf (P : Program) : Ko → List Nat → AV → AH → Prop
  | .sq ds dst rest s Q f, _, v, h => aops P ds rest (ks P s Q .normal) (put f dst v) h
  | .dr ds ops dst op L sy s Q f pr, q, v, h => ((sy && allSy L) = true ∨ ∀ p ∈ pr, prOkF q h p) ∧ adraw P ds ops L (ks P s Q .normal) (put f dst v) h pr
def kr0 (P : Program) : Ko → AH → Prop
  | .sq ds dst rest s Q f, h => aops P ds rest (ks P s Q .normal) (put f dst undefA) h
  | .dr ds ops dst op L sy s Q f pr, h => ((sy && allSy L) = true ∨ ∀ p ∈ pr, prOk0 h p) ∧ adraw P ds ops L (ks P s Q .normal) (put f dst undefA) h pr
def goG (P : Program) (c : Code) (s : List Fr) (Q : QT) (f : AF) (h : AH) : Prop := awp P Q.m c (ks P s Q) f h
def nxG (P : Program) (e : AExit) (s : List Fr) (Q : QT) (f : AF) (h : AH) : Prop := ks P s Q e f h
def rgG (P : Program) (ds : DS) (l : List Oper) (s : List Fr) (Q : QT) (f : AF) (h : AH) : Prop := aops P ds l (ks P s Q .normal) f h
def dwG (P : Program) (ops : Array Oper) (s : List Fr) (Q : QT) (f : AF) (h : AH) : Prop := ∃ L, schedOk ops L = true ∧ adraw P (dsts ops) ops L (ks P s Q .normal) f h []
def drG (P : Program) (ds : DS) (ops : Array Oper) (L : Sch) (s : List Fr) (Q : QT) (f : AF) (h : AH) (pr : List (Nat × Option AO)) : Prop := adraw P ds ops L (ks P s Q .normal) f h pr
def lpG (P : Program) (b : Code) (s : List Fr) (Q : QT) (f : AF) (h : AH) : Prop := awp P Q.m (.loop b) (ks P s Q) f h
def cdG (P : Program) (v : AV) (x y : Code) (s : List Fr) (Q : QT) (f : AF) (h : AH) : Prop := match v with | .one (.c (.bool b)) => Br b (fun _ => goG P x s Q f h) (fun _ => goG P y s Q f h) | _ => False
def opG (P : Program) (op : Op) (f : AF) (h : AH) (k : Ko) : Prop := aop2 P op f h (kr P k) (krl P k) (krf P k)
def wtG (P : Program) (v : AV) (t : Bool) (op : Op) (f : AF) (h : AH) (k : Ko) : Prop := wantB v t (fun _ => opG P op f h k) (fun _ => kr0 P k h)
/-! ### From code to a call -/
def resOne (P : Program) (f : AF) (h : AH) : ResultVar → Option AV
  | .tmp t => some (f t)
  | .cell a t => match f a with
    | .one (.pt l g i off) => (objR h l g).bind fun q => (q.2.2[i]?).bind fun e => partA P t e off
    | _ => none
def resB (n : Nat) : ResultVar → Bool
  | .tmp t => t < n
  | .cell a _ => a < n
def oneOrTup : List AV → AV
  | [v] => v
  | vs => .tup vs
def cons2 (v : Option AV) (r : Option (List AV)) : Option (List AV) := v.bind fun v => r.map (v :: ·)
def rsG (P : Program) (f : AF) (h : AH) : List ResultVar → Option (List AV)
  | [] => some []
  | r :: rs => cons2 (resOne P f h r) (rsG P f h rs)
def notTup : AV → Bool
  | .tup _ => false
  | _ => true
def Fin (m : Nat) (r : AV) (h : AH) (K : AV → AH → Prop) : Prop :=
  ∃ r' h', K r' h' ∧ ∀ G φ M w u, Rep G φ M h w → VA φ M r u → ∃ φ' M', Rep G φ' M' h' w ∧ VA φ' M' r' u ∧ ∀ l p, l < m → φ l = some p → ∃ p', φ' l = some p' ∧ (p' = p ∨ p.g < p'.g)
def ARet (P : Program) (rs : List ResultVar) (m : Nat) (K : AV → AH → Prop) (f : AF) (h : AH) : Prop :=
  On (rsG P f h rs) fun vs => vs.all notTup = true ∧ Fin m (oneOrTup vs) h K
def fnB (fn : Func) : Bool := fn.results.all (resB fn.ntmps)
def frame0 (args : List AV) : AF := fun i => args.getD i undefA
def resSem (tmps : Array Value) : ResultVar → Sem Value
  | .tmp t => pure (tmps.getD t undef)
  | .cell b t => do loadVar t (← asAddr (tmps.getD b undef))
section
variable {P : Program} {G : Cx} {φ : Phi} {M : Im} {h : AH} {w : World} {n : Nat}
theorem nt_VA1 {v : AV} {u : Value} (hv : notTup v = true) (h : VA φ M v u) : VA1 φ M v u := by
  cases v with
  | tup _ => cases hv
  | one x => exact h
  | agg x => exact h
  | any => trivial
theorem run_res {f : AF} {a : Act} (R : Rep G φ M h w) (F : FOk n φ M f a) : ∀ (rs : List ResultVar) (vs : List AV), rs.all (resB n) = true → rsG P f h rs = some vs →
    ∃ us : List Value, (rs.mapM (resSem a.tmps)).run P w = .ok us w ∧ VAs φ M vs us
  | [], vs, _, hv => by simp [rsG] at hv; subst hv; exact ⟨[], rfl, rfl, fun j x hj => by simp at hj⟩
  | r :: rs, vs, hb, hv => by
    rw [rsG] at hv
    obtain ⟨v, h1, hv⟩ := Option.bind_eq_some_iff.1 hv
    obtain ⟨vs', h2, rfl⟩ := Option.map_eq_some_iff.1 hv
    rw [List.all_cons, Bool.and_eq_true] at hb
    obtain ⟨us, ih, hvs⟩ := run_res R F rs vs' hb.2 h2
    have hd : ∃ u, (resSem a.tmps r).run P w = .ok u w ∧ VA φ M v u := by
      cases r with
      | tmp t =>
        simp only [resOne, Option.some.injEq] at h1
        subst h1
        have ht : t < n := by simpa [resB] using hb.1
        obtain ⟨u, q1, q2⟩ := F.val t ht
        exact ⟨u, by simp [resSem, Array.getD_eq_getD_getElem?, q1], q2⟩
      | cell b t =>
        have hbn : b < n := by simpa [resB] using hb.1
        obtain ⟨u0, q1, q2⟩ := F.val b hbn
        simp only [resOne] at h1
        split at h1
        · rename_i l g i off hfb
          obtain ⟨q, hq, h1⟩ := Option.bind_eq_some_iff.1 h1
          obtain ⟨el, hel, h1⟩ := Option.bind_eq_some_iff.1 h1
          rw [hfb] at q2
          obtain ⟨p, hp, hg, hk, hvir, eu⟩ := pt_at R hq q2
          obtain ⟨p', hp', _, _, _, _, _, hcc⟩ := R.readR hq
          rw [hp] at hp'
          cases hp'
          obtain ⟨C, hC⟩ := choose_cells (hcc i el hel).2
          obtain ⟨u, hu, hr⟩ := run_loadVarA (P := P) (b := p.b) (o := i * q.2.1) h1 C (fun j y hj => (hC j y hj).2)
          have hr := hr w (fun j y hj => (hC j y hj).1)
          rw [← hk] at hr
          subst eu
          exact ⟨u, by simp [resSem, Array.getD_eq_getD_getElem?, q1, asAddr, hr], hu⟩
        · cases h1
    obtain ⟨u, hd, hu⟩ := hd
    refine ⟨u :: us, ?_, by simp [hvs.1], fun j x hj => ?_⟩
    · rw [List.mapM_cons]
      simp only [Sem.run_bind, hd, ih, Result.andThen_ok, Sem.run_pure]
    · rcases j with _ | j
      · simp at hj; subst hj; exact ⟨u, rfl, hu⟩
      · exact hvs.2 j x (by simpa using hj)
theorem one_V {vs : List AV} {us : List Value} (hnt : vs.all notTup = true) (H : VAs φ M vs us) : VA φ M (oneOrTup vs) (if h : us.toArray.size = 1 then us.toArray[0] else .tuple us.toArray) := by
  have tup : ∀ (vs : List AV) (us : List Value), vs.all notTup = true → VAs φ M vs us → VA φ M (.tup vs) (.tuple us.toArray) := fun vs us hnt H =>
    ⟨us, rfl, H.1, fun j x hj => let ⟨u, h1, h2⟩ := H.2 j x hj; ⟨u, h1, nt_VA1 ((List.all_eq_true.1 hnt) x (List.mem_of_getElem? hj)) h2⟩⟩
  match vs, us, H with
  | [], [], H => simpa [oneOrTup] using tup [] [] rfl H
  | [v], [u], H =>
    obtain ⟨u', h1, h2⟩ := H.2 0 v rfl
    simp at h1
    subst h1
    simpa [oneOrTup] using h2
  | v :: v2 :: r, u :: u2 :: s, H => simpa [oneOrTup] using tup _ _ hnt H
  | [], _ :: _, H => have := H.1; simp at this
  | _ :: _, [], H => have := H.1; simp at this
  | [_], _ :: _ :: _, H => have := H.1; simp at this
  | _ :: _ :: _, [_], H => have := H.1; simp at this
theorem frame0_ok {args : List AV} {us : List Value} (hn : args.length ≤ n) (H : VAs φ M args us) : FOk n φ M (frame0 args) { tmps := us.toArray ++ Array.replicate (n - us.toArray.size) undef, defers := [] } := by
  have hl := H.1
  refine ⟨by simp; omega, fun i hi => ?_, rfl⟩
  simp only [frame0]
  by_cases hia : i < args.length
  · obtain ⟨u, h1, h2⟩ := H.2 i _ (List.getElem?_eq_getElem hia)
    refine ⟨u, ?_, by simpa [List.getD, hia] using h2⟩
    rw [Array.getElem?_append_left (by simpa [hl] using hia)]
    simpa using h1
  · refine ⟨undef, ?_, ?_⟩
    · rw [Array.getElem?_append_right (by simp; omega), Array.getElem?_replicate, if_pos (by simp; omega)]
    · have : args.getD i undefA = undefA := by simp [List.getD, List.getElem?_eq_none (show args.length ≤ i by omega)]
      rw [this]
      rfl
theorem acall_gen {g : Nat} {fn : Func} {c : Code} {args : List AV} {K : AV → AH → Prop} (rs : List ResultVar) (hmo : P.follows .mixedOrders = true) (hf : P.funcs[g]? = some fn) (hrs : fn.results.toList = rs) (hbody : fn.body = some c) (hB : (codeB fn.ntmps c && fnB fn && hasBody P g && decide (args.length ≤ fn.ntmps)) = true)
    (H : ∀ Q : QT, Q.m = h.length → (∀ f h', GC h.length (ARet P rs h.length K) f h' → Q.q .ret f h' ∧ Q.q .normal f h') → goG P c [] Q (frame0 args) h) : ACalls P g args h K := by
  simp only [Bool.and_eq_true, decide_eq_true_eq] at hB
  obtain ⟨⟨⟨hB1, hB2⟩, hB3⟩, hB4⟩ := hB
  refine ⟨hB3, fun φ M w us R hargs => ?_⟩
  refine calls_of_wp hf hbody ?_
  have F := frame0_ok (φ := φ) (n := fn.ntmps) hB4 hargs
  have hdom : ∀ l p, φ l = some p → l < h.length := fun l p hl => by
    rcases Nat.lt_or_ge l h.length with q | q
    · exact q
    · rw [R.dom l q] at hl; cases hl
  have H1 := H ⟨h.length, fun e f h' => match e with | .ret => GC h.length (ARet P rs h.length K) f h' | .normal => GC h.length (ARet P rs h.length K) f h' | _ => False⟩ rfl (fun f h' hh => ⟨hh, hh⟩)
  refine wp_mono (awp_sound (φ0 := φ) (n := fn.ntmps) hmo hdom c hB1 _ _ h φ M _ w H1 R F (Le.refl _)) ?_
  intro e a' w' hq
  cases e with
  | ret =>
    obtain ⟨f', h', φ', M', hret, R', F', hle⟩ := St.ghost hdom hq
    obtain ⟨vs, hvs, hnt, r', h'', hk, hfin⟩ := hret.elim
    obtain ⟨us, hus, hvv⟩ := run_res (P := P) R' F' rs vs (by rw [← hrs]; simpa [fnB] using hB2) hvs
    obtain ⟨φ'', M'', R'', hv'', hkeep⟩ := hfin _ φ' M' w' _ R' (one_V hnt hvv)
    refine ⟨F'.defers, _, ?_, _, r', h'', φ'', M'', rfl, hv'', hk, R'', fun l p hl => ?_⟩
    · show ((do let vs ← fn.results.mapM (resSem a'.tmps); pure (if h : vs.size = 1 then vs[0] else .tuple vs)) : Sem Value).run P w' = _
      rw [Array.mapM_eq_mapM_toList, hrs]
      simp only [Sem.run_bind, Sem.run_map, hus, Result.andThen_ok, Sem.run_pure]
    · obtain ⟨p', q1, q2⟩ := hle l p hl
      obtain ⟨p'', q3, q4⟩ := hkeep l p' (hdom l p hl) q1
      refine ⟨p'', q3, ?_⟩
      rcases q2 with rfl | q2 <;> rcases q4 with rfl | q4
      · exact .inl rfl
      · exact .inr q4
      · exact .inr q2
      · exact .inr (Nat.lt_trans q2 q4)
  | normal =>
    obtain ⟨f', h', φ', M', hret, R', F', hle⟩ := St.ghost hdom hq
    obtain ⟨vs, hvs, hnt, r', h'', hk, hfin⟩ := hret.elim
    obtain ⟨us, hus, hvv⟩ := run_res (P := P) R' F' rs vs (by rw [← hrs]; simpa [fnB] using hB2) hvs
    obtain ⟨φ'', M'', R'', hv'', hkeep⟩ := hfin _ φ' M' w' _ R' (one_V hnt hvv)
    refine ⟨F'.defers, _, ?_, _, r', h'', φ'', M'', rfl, hv'', hk, R'', fun l p hl => ?_⟩
    · show ((do let vs ← fn.results.mapM (resSem a'.tmps); pure (if h : vs.size = 1 then vs[0] else .tuple vs)) : Sem Value).run P w' = _
      rw [Array.mapM_eq_mapM_toList, hrs]
      simp only [Sem.run_bind, Sem.run_map, hus, Result.andThen_ok, Sem.run_pure]
    · obtain ⟨p', q1, q2⟩ := hle l p hl
      obtain ⟨p'', q3, q4⟩ := hkeep l p' (hdom l p hl) q1
      refine ⟨p'', q3, ?_⟩
      rcases q2 with rfl | q2 <;> rcases q4 with rfl | q4
      · exact .inl rfl
      · exact .inr q4
      · exact .inr q2
      · exact .inr (Nat.lt_trans q2 q4)
  | exit id => obtain ⟨f', h', φ', M', hq, _⟩ := hq; exact hq.elim
  | _ => exact hq.elim
end
section
variable (P : Program) (f : AF) (h : AH) (s : List Fr) (Q : QT) (x y : Code)
theorem g_skip : goG P .skip s Q f h = nxG P .normal s Q f h := _root_.id rfl
theorem g_region (id : Nat) (ops : Array Oper) : goG P (.region id ops false) s Q f h = rgG P (dsts ops) ops.toList s Q f h := _root_.id rfl
theorem g_draw (id : Nat) (ops : Array Oper) : goG P (.region id ops true) s Q f h = dwG P ops s Q f h := _root_.id rfl
theorem g_seq : goG P (.seq x y) s Q f h = goG P x (.seq y :: s) Q f h := _root_.id rfl
theorem g_cond (c : Operand) : goG P (.cond c x y) s Q f h = cdG P (ev f c) x y s Q f h := _root_.id rfl
theorem g_block (id : Nat) : goG P (.block id x) s Q f h = goG P x (.blk id :: s) Q f h := _root_.id rfl
theorem g_loop : goG P (.loop x) s Q f h = lpG P x s Q f h := _root_.id rfl
theorem g_exit (id : Nat) : goG P (.exit id) s Q f h = nxG P (.exit id) s Q f h := _root_.id rfl
theorem g_ret : goG P .ret s Q f h = nxG P .ret s Q f h := _root_.id rfl
theorem n_nil (e : AExit) : nxG P e [] Q f h = Q.q e f h := _root_.id rfl
theorem n_seq (c : Code) : nxG P .normal (.seq c :: s) Q f h = goG P c s Q f h := _root_.id rfl
theorem n_seq_e (c : Code) (id : Nat) : nxG P (.exit id) (.seq c :: s) Q f h = nxG P (.exit id) s Q f h := _root_.id rfl
theorem n_seq_r (c : Code) : nxG P .ret (.seq c :: s) Q f h = nxG P .ret s Q f h := _root_.id rfl
theorem n_inv (J : AF → AH → Prop) : nxG P .normal (.inv J :: s) Q f h = GC Q.m J f h := _root_.id rfl
theorem n_inv_e (J : AF → AH → Prop) (id : Nat) : nxG P (.exit id) (.inv J :: s) Q f h = nxG P (.exit id) s Q f h := _root_.id rfl
theorem n_inv_r (J : AF → AH → Prop) : nxG P .ret (.inv J :: s) Q f h = nxG P .ret s Q f h := _root_.id rfl
theorem n_blk (id : Nat) : nxG P .normal (.blk id :: s) Q f h = nxG P .normal s Q f h := _root_.id rfl
theorem n_blk_r (id : Nat) : nxG P .ret (.blk id :: s) Q f h = nxG P .ret s Q f h := _root_.id rfl
theorem n_blk_e (id : Nat) : nxG P (.exit id) (.blk id :: s) Q f h = nxG P .normal s Q f h := by simp [nxG, ks, AExit.inBlock]
theorem n_blk_ne (id id' : Nat) (hne : (id' == id) = false) : nxG P (.exit id') (.blk id :: s) Q f h = nxG P (.exit id') s Q f h := by simp only [beq_eq_false_iff_ne] at hne; simp [nxG, ks, AExit.inBlock, hne]
theorem c_true : cdG P (.one (.c (.bool true))) x y s Q f h = goG P x s Q f h := _root_.id rfl
theorem c_false : cdG P (.one (.c (.bool false))) x y s Q f h = goG P y s Q f h := _root_.id rfl
theorem r_nil (ds : DS) : rgG P ds [] s Q f h = nxG P .normal s Q f h := _root_.id rfl
theorem r_cons (ds : DS) (r : List Oper) (dst : Option Nat) (op : Op) (ty : TypeId) (pos : String) (af : Array Edge) : rgG P ds (⟨dst, op, ty, pos, af, none⟩ :: r) s Q f h = opG P op f h (.sq ds dst r s Q f) := (aop2_same P op f h (kr P (.sq ds dst r s Q f))).symm
theorem r_want (ds : DS) (r : List Oper) (dst : Option Nat) (op : Op) (ty : TypeId) (pos : String) (af : Array Edge) (j : Nat) (t : Bool) : rgG P ds (⟨dst, op, ty, pos, af, some (j, t)⟩ :: r) s Q f h = wtG P (gslot ds f j) t op f h (.sq ds dst r s Q f) := by
  have e : opG P op f h (.sq ds dst r s Q f) = aop P op f h (kr P (.sq ds dst r s Q f)) := aop2_same P op f h (kr P (.sq ds dst r s Q f))
  unfold wtG; rw [e]; rfl
theorem w_tt (op : Op) (k : Ko) : wtG P (.one (.c (.bool true))) true op f h k = opG P op f h k := _root_.id rfl
theorem w_ff (op : Op) (k : Ko) : wtG P (.one (.c (.bool false))) false op f h k = opG P op f h k := _root_.id rfl
theorem w_tf (op : Op) (k : Ko) : wtG P (.one (.c (.bool true))) false op f h k = kr0 P k h := _root_.id rfl
theorem w_ft (op : Op) (k : Ko) : wtG P (.one (.c (.bool false))) true op f h k = kr0 P k h := _root_.id rfl
theorem wantB_u (t : Bool) (x y : Unit → Prop) : wantB undefA t x y = y () := by
  unfold wantB undefA
  exact propext ⟨fun q => q.2, fun q => ⟨rfl, q⟩⟩
theorem w_u (t : Bool) (op : Op) (k : Ko) : wtG P undefA t op f h k = kr0 P k h := wantB_u _ _ _
theorem k0_some (ds : DS) (d : Nat) (r : List Oper) (f' : AF) : kr0 P (.sq ds (some d) r s Q f') h = rgG P ds r s Q (upd f' d undefA) h := _root_.id rfl
theorem ds_mk (l : List Oper) : dsts l.toArray = l.map (·.dst) := _root_.id rfl
def gsl (o : Option (Option Nat)) (f : AF) : AV := match o with | some (some d) => f d | _ => undefA
theorem gs_at (ds : DS) (j : Nat) : gslot ds f j = gsl ds[j]? f := _root_.id rfl
theorem gs_some (d : Nat) : gsl (some (some d)) f = f d := _root_.id rfl
theorem k_some (ds : DS) (d : Nat) (r : List Oper) (f' : AF) (v : AV) : kr P (.sq ds (some d) r s Q f') v h = rgG P ds r s Q (upd f' d v) h := _root_.id rfl
theorem k_none (ds : DS) (r : List Oper) (f' : AF) (v : AV) : kr P (.sq ds none r s Q f') v h = rgG P ds r s Q f' h := _root_.id rfl
def heldOk (b : Bool) (op : Op) (f : AF) (h : AH) (pr : List (Nat × Option AO)) : Prop := b = true ∨ ∀ p ∈ pr, prOk op f h p
def heldOk0 (b : Bool) (h : AH) (pr : List (Nat × Option AO)) : Prop := b = true ∨ ∀ p ∈ pr, prOk0 h p
theorem ho_t (op : Op) (pr : List (Nat × Option AO)) : heldOk true op f h pr = True := by simp [heldOk]
theorem ho_nil (b : Bool) (op : Op) : heldOk b op f h [] = True := by simp [heldOk]
theorem ho_s (op : Op) (l : Nat) (pr : List (Nat × Option AO)) : heldOk false op f h ((l, none) :: pr) = (touchA op f l = false ∧ heldOk false op f h pr) := by simp [heldOk, prOk]
theorem ho_w (op : Op) (l : Nat) (o : AO) (pr : List (Nat × Option AO)) : heldOk false op f h ((l, some o) :: pr) = (h[l]? = some o ∧ heldOk false op f h pr) := by simp [heldOk, prOk]
theorem ho0_t (pr : List (Nat × Option AO)) : heldOk0 true h pr = True := by simp [heldOk0]
theorem ho0_nil (b : Bool) : heldOk0 b h [] = True := by simp [heldOk0]
theorem ho0_s (l : Nat) (pr : List (Nat × Option AO)) : heldOk0 false h ((l, none) :: pr) = heldOk0 false h pr := by simp [heldOk0, prOk0]
theorem ho0_w (l : Nat) (o : AO) (pr : List (Nat × Option AO)) : heldOk0 false h ((l, some o) :: pr) = (h[l]? = some o ∧ heldOk0 false h pr) := by simp [heldOk0, prOk0]
theorem kl_some (ds : DS) (d : Nat) (r : List Oper) (f' : AF) (v : AV) : krl P (.sq ds (some d) r s Q f') v h = rgG P ds r s Q (upd f' d v) h := _root_.id rfl
theorem kl_dr (ds : DS) (ops : Array Oper) (d : Nat) (op : Op) (L : Sch) (sy : Bool) (f' : AF) (pr : List (Nat × Option AO)) (v : AV) : krl P (.dr ds ops (some d) op L sy s Q f' pr) v h = (heldOk0 (sy && allSy L) h pr ∧ drG P ds ops L s Q (upd f' d v) h pr) := _root_.id rfl
def heldOkF (b : Bool) (q : List Nat) (h : AH) (pr : List (Nat × Option AO)) : Prop := b = true ∨ ∀ p ∈ pr, prOkF q h p
theorem hof_nil (b : Bool) (q : List Nat) : heldOkF b q h [] = True := by simp [heldOkF]
def inQ (l : Nat) (q : List Nat) : Bool := decide (l ∈ q)
theorem inq_nil (l : Nat) : inQ l [] = false := by simp [inQ]
theorem hof_s (q : List Nat) (l : Nat) (pr : List (Nat × Option AO)) : heldOkF false q h ((l, none) :: pr) = (inQ l q = false ∧ heldOkF false q h pr) := by simp [heldOkF, prOkF, inQ]
theorem kf_some (ds : DS) (d : Nat) (r : List Oper) (f' : AF) (q : List Nat) (v : AV) : krf P (.sq ds (some d) r s Q f') q v h = rgG P ds r s Q (upd f' d v) h := _root_.id rfl
theorem kf_dr (ds : DS) (ops : Array Oper) (d : Nat) (op : Op) (L : Sch) (sy : Bool) (f' : AF) (pr : List (Nat × Option AO)) (q : List Nat) (v : AV) : krf P (.dr ds ops (some d) op L sy s Q f' pr) q v h = (heldOkF (sy && allSy L) q h pr ∧ drG P ds ops L s Q (upd f' d v) h pr) := _root_.id rfl
theorem k_dr (ds : DS) (ops : Array Oper) (d : Nat) (op : Op) (L : Sch) (sy : Bool) (f' : AF) (pr : List (Nat × Option AO)) (v : AV) : kr P (.dr ds ops (some d) op L sy s Q f' pr) v h = (heldOk (sy && allSy L) op f' h pr ∧ drG P ds ops L s Q (upd f' d v) h pr) := _root_.id rfl
theorem k_dr_none (ds : DS) (ops : Array Oper) (op : Op) (L : Sch) (sy : Bool) (f' : AF) (pr : List (Nat × Option AO)) (v : AV) : kr P (.dr ds ops none op L sy s Q f' pr) v h = (heldOk (sy && allSy L) op f' h pr ∧ drG P ds ops L s Q f' h pr) := _root_.id rfl
theorem k0_dr (ds : DS) (ops : Array Oper) (d : Nat) (op : Op) (L : Sch) (sy : Bool) (f' : AF) (pr : List (Nat × Option AO)) : kr0 P (.dr ds ops (some d) op L sy s Q f' pr) h = (heldOk0 (sy && allSy L) h pr ∧ drG P ds ops L s Q (upd f' d undefA) h pr) := _root_.id rfl
theorem as_nil : allSy .nil = true := _root_.id rfl
theorem son_nil (t : Sch) : Sch.on [] t = t := _root_.id rfl
theorem son_cons (e : Nat × Bool × Bool) (r : List (Nat × Bool × Bool)) (t : Sch) : Sch.on (e :: r) t = .cons e (Sch.on r t) := _root_.id rfl
theorem as_cons (i : Nat) (tk sy : Bool) (r : Sch) : allSy (.cons (i, tk, sy) r) = ((tk || sy) && allSy r) := _root_.id rfl
theorem tc_load (t : TypeId) (a : Operand) (l : Nat) : touchA (.load t a) f l = false := _root_.id rfl
theorem tc_bin (op : BinOp) (t : TypeId) (x y : Operand) (t2 : TypeId) (l : Nat) : touchA (.binOp op t x y t2) f l = false := _root_.id rfl
theorem tc_indexAddr (t : TypeId) (x y : Operand) (l : Nat) : touchA (.indexAddr t x y) f l = false := _root_.id rfl
theorem tc_fieldAddr (t : TypeId) (x : Operand) (i l : Nat) : touchA (.fieldAddr t x i) f l = false := _root_.id rfl
theorem tc_pick (c a b : Operand) (l : Nat) : touchA (.pick c a b) f l = false := _root_.id rfl
theorem tc_move (x : Operand) (l : Nat) : touchA (.move x) f l = false := _root_.id rfl
theorem cl_c (v : Value) : clA (.one (.c v)) = true := _root_.id rfl
theorem cl_im (es : List (List CV)) : clA (.one (.im es)) = true := _root_.id rfl
theorem cl_clo (g : Nat) : clA (.one (.clo g [])) = true := _root_.id rfl
theorem cl_agg (xs : List CV) : clA (.agg xs) = xs.all clB := _root_.id rfl
theorem clb_c (v : Value) : clB (.c v) = true := _root_.id rfl
theorem clb_im (es : List (List CV)) : clB (.im es) = true := _root_.id rfl
theorem u_eq (d : Nat) (v : AV) : upd f d v d = v := by simp [upd]
theorem u_ne (d i : Nat) (v : AV) (hne : (i == d) = false) : upd f d v i = f i := by simp only [beq_eq_false_iff_ne] at hne; simp [upd, hne]
theorem e_tmp (t : Nat) : ev f (.tmp t) = f t := _root_.id rfl
theorem e_const (v : Value) : ev f (.const v) = ofVal v := _root_.id rfl
theorem e_func (g : Nat) : ev f (.func g) = .one (.clo g []) := _root_.id rfl
theorem v_int (k : IntKind) (n : Int) : ofVal (.int k n) = .one (.c (.int k n)) := _root_.id rfl
theorem v_bool (b : Bool) : ofVal (.bool b) = .one (.c (.bool b)) := _root_.id rfl
theorem v_string (s : ByteArray) : ofVal (.string s) = .one (.c (.string s)) := _root_.id rfl
theorem v_nil : ofVal (.slice none 0 0) = .one .nl := _root_.id rfl
theorem f_zero (v : AV) (r : List AV) : frame0 (v :: r) 0 = v := _root_.id rfl
theorem f_succ (v : AV) (r : List AV) (i : Nat) : frame0 (v :: r) (i + 1) = frame0 r i := _root_.id rfl
variable {P f h s Q x y}
theorem c_split {b : Bool} (h1 : b = true → goG P x s Q f h) (h2 : b = false → goG P y s Q f h) : cdG P (.one (.c (.bool b))) x y s Q f h := by cases b; exact h2 rfl; exact h1 rfl
theorem w_split {b t : Bool} {op : Op} {k : Ko} (h1 : b = true → wtG P (.one (.c (.bool true))) t op f h k) (h2 : b = false → wtG P (.one (.c (.bool false))) t op f h k) : wtG P (.one (.c (.bool b))) t op f h k := by cases b; exact h2 rfl; exact h1 rfl
theorem loop_at {b : Code} (I : Nat → AF → AH → Prop) (k : Nat) (h0 : GC Q.m (I k) f h) (hr : ∀ k f h (J : AF → AH → Prop), (∀ k' f' h', k' < k → I k' f' h' → J f' h') → I k f h → goG P b (.inv J :: s) Q f h) : lpG P b s Q f h := by
  refine ⟨I, k, h0, fun k f h hI => ?_⟩
  exact hr k f h (fun f' h' => ∃ k', k' < k ∧ I k' f' h') (fun k' f' h' hk hi => ⟨k', hk, hi⟩) hI
theorem draw_at {ops : Array Oper} (m d : Nat) (hd : (ops[m]?).bind (·.dst) = some d) (L : Sch) (hL : schedOk ops L = true) (H : drG P (dsts ops) ops L s Q f h []) : dwG P ops s Q f h := ⟨L, hL, H⟩
end
end Go.BL
end
section
namespace Go.BL
open Go.RowKit
set_option linter.unusedVariables false
set_option linter.unusedSimpArgs false
section
variable (P : Program) (f : AF) (h : AH) (k : Ko)
theorem o_move (x : Operand) : opG P (.move x) f h k = kr P k (ev f x) h := _root_.id rfl
theorem o_assign (x : Operand) : opG P (.assign x) f h k = kr P k (ev f x) h := _root_.id rfl
def pickG (P : Program) (c a b : AV) (h : AH) (k : Ko) : Prop := match c with | .one (.c (.bool t)) => kr P k (if t = true then a else b) h | _ => False
theorem o_pick (c a b : Operand) : opG P (.pick c a b) f h k = pickG P (ev f c) (ev f a) (ev f b) h k := _root_.id rfl
theorem pick_t (a b : AV) : pickG P (.one (.c (.bool true))) a b h k = kr P k a h := by simp only [pickG, if_true]
theorem pick_f (a b : AV) : pickG P (.one (.c (.bool false))) a b h k = kr P k b h := by simp only [pickG, Bool.false_eq_true, if_false]
def newG (P : Program) (t : TypeId) (z : Option (List CV)) (n : Option Nat) (h : AH) (k : Ko) : Prop := On z fun cs => On n fun n => n = cs.length ∧ 0 < n ∧ kr P k (.one (.pt h.length 0 0 0)) (h ++ [.own 0 t n (some 1) [cs]])
theorem o_alloc (t : TypeId) : opG P (.alloc t) f h k = newG P t (zeroA P t) (sizeA P t) h k := _root_.id rfl
theorem new_some (t : TypeId) (cs : List CV) (n : Nat) (hn : n = cs.length) (h0 : 0 < n) : newG P t (some cs) (some n) h k = kr P k (.one (.pt h.length 0 0 0)) (h ++ [.own 0 t n (some 1) [cs]]) := by simp only [newG, On, ← hn, h0, true_and]
def boxG (P : Program) (t : TypeId) (x : Option (List CV)) (h : AH) (k : Ko) : Prop := On x fun cs => 0 < cs.length ∧ kr P k (.one (.pt h.length 0 0 0)) (h ++ [.own 0 t cs.length (some 1) [cs]])
theorem o_box (t : TypeId) (x : Operand) : opG P (.box t x) f h k = boxG P t (cellsA (ev f x)) h k := _root_.id rfl
theorem box_some (t : TypeId) (cs : List CV) (h0 : 0 < cs.length) : boxG P t (some cs) h k = kr P k (.one (.pt h.length 0 0 0)) (h ++ [.own 0 t cs.length (some 1) [cs]]) := by simp only [boxG, On, h0, true_and]
def vG (P : Program) (v : Option AV) (h : AH) (k : Ko) : Prop := On v fun v => kr P k v h
theorem v_some (v : AV) : vG P (some v) h k = kr P k v h := _root_.id rfl
/-! ### Objects looked up -/
def obA (o : Option AO) (g : Nat) : Option (TypeId × Nat × Option Nat × List (List CV)) := match o with
  | some (.own g' t k cap es) => if g' = g then some (t, k, cap, es) else none
  | _ => none
theorem objA_at (l g : Nat) : objA h l g = obA h[l]? g := _root_.id rfl
theorem obA_own (g : Nat) (t : TypeId) (n : Nat) (cap : Option Nat) (es : List (List CV)) : obA (some (.own g t n cap es)) g = some (t, n, cap, es) := by simp [obA]
def obR (o : Option AO) (g : Nat) : Option (TypeId × Nat × List (List CV)) := match o with
  | some (.own g' t k cap es) => if g' = g then some (t, k, es) else none
  | some (.ro g' t k es) => if g' = g then some (t, k, es) else none
  | _ => none
theorem objR_at (l g : Nat) : objR h l g = obR h[l]? g := _root_.id rfl
theorem obR_own (g : Nat) (t : TypeId) (n : Nat) (cap : Option Nat) (es : List (List CV)) : obR (some (.own g t n cap es)) g = some (t, n, es) := by simp [obR]
/-! ### Loads and stores -/
def ldE (P : Program) (t : TypeId) (e : Option (List CV)) (off : Nat) : Option AV := e.bind fun e => partA P t e off
theorem ldE_some (t : TypeId) (e : List CV) (off : Nat) : ldE P t (some e) off = partA P t e off := _root_.id rfl
def ldR (P : Program) (t : TypeId) (q : Option (TypeId × Nat × List (List CV))) (i off : Nat) : Option AV := q.bind fun q => ldE P t (q.2.2[i]?) off
theorem ldR_some (t ty : TypeId) (n : Nat) (es : List (List CV)) (i off : Nat) : ldR P t (some (ty, n, es)) i off = ldE P t es[i]? off := _root_.id rfl
def loadG (P : Program) (t : TypeId) (a : AV) (h : AH) (k : Ko) : Prop := match a with
  | .one (.pt l g i off) => vG P (ldR P t (objR h l g) i off) h k
  | .one (.pel e off) => vG P (partA P t e off) h k
  | _ => False
theorem o_load (t : TypeId) (a : Operand) : opG P (.load t a) f h k = loadG P t (ev f a) h k := by
  simp only [opG, aop2, aop, aop1, loadG]
  split <;> simp_all only
  · rename_i l g i off _
    cases objR h l g with
    | none => rfl
    | some q =>
      simp only [On, ldR, ldE, vG, Option.bind_some]
      cases q.2.2[i]? <;> rfl
  · rfl
theorem load_pt (t : TypeId) (l g i off : Nat) : loadG P t (.one (.pt l g i off)) h k = vG P (ldR P t (objR h l g) i off) h k := _root_.id rfl
theorem load_pel (t : TypeId) (e : List CV) (off : Nat) : loadG P t (.one (.pel e off)) h k = vG P (partA P t e off) h k := _root_.id rfl
def stE (P : Program) (n : Option Nat) (l g i off : Nat) (q : TypeId × Nat × Option Nat × List (List CV)) (e : Option (List CV)) (x : Option (List CV)) (h : AH) (k : Ko) : Prop := On e fun e => On x fun vs => n = some vs.length ∧ off + vs.length ≤ e.length ∧ kr P k undefA (h.set l (.own g q.1 q.2.1 q.2.2.1 (q.2.2.2.set i (cset e off vs))))
def setG (P : Program) (n : Option Nat) (l g i off : Nat) (q : Option (TypeId × Nat × Option Nat × List (List CV))) (x : Option (List CV)) (h : AH) (k : Ko) : Prop := On q fun q => stE P n l g i off q q.2.2.2[i]? x h k
def storeG (P : Program) (n : Option Nat) (a x : AV) (h : AH) (k : Ko) : Prop := match a with
  | .one (.pt l g i off) => setG P n l g i off (objA h l g) (cellsA x) h k
  | _ => False
theorem o_store (t : TypeId) (a x : Operand) : opG P (.store t a x) f h k = storeG P (sizeA P t) (ev f a) (ev f x) h k := _root_.id rfl
theorem store_pt (n : Option Nat) (l g i off : Nat) (x : AV) : storeG P n (.one (.pt l g i off)) x h k = setG P n l g i off (objA h l g) (cellsA x) h k := _root_.id rfl
theorem set_some (n : Option Nat) (l g i off : Nat) (t : TypeId) (m : Nat) (cap : Option Nat) (es : List (List CV)) (x : Option (List CV)) : setG P n l g i off (some (t, m, cap, es)) x h k = stE P n l g i off (t, m, cap, es) es[i]? x h k := _root_.id rfl
theorem stE_some (n l g i off : Nat) (t : TypeId) (m : Nat) (cap : Option Nat) (es : List (List CV)) (e vs : List CV) (h1 : n = vs.length) (h2 : off + n ≤ e.length) : stE P (some n) l g i off (t, m, cap, es) (some e) (some vs) h k = kr P k undefA (h.set l (.own g t m cap (es.set i (cset e off vs)))) := by
  subst h1
  simp only [stE, On, true_and, eq_iff_iff]
  exact ⟨fun q => q.2, fun q => ⟨h2, q⟩⟩
def ptG (P : Program) (b : Bool) (v : AV) (h : AH) (k : Ko) : Prop := b = true ∧ kr P k v h
theorem pt_t (v : AV) : ptG P true v h k = kr P k v h := by simp [ptG]
def faG (P : Program) (q : Option (Nat × TypeId)) (a : AV) (h : AH) (k : Ko) : Prop := match a with
  | .one (.pt l g i off) => On q fun q => ptG P (objR h l g).isSome (.one (.pt l g i (off + q.1))) h k
  | .one (.pel e off) => On q fun q => kr P k (.one (.pel e (off + q.1))) h
  | _ => False
theorem o_fieldAddr (s : TypeId) (x : Operand) (i : Nat) : opG P (.fieldAddr s x i) f h k = faG P (offA P s i) (ev f x) h k := _root_.id rfl
theorem fa_pt (l g i off o : Nat) (t : TypeId) : faG P (some (o, t)) (.one (.pt l g i off)) h k = ptG P (objR h l g).isSome (.one (.pt l g i (off + o))) h k := _root_.id rfl
theorem fa_pel (e : List CV) (off o : Nat) (t : TypeId) : faG P (some (o, t)) (.one (.pel e off)) h k = kr P k (.one (.pel e (off + o))) h := _root_.id rfl
def fdG (P : Program) (q : Option (Nat × TypeId)) (a : AV) (h : AH) (k : Ko) : Prop := match a with
  | .agg cs => On q fun q => vG P (partA P q.2 cs q.1) h k
  | _ => False
def iaO (P : Program) (n : Nat) (q : Option (TypeId × Nat × List (List CV))) (l g off len : Nat) (i : Int) (h : AH) (k : Ko) : Prop := On q fun q => q.2.1 = n ∧ 0 ≤ i ∧ i < len ∧ kr P k (.one (.pt l g (off + i.toNat) 0)) h
def iaE (P : Program) (n : Nat) (e : Option (List CV)) (h : AH) (k : Ko) : Prop := On e fun e => e.length = n ∧ kr P k (.one (.pel e 0)) h
def iaG (P : Program) (n : Option Nat) (x ix : AV) (h : AH) (k : Ko) : Prop := On n fun n => match x, ix with
    | .one (.sl l g off len), .one (.c (.int _ i)) => iaO P n (objR h l g) l g off len i h k
    | .one (.im es), .one (.c (.int _ i)) => 0 ≤ i ∧ iaE P n es[i.toNat]? h k
    | _, _ => False
theorem o_indexAddr (t : TypeId) (x ix : Operand) : opG P (.indexAddr t x ix) f h k = iaG P ((elemA P t).bind (sizeA P)) (ev f x) (ev f ix) h k := by
  simp only [opG, aop2, aop, aop1, iaG]
  cases elemA P t <;> simp only [On, Option.bind_some, Option.bind_none]
  cases sizeA P _ <;> simp only
  rfl
theorem ia_sl (n l g off len : Nat) (ki : IntKind) (i : Int) : iaG P (some n) (.one (.sl l g off len)) (.one (.c (.int ki i))) h k = iaO P n (objR h l g) l g off len i h k := _root_.id rfl
theorem iaO_some (n l g off len : Nat) (t : TypeId) (es : List (List CV)) (i : Int) : iaO P n (some (t, n, es)) l g off len i h k = (0 ≤ i ∧ i < len ∧ kr P k (.one (.pt l g (off + i.toNat) 0)) h) := by simp [iaO, On]
theorem ia_im (n : Nat) (es : List (List CV)) (ki : IntKind) (i : Int) : iaG P (some n) (.one (.im es)) (.one (.c (.int ki i))) h k = (0 ≤ i ∧ iaE P n es[i.toNat]? h k) := _root_.id rfl
theorem iaE_some (n : Nat) (e : List CV) (hn : e.length = n) : iaE P n (some e) h k = kr P k (.one (.pel e 0)) h := by simp [iaE, On, hn]
def ixG (P : Program) (b : Bool) (x ix : AV) (h : AH) (k : Ko) : Prop := b = true ∧ (match x, ix with
    | .one (.c (.string s)), .one (.c (.int _ i)) => 0 ≤ i ∧ ∃ hi : i.toNat < s.size, kr P k (.one (.c (.int .u8 (s[i.toNat]'hi).toNat))) h
    | _, _ => False)
theorem o_index (t : TypeId) (x ix : Operand) : opG P (.index t x ix) f h k = ixG P (strA P t) (ev f x) (ev f ix) h k := _root_.id rfl
theorem ix_str (s : ByteArray) (ki : IntKind) (i : Int) : ixG P true (.one (.c (.string s))) (.one (.c (.int ki i))) h k = (0 ≤ i ∧ ∃ hi : i.toNat < s.size, kr P k (.one (.c (.int .u8 (s[i.toNat]'hi).toNat))) h) := by simp only [ixG, true_and]
def nqG (P : Program) (op : BinOp) (b1 b2 b3 : Bool) (q : Option Bool) (h : AH) (k : Ko) : Prop := b1 = true ∧ b2 = true ∧ b3 = true ∧ (match op, q with
      | .eql, some b => kr P k (.one (.c (.bool b))) h
      | .neq, some b => kr P k (.one (.c (.bool (!b)))) h
      | .eql, none => ∀ b, kr P k (.one (.c (.bool b))) h
      | .neq, none => ∀ b, kr P k (.one (.c (.bool b))) h
      | _, _ => False)
theorem is_im (es : List (List CV)) : isSl (.im es) = true := _root_.id rfl
theorem fr_im (es : List (List CV)) : fresh h (.im es) = true := _root_.id rfl
theorem nq_im0 : nilQ (.im []) = none := _root_.id rfl
theorem nq_im (es : List (List CV)) (he : es ≠ []) : nilQ (.im es) = some false := by simp [nilQ, he]
def biG (P : Program) (op : BinOp) (t : TypeId) (x y : AV) (h : AH) (k : Ko) : Prop := match x, y with
    | .one (.c a), .one (.c b) => On (binA P op t a b) fun v => kr P k (.one (.c v)) h
    | .one a, .one .nl => nqG P op (elemA P t).isSome (isSl a) (fresh h a) (nilQ a) h k
    | .agg xs, .agg ys => On (eqTA P t) fun fs => On (eqFA P xs ys fs) fun b => (match op with
      | .eql => kr P k (.one (.c (.bool b))) h
      | .neq => kr P k (.one (.c (.bool (!b)))) h
      | _ => False)
    | _, _ => False
theorem o_bin (op : BinOp) (t : TypeId) (x y : Operand) (t2 : TypeId) : opG P (.binOp op t x y t2) f h k = biG P op t (ev f x) (ev f y) h k := _root_.id rfl
theorem b_add (t : TypeId) (a b : Int) : biG P .add t (.one (.c (.int .i64 a))) (.one (.c (.int .i64 b))) h k = kr P k (.one (.c (.int .i64 (wrap64 (a + b))))) h := by simp only [biG, On, binA, intA, if_true, IntKind.wrap_i64, wrap64]
theorem b_sub (t : TypeId) (a b : Int) : biG P .sub t (.one (.c (.int .i64 a))) (.one (.c (.int .i64 b))) h k = kr P k (.one (.c (.int .i64 (wrap64 (a - b))))) h := by simp only [biG, On, binA, intA, if_true, IntKind.wrap_i64, wrap64]
theorem b_mul (t : TypeId) (a b : Int) : biG P .mul t (.one (.c (.int .i64 a))) (.one (.c (.int .i64 b))) h k = kr P k (.one (.c (.int .i64 (wrap64 (a * b))))) h := by simp only [biG, On, binA, intA, if_true, IntKind.wrap_i64, wrap64]
theorem b_quo (t : TypeId) (a b : Int) (hb : b ≠ 0) : biG P .quo t (.one (.c (.int .i64 a))) (.one (.c (.int .i64 b))) h k = kr P k (.one (.c (.int .i64 (wrap64 (a.tdiv b))))) h := by simp only [biG, On, binA, intA, if_true, if_neg hb, IntKind.wrap_i64, wrap64]
theorem b_rem (t : TypeId) (a b : Int) (hb : b ≠ 0) : biG P .rem t (.one (.c (.int .i64 a))) (.one (.c (.int .i64 b))) h k = kr P k (.one (.c (.int .i64 (a.tmod b)))) h := by simp only [biG, On, binA, intA, if_true, if_neg hb]
theorem b_eql (t : TypeId) (ki : IntKind) (a b : Int) : biG P .eql t (.one (.c (.int ki a))) (.one (.c (.int ki b))) h k = kr P k (.one (.c (.bool (a == b)))) h := by simp only [biG, On, binA, intA, if_true]
theorem b_neq (t : TypeId) (ki : IntKind) (a b : Int) : biG P .neq t (.one (.c (.int ki a))) (.one (.c (.int ki b))) h k = kr P k (.one (.c (.bool (!(a == b))))) h := by simp only [biG, On, binA, intA, if_true]; rfl
theorem b_lss (t : TypeId) (ki : IntKind) (a b : Int) : biG P .lss t (.one (.c (.int ki a))) (.one (.c (.int ki b))) h k = kr P k (.one (.c (.bool (decide (a < b))))) h := by simp only [biG, On, binA, intA, if_true]
theorem b_leq (t : TypeId) (ki : IntKind) (a b : Int) : biG P .leq t (.one (.c (.int ki a))) (.one (.c (.int ki b))) h k = kr P k (.one (.c (.bool (decide (a ≤ b))))) h := by simp only [biG, On, binA, intA, if_true]
theorem b_gtr (t : TypeId) (ki : IntKind) (a b : Int) : biG P .gtr t (.one (.c (.int ki a))) (.one (.c (.int ki b))) h k = kr P k (.one (.c (.bool (decide (b < a))))) h := by simp only [biG, On, binA, intA, if_true, gt_iff_lt]
theorem b_geq (t : TypeId) (ki : IntKind) (a b : Int) : biG P .geq t (.one (.c (.int ki a))) (.one (.c (.int ki b))) h k = kr P k (.one (.c (.bool (decide (b ≤ a))))) h := by simp only [biG, On, binA, intA, if_true, ge_iff_le]
theorem b_bneq (t : TypeId) (a b : Bool) (hb : boolA P t = true) : biG P .neq t (.one (.c (.bool a))) (.one (.c (.bool b))) h k = kr P k (.one (.c (.bool (!(a == b))))) h := by simp only [biG, On, binA, hb, if_true]
theorem b_addk (t : TypeId) (ki : IntKind) (a b : Int) : biG P .add t (.one (.c (.int ki a))) (.one (.c (.int ki b))) h k = kr P k (.one (.c (.int ki (ki.wrap (a + b))))) h := by simp only [biG, On, binA, intA, if_true]
theorem b_subk (t : TypeId) (ki : IntKind) (a b : Int) : biG P .sub t (.one (.c (.int ki a))) (.one (.c (.int ki b))) h k = kr P k (.one (.c (.int ki (ki.wrap (a - b))))) h := by simp only [biG, On, binA, intA, if_true]
theorem b_mulk (t : TypeId) (ki : IntKind) (a b : Int) : biG P .mul t (.one (.c (.int ki a))) (.one (.c (.int ki b))) h k = kr P k (.one (.c (.int ki (ki.wrap (a * b))))) h := by simp only [biG, On, binA, intA, if_true]
theorem b_quok (t : TypeId) (ki : IntKind) (a b : Int) (hb : b ≠ 0) : biG P .quo t (.one (.c (.int ki a))) (.one (.c (.int ki b))) h k = kr P k (.one (.c (.int ki (ki.wrap (a.tdiv b))))) h := by simp only [biG, On, binA, intA, if_true, if_neg hb]
theorem b_and (t : TypeId) (ki : IntKind) (a b : Int) : biG P .and t (.one (.c (.int ki a))) (.one (.c (.int ki b))) h k = kr P k (.one (.c (.int ki (ki.wrap (BitVec.ofInt ki.bits a &&& BitVec.ofInt ki.bits b).toNat)))) h := by simp only [biG, On, binA, intA, if_true]
theorem b_or (t : TypeId) (ki : IntKind) (a b : Int) : biG P .or t (.one (.c (.int ki a))) (.one (.c (.int ki b))) h k = kr P k (.one (.c (.int ki (ki.wrap (BitVec.ofInt ki.bits a ||| BitVec.ofInt ki.bits b).toNat)))) h := by simp only [biG, On, binA, intA, if_true]
theorem b_xor (t : TypeId) (ki : IntKind) (a b : Int) : biG P .xor t (.one (.c (.int ki a))) (.one (.c (.int ki b))) h k = kr P k (.one (.c (.int ki (ki.wrap (BitVec.ofInt ki.bits a ^^^ BitVec.ofInt ki.bits b).toNat)))) h := by simp only [biG, On, binA, intA, if_true]
theorem b_shl (t : TypeId) (ki kj : IntKind) (a b : Int) (hb : 0 ≤ b) : biG P .shl t (.one (.c (.int ki a))) (.one (.c (.int kj b))) h k = kr P k (.one (.c (.int ki (ki.wrap (a * 2 ^ min b.toNat ki.bits))))) h := by simp only [biG, On, binA, if_neg (Int.not_lt.2 hb)]
theorem b_shr (t : TypeId) (ki kj : IntKind) (a b : Int) (hb : 0 ≤ b) : biG P .shr t (.one (.c (.int ki a))) (.one (.c (.int kj b))) h k = kr P k (.one (.c (.int ki (a.fdiv (2 ^ min b.toNat ki.bits))))) h := by simp only [biG, On, binA, if_neg (Int.not_lt.2 hb)]
theorem b_nil (op : BinOp) (t : TypeId) (a : CV) (ha : isSl a = true) : biG P op t (.one a) (.one .nl) h k = nqG P op (elemA P t).isSome (isSl a) (fresh h a) (nilQ a) h k := by
  cases a <;> first | rfl | cases ha
def unG (P : Program) (op : UnOp) (x : AV) (h : AH) (k : Ko) : Prop := match x with
    | .one (.c a) => On (unA op a) fun v => kr P k (.one (.c v)) h
    | _ => False
theorem o_un (op : UnOp) (t : TypeId) (x : Operand) : opG P (.unOp op t x) f h k = unG P op (ev f x) h k := _root_.id rfl
theorem un_not (b : Bool) : unG P .not (.one (.c (.bool b))) h k = kr P k (.one (.c (.bool (!b)))) h := _root_.id rfl
def exG (P : Program) (x : AV) (i : Nat) (h : AH) (k : Ko) : Prop := match x with
    | .tup xs => vG P xs[i]? h k
    | _ => False
theorem o_extract (x : Operand) (i : Nat) : opG P (.extract x i) f h k = exG P (ev f x) i h k := _root_.id rfl
theorem ex_tup (xs : List AV) (i : Nat) : exG P (.tup xs) i h k = vG P xs[i]? h k := _root_.id rfl
def ncG (P : Program) (x : AV) (h : AH) (k : Ko) : Prop := match x with
    | .one (.pt l g i off) => ptG P (objR h l g).isSome (.one (.pt l g i off)) h k
    | .one (.pel e off) => kr P k (.one (.pel e off)) h
    | _ => False
theorem o_nilCheck (x : Operand) : opG P (.nilCheck x) f h k = ncG P (ev f x) h k := _root_.id rfl
theorem nc_pt (l g i off : Nat) : ncG P (.one (.pt l g i off)) h k = ptG P (objR h l g).isSome (.one (.pt l g i off)) h k := _root_.id rfl
def lnG (P : Program) (t : TypeId) (x : AV) (h : AH) (k : Ko) : Prop := match x with
        | .one (.c (.string s)) => strA P t = true ∧ kr P k (.one (.c (.int .i64 s.size))) h
        | .one .nl => (elemA P t).isSome = true ∧ kr P k (.one (.c (.int .i64 0))) h
        | .one .emp => (elemA P t).isSome = true ∧ kr P k (.one (.c (.int .i64 0))) h
        | .one (.im es) => (elemA P t).isSome = true ∧ kr P k (.one (.c (.int .i64 es.length))) h
        | .one (.sl l g _ len) => (elemA P t).isSome = true ∧ (objR h l g).isSome = true ∧ kr P k (.one (.c (.int .i64 len))) h
        | _ => False
theorem o_len (x : Operand) (t : TypeId) : opG P (.call { callee := .builtin .len, args := #[x], argTypes := #[t] }) f h k = lnG P t (ev f x) h k := _root_.id rfl
theorem ln_im (t : TypeId) (es : List (List CV)) (ht : (elemA P t).isSome = true) : lnG P t (.one (.im es)) h k = kr P k (.one (.c (.int .i64 es.length))) h := by simp [lnG, ht]
theorem ln_sl (t : TypeId) (l g off len : Nat) (ht : (elemA P t).isSome = true) : lnG P t (.one (.sl l g off len)) h k = ptG P (objR h l g).isSome (.one (.c (.int .i64 len))) h k := by simp [lnG, ht, ptG]
def caG (P : Program) (g : AV) (args : List AV) (h : AH) (k : Ko) : Prop := match g with
      | .one (.clo g caps) => callA2 P g (args ++ caps.map fun l => .one (.pt l 0 0 0)) h (kr P k) (krl P k) (krf P k)
      | _ => False
def clG (P : Program) (g : Nat) (args args' : List AV) (ls : List Nat) (b : Bool) (h : AH) (k : Ko) : Prop :=
  (ACalls P g args' [] fun r h' => if freeA r = true ∧ h'.all freeO = true then krl P k (shA h.length r) (h ++ h'.map (shO h.length)) else krf P k ls (shA h.length r) (frH ls h ++ h'.map (shO h.length))) ∨ (b = false ∧ ACalls P g args h (kr P k)) ∨ ExtA P g args h (krl P k) ∨ (b = true ∧ ACalls P g args [] fun r h' => if freeA r = true ∧ h'.all freeO = true then krl P k (shA h.length r) (h ++ h'.map (shO h.length)) else krf P k ls (shA h.length r) (frH ls h ++ h'.map (shO h.length))) ∨ ∃ q, b = false ∧ FCalls P g args h q (krf P k q)
theorem o_call (g : Operand) (args : Array Operand) (ts : Array TypeId) : opG P (.call { callee := .value g, args := args, argTypes := ts }) f h k = caG P (ev f g) (args.toList.map (ev f)) h k := _root_.id rfl
theorem ca_fn (g : Nat) (args : List AV) : caG P (.one (.clo g [])) args h k = clG P g args (args.map (imA h)) (args.flatMap locA) (args.all clA) h k := by simp only [caG, List.map_nil, List.append_nil, callA2, clG, calK2]; rfl
theorem ca_clos (g : Nat) (caps : List Nat) (args : List AV) (ds : DS) (dst : Option Nat) (r : List Oper) (s : List Fr) (Q : QT) (f' : AF) : caG P (.one (.clo g caps)) args h (.sq ds dst r s Q f') = callA P g (args ++ caps.map fun l => .one (.pt l 0 0 0)) h (kr P (.sq ds dst r s Q f')) := callA2_same P g _ h (kr P (.sq ds dst r s Q f'))
theorem c_int (ki : IntKind) (n : Int) : cellsA (.one (.c (.int ki n))) = some [.c (.int ki n)] := _root_.id rfl
theorem c_im (es : List (List CV)) : cellsA (.one (.im es)) = some [.im es] := _root_.id rfl
theorem c_sl (l g o n : Nat) : cellsA (.one (.sl l g o n)) = some [.sl l g o n] := _root_.id rfl
theorem c_agg (xs : List CV) : cellsA (.agg xs) = some xs := _root_.id rfl
def paG (a : Option Bool) (n : Option Nat) (cs : List CV) (off : Nat) : Option AV := match a with
  | some true => (match n with | some n => if off + n ≤ cs.length then some (.agg ((cs.drop off).take n)) else none | none => none)
  | some false => (cs[off]?).map .one
  | none => none
theorem p_any (t : TypeId) (cs : List CV) (off : Nat) : partA P t cs off = paG (aggA P t) (sizeA P t) cs off := _root_.id rfl
theorem p_one (n : Option Nat) (cs : List CV) (off : Nat) : paG (some false) n cs off = (cs[off]?).map .one := _root_.id rfl
theorem p_agg (n : Nat) (cs : List CV) (off : Nat) : paG (some true) (some n) cs off = if off + n ≤ cs.length then some (.agg ((cs.drop off).take n)) else none := _root_.id rfl
end
/-! ### The heap's own steps -/
theorem h_at0 (h a : AH) : (h ++ a)[h.length]? = a[0]? := by rw [List.getElem?_append_right (by omega)]; congr 1; omega
theorem h_old {h : AH} {l : Nat} {o : AO} (a : AH) (hl : h[l]? = some o) : (h ++ a)[l]? = some o := by rw [List.getElem?_append_left (List.getElem?_eq_some_iff.1 hl).1]; exact hl
theorem cset_nil {α : Type} (cs : List α) (off : Nat) : cset cs off [] = cs := by simp [cset]
theorem cset_cons {α : Type} (cs : List α) (off : Nat) (v : α) (vs : List α) : cset cs off (v :: vs) = cset (cs.set off v) (off + 1) vs := by simp [cset]
/-! ### Values by content -/
section
variable (h : AH)
theorem im_c (v : Value) : imA h (.one (.c v)) = .one (.c v) := _root_.id rfl
theorem im_im (es : List (List CV)) : imA h (.one (.im es)) = .one (.im es) := _root_.id rfl
theorem im_sl (l g off len : Nat) : imA h (.one (.sl l g off len)) = .one (imV h (.sl l g off len)) := _root_.id rfl
theorem im_clo (g : Nat) : imA h (.one (.clo g [])) = .one (.clo g []) := _root_.id rfl
theorem im_agg (xs : List CV) : imA h (.agg xs) = .agg (xs.map (imV h)) := _root_.id rfl
theorem imv_c (v : Value) : imV h (.c v) = .c v := _root_.id rfl
theorem imv_im (es : List (List CV)) : imV h (.im es) = .im es := _root_.id rfl
def imS (q : Option (TypeId × Nat × List (List CV))) (off len : Nat) : CV := match q with
    | some q => if off + len ≤ q.2.2.length then .im (((q.2.2.drop off).take len).map (·.map clz)) else .junk
    | none => .junk
theorem imv_sl (l g off len : Nat) : imV h (.sl l g off len) = imS (objR h l g) off len := _root_.id rfl
theorem imS_some (t : TypeId) (n : Nat) (es : List (List CV)) (off len : Nat) : imS (some (t, n, es)) off len = if off + len ≤ es.length then .im (((es.drop off).take len).map (·.map clz)) else .junk := _root_.id rfl
theorem clz_c (v : Value) : clz (.c v) = .c v := _root_.id rfl
theorem lo_c (v : Value) : locA (.one (.c v)) = [] := _root_.id rfl
theorem lo_im (es : List (List CV)) : locA (.one (.im es)) = [] := _root_.id rfl
theorem lo_pt (l g i o : Nat) : locA (.one (.pt l g i o)) = [] := _root_.id rfl
theorem lo_sl (l g off len : Nat) : locA (.one (.sl l g off len)) = [l] := _root_.id rfl
theorem lo_clo (g : Nat) (caps : List Nat) : locA (.one (.clo g caps)) = [] := _root_.id rfl
theorem lo_agg (xs : List CV) : locA (.agg xs) = xs.flatMap locV := _root_.id rfl
theorem lv_c (v : Value) : locV (.c v) = [] := _root_.id rfl
theorem lv_im (es : List (List CV)) : locV (.im es) = [] := _root_.id rfl
theorem lv_sl (l g off len : Nat) : locV (.sl l g off len) = [l] := _root_.id rfl
theorem fz_nil : frH [] h = h := _root_.id rfl
def frO2 (o : Option AO) (l : Nat) (h : AH) : AH := match o with | some o => h.set l (frO o) | none => h
theorem fz_cons (l : Nat) (r : List Nat) : frH (l :: r) h = frH r (frO2 h[l]? l h) := _root_.id rfl
theorem frO2_some (o : AO) (l : Nat) : frO2 (some o) l h = h.set l (frO o) := _root_.id rfl
theorem frO_own (g : Nat) (t : TypeId) (n : Nat) (cap : Option Nat) (es : List (List CV)) : frO (.own g t n cap es) = .ro g t n (es.map (·.map clz)) := _root_.id rfl
theorem pl_c (v : Value) : plainA (.one (.c v)) = true := _root_.id rfl
theorem pl_im (es : List (List CV)) : plainA (.one (.im es)) = false := _root_.id rfl
theorem pl_agg (xs : List CV) : plainA (.agg xs) = xs.all plainC := _root_.id rfl
theorem pl_tup (xs : List AV) : plainA (.tup xs) = xs.all plainA1 := _root_.id rfl
theorem pl1_c (v : Value) : plainA1 (.one (.c v)) = true := _root_.id rfl
theorem plc_c (v : Value) : plainC (.c v) = true := _root_.id rfl
theorem plc_sl (l g off len : Nat) : plainC (.sl l g off len) = false := _root_.id rfl
theorem sh_1 (n : Nat) (x : CV) : shA n (.one x) = .one (shV n x) := _root_.id rfl
theorem sh_agg (n : Nat) (xs : List CV) : shA n (.agg xs) = .agg (xs.map (shV n)) := _root_.id rfl
theorem sh_tup (n : Nat) (xs : List AV) : shA n (.tup xs) = .tup (xs.map (shA1 n)) := _root_.id rfl
theorem sh1_1 (n : Nat) (x : CV) : shA1 n (.one x) = .one (shV n x) := _root_.id rfl
theorem shv_c (n : Nat) (v : Value) : shV n (.c v) = .c v := _root_.id rfl
theorem shv_im (n : Nat) (es : List (List CV)) : shV n (.im es) = .im es := _root_.id rfl
theorem shv_sl (n l g off len : Nat) : shV n (.sl l g off len) = .sl (n + l) g off len := _root_.id rfl
theorem sho_own (n g : Nat) (t : TypeId) (m : Nat) (cap : Option Nat) (es : List (List CV)) : shO n (.own g t m cap es) = .own g t m cap (es.map (·.map (shV n))) := _root_.id rfl
end
end Go.BL
end
section
namespace Go.BL
open Go.RowKit
set_option linter.unusedVariables false
set_option linter.unusedSimpArgs false
section
variable (P : Program) (f : AF) (h : AH) (k : Ko)
/-! ### Structs built -/
def pt2 (i : Nat) (v : Option (List CV)) (r : Option (List (Nat × List CV))) : Option (List (Nat × List CV)) := match v, r with | some cs, some q => some ((i, cs) :: q) | _, _ => none
theorem pt_nil : partsA f [] = some [] := _root_.id rfl
theorem pt_cons (i : Nat) (x : Operand) (r : List (Nat × Operand)) : partsA f ((i, x) :: r) = pt2 i (cellsA (ev f x)) (partsA f r) := _root_.id rfl
theorem pt2_some (i : Nat) (v : List CV) (r : List (Nat × List CV)) : pt2 i (some v) (some r) = some ((i, v) :: r) := _root_.id rfl
/-! ### Slices built -/
theorem fe_nil (n : Nat) (es : List (List CV)) : fillE n es [] = some es := _root_.id rfl
theorem fe_cons (n : Nat) (es : List (List CV)) (v : List CV) (i : Nat) (ps : List (Nat × List CV)) : fillE n es ((i, v) :: ps) = if v.length = n ∧ i < es.length then fillE n (es.set i v) ps else none := by simp only [fillE]
def bsG (P : Program) (e : Option TypeId) (len : Nat) (ps : Option (List (Nat × List CV))) (h : AH) (k : Ko) : Prop := On e fun e => On (sizeA P e) fun n => On (zeroA P e) fun z => On ps fun ps => z.length = n ∧ 0 < n ∧ len * n ≤ 16777216 ∧
      On (fillE n (List.replicate len z) ps) fun es => kr P k (.one (.sl h.length 0 0 len)) (h ++ [.own 0 e n (some len) es])
def bs2 (P : Program) (e : TypeId) (n : Option Nat) (z : Option (List CV)) (len : Nat) (ps : Option (List (Nat × List CV))) (h : AH) (k : Ko) : Prop := On n fun n => On z fun z => On ps fun ps => z.length = n ∧ 0 < n ∧ len * n ≤ 16777216 ∧
      On (fillE n (List.replicate len z) ps) fun es => kr P k (.one (.sl h.length 0 0 len)) (h ++ [.own 0 e n (some len) es])
def bs3 (P : Program) (e n len : Nat) (es : Option (List (List CV))) (h : AH) (k : Ko) : Prop := On es fun es => kr P k (.one (.sl h.length 0 0 len)) (h ++ [.own 0 e n (some len) es])
theorem o_buildSlice (t : TypeId) (len : Nat) (parts : Array (Nat × Operand)) : opG P (.buildSlice t len parts) f h k = bsG P (elemA P t) len (partsA f parts.toList) h k := _root_.id rfl
theorem bs_some (e : TypeId) (len : Nat) (ps : Option (List (Nat × List CV))) : bsG P (some e) len ps h k = bs2 P e (sizeA P e) (zeroA P e) len ps h k := _root_.id rfl
theorem bs2_some (e n len : Nat) (z : List CV) (ps : List (Nat × List CV)) : bs2 P e (some n) (some z) len (some ps) h k = (z.length = n ∧ 0 < n ∧ len * n ≤ 16777216 ∧ bs3 P e n len (fillE n (List.replicate len z) ps) h k) := _root_.id rfl
theorem bs3_some (e n len : Nat) (es : List (List CV)) : bs3 P e n len (some es) h k = kr P k (.one (.sl h.length 0 0 len)) (h ++ [.own 0 e n (some len) es]) := _root_.id rfl
/-! ### Slices made -/
def mkG (P : Program) (e : Option TypeId) (l c : Option Nat) (h : AH) (k : Ko) : Prop := On e fun e => On (sizeA P e) fun n => On (zeroA P e) fun z => On (bytesA P e) fun by_ => On l fun m => On c fun n2 => m ≤ n2 ∧ z.length = n ∧ 0 < n ∧ by_ * n2 ≤ 281474976710656 ∧ n2 ≤ maxLen ∧
      kr P k (.one (.sl h.length 0 0 m)) (h ++ [.own 0 e n (some n2) (List.replicate m z)])
theorem o_makeSlice (t : TypeId) (l c : Operand) : opG P (.makeSlice t l c) f h k = mkG P (elemA P t) (boundA 0 (some (ev f l))) (boundA 0 (some (ev f c))) h k := _root_.id rfl
def mk2 (P : Program) (e : TypeId) (n : Option Nat) (z : Option (List CV)) (b : Option Nat) (m n2 : Nat) (h : AH) (k : Ko) : Prop := On n fun n => On z fun z => On b fun by_ => m ≤ n2 ∧ z.length = n ∧ 0 < n ∧ by_ * n2 ≤ 281474976710656 ∧ n2 ≤ maxLen ∧ kr P k (.one (.sl h.length 0 0 m)) (h ++ [.own 0 e n (some n2) (List.replicate m z)])
theorem mk_some (e : TypeId) (m n2 : Nat) : mkG P (some e) (some m) (some n2) h k = mk2 P e (sizeA P e) (zeroA P e) (bytesA P e) m n2 h k := by simp only [mkG, mk2, On]
theorem mk2_some (e n m n2 b : Nat) (z : List CV) : mk2 P e (some n) (some z) (some b) m n2 h k = (m ≤ n2 ∧ z.length = n ∧ 0 < n ∧ b * n2 ≤ 281474976710656 ∧ n2 ≤ maxLen ∧ kr P k (.one (.sl h.length 0 0 m)) (h ++ [.own 0 e n (some n2) (List.replicate m z)])) := _root_.id rfl
theorem bd_none (len : Nat) : boundA len none = some len := _root_.id rfl
theorem bd_int (len : Nat) (ki : IntKind) (i : Int) : boundA len (some (.one (.c (.int ki i)))) = if 0 ≤ i then some i.toNat else none := _root_.id rfl
/-! ### Cuts -/
def slG (P : Program) (t : TypeId) (v : AV) (lo hi mx : Option AV) (h : AH) (k : Ko) : Prop := match v with
    | .one (.c (.string s)) => strA P t = true ∧ mx.isNone = true ∧ On (boundA 0 lo) fun i => On (boundA s.size hi) fun j => i ≤ j ∧ j ≤ s.size ∧ kr P k (.one (.c (.string (s.extract i j)))) h
    | .one .nl => On (elemA P t) fun e => (sizeA P e).isSome = true ∧ On (boundA 0 lo) fun i => On (boundA 0 hi) fun j => On (boundA 0 mx) fun m => i = 0 ∧ j = 0 ∧ m = 0 ∧ (mx.isSome = true → hi.isSome = true) ∧ kr P k (.one .nl) h
    | .one .emp => On (elemA P t) fun e => (sizeA P e).isSome = true ∧ On (boundA 0 lo) fun i => On (boundA 0 hi) fun j => On (boundA 0 mx) fun m => i = 0 ∧ j = 0 ∧ m = 0 ∧ (mx.isSome = true → hi.isSome = true) ∧ kr P k (.one .emp) h
    | .one (.im es) => On (elemA P t) fun e => On (sizeA P e) fun n => ksB n es = true ∧ On (boundA 0 lo) fun i => On (boundA es.length hi) fun j => i ≤ j ∧ j ≤ es.length ∧ (match mx with
      | none => kr P k (.one (.im ((es.drop i).take (j - i)))) h
      | some m0 => On (boundA 0 (some m0)) fun m => j ≤ m ∧ m ≤ es.length ∧ hi.isSome = true ∧ m = i ∧ kr P k (.one .emp) h)
    | .one (.sl l g off len) => On (elemA P t) fun e => On (objR h l g) fun q => sizeA P e = some q.2.1 ∧ 0 < q.2.1 ∧ On (boundA 0 lo) fun i => On (boundA len hi) fun j => i ≤ j ∧ off + j ≤ q.2.2.length ∧ (match mx with
      | none => if off + i < q.2.2.length ∨ i = 0 then kr P k (.one (.sl l g (off + i) (j - i))) h else kr P k (.one (.im [])) h
      | some m0 => On (boundA 0 (some m0)) fun m => j ≤ m ∧ off + m ≤ q.2.2.length ∧ hi.isSome = true ∧ (if m = i then kr P k (.one .emp) h else kr P k (.one .junk) h))
    | _ => False
theorem o_slice (t : TypeId) (x : Operand) (lo hi mx : Option Operand) : opG P (.slice t x lo hi mx) f h k = slG P t (ev f x) (lo.map (ev f)) (hi.map (ev f)) (mx.map (ev f)) h k := by
  simp only [opG, aop2, aop, slG, Option.isNone_map, Option.isSome_map]
  cases mx <;> rfl
def sxG (P : Program) (n : Option Nat) (l g off : Nat) (q : Option (TypeId × Nat × List (List CV))) (i j : Option Nat) (h : AH) (k : Ko) : Prop := On q fun q => n = some q.2.1 ∧ 0 < q.2.1 ∧ On i fun i => On j fun j => i ≤ j ∧ off + j ≤ q.2.2.length ∧ (if off + i < q.2.2.length ∨ i = 0 then kr P k (.one (.sl l g (off + i) (j - i))) h else kr P k (.one (.im [])) h)
theorem sl_sl (t : TypeId) (l g off len : Nat) (lo hi : Option AV) (e : TypeId) (he : elemA P t = some e) : slG P t (.one (.sl l g off len)) lo hi none h k = sxG P (sizeA P e) l g off (objR h l g) (boundA 0 lo) (boundA len hi) h k := by
  simp only [slG, sxG, he, On]
def sxE (P : Program) (e : Option TypeId) (l g off : Nat) (q : Option (TypeId × Nat × List (List CV))) (i j : Option Nat) (h : AH) (k : Ko) : Prop := On e fun e => sxG P (sizeA P e) l g off q i j h k
theorem sl_se (t : TypeId) (l g off len : Nat) (lo hi : Option AV) : slG P t (.one (.sl l g off len)) lo hi none h k = sxE P (elemA P t) l g off (objR h l g) (boundA 0 lo) (boundA len hi) h k := by
  cases he : elemA P t with
  | none => simp only [slG, sxE, he, On]
  | some e => rw [sl_sl (e := e) (he := he)]; simp only [sxE, On]
theorem sxe_some (e : TypeId) (l g off : Nat) (q : Option (TypeId × Nat × List (List CV))) (i j : Option Nat) : sxE P (some e) l g off q i j h k = sxG P (sizeA P e) l g off q i j h k := _root_.id rfl
theorem sx_a (n l g off : Nat) (t : TypeId) (es : List (List CV)) (i j : Nat) (hn : 0 < n) (hij : i ≤ j) (hj : off + j ≤ es.length) (hi : off + i < es.length) : sxG P (some n) l g off (some (t, n, es)) (some i) (some j) h k = kr P k (.one (.sl l g (off + i) (j - i))) h := by simp only [sxG, On, hn, hij, hj, true_and, hi, true_or, if_true]
theorem sx_0 (n l g off : Nat) (t : TypeId) (es : List (List CV)) (j : Nat) (hn : 0 < n) (hj : off + j ≤ es.length) : sxG P (some n) l g off (some (t, n, es)) (some 0) (some j) h k = kr P k (.one (.sl l g off j)) h := by simp [sxG, On, hn, hj]
/-! ### Closures -/
def capA (f : AF) (h : AH) : List Operand → Option (List Nat)
  | [] => some []
  | x :: r => match ev f x, capA f h r with | .one (.pt l 0 0 0), some q => if (objA h l 0).isSome = true then some (l :: q) else none | _, _ => none
def cap2 (h : AH) (v : AV) (r : Option (List Nat)) : Option (List Nat) := match v, r with | .one (.pt l 0 0 0), some q => if (objA h l 0).isSome = true then some (l :: q) else none | _, _ => none
theorem cap_eq (f : AF) (h : AH) : ∀ xs : List Operand, (xs.mapM fun x => match ev f x with | .one (.pt l 0 0 0) => if (objA h l 0).isSome = true then some l else none | _ => none) = capA f h xs
  | [] => by simp [capA]
  | x :: r => by
    rw [List.mapM_cons, cap_eq f h r]
    show _ = (match ev f x, capA f h r with | .one (.pt l 0 0 0), some q => if (objA h l 0).isSome = true then some (l :: q) else none | _, _ => none)
    have key : ∀ v : AV, ((match v with | .one (.pt l 0 0 0) => if (objA h l 0).isSome = true then some l else none | _ => none) >>= fun a => (capA f h r) >>= fun b => pure (a :: b)) = (match v, capA f h r with | .one (.pt l 0 0 0), some q => if (objA h l 0).isSome = true then some (l :: q) else none | _, _ => none) := by
      intro v
      split
      · split
        · cases capA f h r <;> simp_all
        · cases capA f h r <;> simp_all
      · rename_i hne
        cases capA f h r with
        | none => simp
        | some q =>
          simp only [Option.bind_eq_bind, Option.bind_none]
          split
          · rename_i l q' hv hq
            exact absurd rfl (hne _)
          · rfl
    exact key (ev f x)
theorem cap_nil : capA f h [] = some [] := _root_.id rfl
theorem cap_cons (x : Operand) (r : List Operand) : capA f h (x :: r) = cap2 h (ev f x) (capA f h r) := _root_.id rfl
theorem cap2_some (l : Nat) (r : List Nat) : cap2 h (.one (.pt l 0 0 0)) (some r) = if (objA h l 0).isSome = true then some (l :: r) else none := _root_.id rfl
def mfG (P : Program) (g : Nat) (b : Bool) (ls : Option (List Nat)) (h : AH) (k : Ko) : Prop := b = true ∧ On ls fun ls => kr P k (.one (.clo g ls)) h
theorem o_makeFunc (g : Nat) (first captured : Array Operand) : opG P (.makeFunc (.func g) first captured) f h k = mfG P g (first.size == 0) (capA f h captured.toList) h k := by
  simp only [opG, aop2, aop, mfG, beq_iff_eq]
  rw [← cap_eq]
  rfl
theorem mf_some (g : Nat) (ls : List Nat) : mfG P g true (some ls) h k = kr P k (.one (.clo g ls)) h := by simp only [mfG, On, true_and]
/-! ### Conversions -/
def cvG (P : Program) (src dst : TypeId) (v : AV) (h : AH) (k : Ko) : Prop := match v with
    | .one (.c (.string s)) => if strA P dst = true then (P.underlying src).isSome = true ∧ kr P k (.one (.c (.string s))) h else strA P src = true ∧ On (elemA P dst) fun e => kindA P e = some .u8 ∧ s.size ≤ maxLen ∧
        (kr P k (.one (.sl h.length 0 0 s.size)) (h ++ [.own 0 e 1 none (bytesE s)]))
    | .one (.c (.int ki n)) => (match kindA P dst with
      | some k' => (P.underlying src).isSome = true ∧ kr P k (.one (.c (.int k' (k'.wrap n)))) h
      | _ => False)
    | v => strA P dst = true ∧ On (elemA P src) fun e => kindA P e = some .u8 ∧ On (rowA h 1 v) fun r => On (bytesOf r) fun xs => kr P k (.one (.c (.string (strOf xs)))) h
theorem o_convert (src dst : TypeId) (x : Operand) : opG P (.convert src dst x) f h k = cvG P src dst (ev f x) h k := by
  simp only [opG, aop2, aop, cvG]
  split
  · rename_i s hs
    simp only [hs]
  · rename_i ki n hx
    simp only [aop1, hx]
    cases kindA P dst <;> rfl
  · rename_i h1 h2
    split
    · rename_i s hs; exact absurd hs (h1 s)
    · rename_i ki n hs; exact absurd hs (h2 ki n)
    · rfl
def ciG (P : Program) (ki : Option IntKind) (b : Bool) (n : Int) (h : AH) (k : Ko) : Prop := match ki with | some k' => b = true ∧ kr P k (.one (.c (.int k' (k'.wrap n)))) h | none => False
theorem cv_int (src dst : TypeId) (ki : IntKind) (n : Int) : cvG P src dst (.one (.c (.int ki n))) h k = ciG P (kindA P dst) (P.underlying src).isSome n h k := by
  simp only [cvG, ciG]
  cases kindA P dst <;> rfl
theorem ci_some (ki : IntKind) (n : Int) : ciG P (some ki) true n h k = kr P k (.one (.c (.int ki (ki.wrap n)))) h := by simp only [ciG, true_and]
/-! ### Appends, copies -/
def apG (P : Program) (e : Option TypeId) (t2 : TypeId) (s x : AV) (h : AH) (k : Ko) : Prop := On e fun e => On (sizeA P e) fun n => On (bytesA P e) fun by_ => On (zeroA P e) fun z => z.length = n ∧ 0 < n ∧ 0 < by_ ∧ On (srcA P t2 h n by_ z x) fun r => appA e n by_ h s r (kr P k)
theorem o_append (s x : Operand) (t t2 : TypeId) : opG P (.call { callee := .builtin .append, args := #[s, x], argTypes := #[t, t2] }) f h k = apG P (elemA P t) t2 (ev f s) (ev f x) h k := _root_.id rfl
def apR (P : Program) (e n by_ : Nat) (s : AV) (r : Option (List (List CV))) (h : AH) (k : Ko) : Prop := On r fun r => appA e n by_ h s r (kr P k)
def ap3 (P : Program) (e : TypeId) (n by_ : Option Nat) (z : Option (List CV)) (t2 : TypeId) (s x : AV) (h : AH) (k : Ko) : Prop := On n fun n => On by_ fun by_ => On z fun z => z.length = n ∧ 0 < n ∧ 0 < by_ ∧ apR P e n by_ s (srcA P t2 h n by_ z x) h k
theorem ap_some (e : TypeId) (t2 : TypeId) (s x : AV) : apG P (some e) t2 s x h k = ap3 P e (sizeA P e) (bytesA P e) (zeroA P e) t2 s x h k := _root_.id rfl
theorem ap3_some (e n by_ : Nat) (z : List CV) (t2 : TypeId) (s x : AV) : ap3 P e (some n) (some by_) (some z) t2 s x h k = (z.length = n ∧ 0 < n ∧ 0 < by_ ∧ apR P e n by_ s (srcA P t2 h n by_ z x) h k) := _root_.id rfl
def srB (P : Program) (b : Bool) (ki : Bool) (h : AH) (n by_ : Nat) (z : List CV) (x : AV) : Option (List (List CV)) := if b = true then rowA h n x else if ki = true then (match x with
    | .one (.c (.int _ i)) => if 0 ≤ i ∧ i ≤ 9223372036854775807 ∧ i.toNat * by_ ≤ 281474976710656 then some (List.replicate i.toNat z) else none
    | _ => none) else none
theorem src_at (t2 : TypeId) (n by_ : Nat) (z : List CV) (x : AV) : srcA P t2 h n by_ z x = srB P ((elemA P t2).isSome || strA P t2) (kindA P t2).isSome h n by_ z x := _root_.id rfl
theorem srB_t (ki : Bool) (n by_ : Nat) (z : List CV) (x : AV) : srB P true ki h n by_ z x = rowA h n x := by simp [srB]
def rwG (n : Nat) (q : Option (TypeId × Nat × List (List CV))) (off len : Nat) : Option (List (List CV)) := q.bind fun q => if q.2.1 = n ∧ off + len ≤ q.2.2.length then some ((q.2.2.drop off).take len) else none
theorem row_sl (n l g off len : Nat) : rowA h n (.one (.sl l g off len)) = rwG n (objR h l g) off len := _root_.id rfl
theorem rw_some (n off len : Nat) (t : TypeId) (es : List (List CV)) : rwG n (some (t, n, es)) off len = if off + len ≤ es.length then some ((es.drop off).take len) else none := by simp [rwG]
theorem row_im (n : Nat) (es : List (List CV)) : rowA h n (.one (.im es)) = if ksB n es = true then some es else none := _root_.id rfl
theorem ks_nil (n : Nat) : ksB n [] = true := _root_.id rfl
theorem ks_map {α : Type} (n : Nat) (enc : α → List CV) (xs : List α) (he : ∀ x, (enc x).length = n) : ksB n (xs.map enc) = true := by simp [ksB, he]
theorem ap_end {e n by_ l g : Nat} {cap : Option Nat} {es news : List (List CV)} {len : Nat} {h : AH} {k : Ko} {P : Program} (hl : h[l]? = some (.own g e n cap es)) (hc : len = es.length) (hb : (es.length + news.length) * by_ ≤ 140737488355328)
    (hK : kr P k (.one (.sl l (g + 1) 0 (es.length + news.length))) (h.set l (.own (g + 1) e n none (es ++ news)))) : apR P e n by_ (.one (.sl l g 0 len)) (some news) h k := by
  subst hc
  simp only [apR, On, appA, objA_at, hl, obA_own, true_and]
  refine .inr (.inl ⟨Nat.le_refl _, hb, ?_⟩)
  rw [List.take_of_length_le (Nat.le_refl _)]
  exact hK
theorem ap_cut {e n by_ l g len : Nat} {cap : Option Nat} {es news : List (List CV)} {h : AH} {k : Ko} {P : Program} (hl : h[l]? = some (.own g e n cap es)) (hle : len ≤ es.length) (hb : (len + news.length) * by_ ≤ 140737488355328)
    (hK : kr P k (.one (.sl l (g + 1) 0 (len + news.length))) (h.set l (.own (g + 1) e n none (es.take len ++ news)))) : apR P e n by_ (.one (.sl l g 0 len)) (some news) h k := by
  simp only [apR, On, appA, objA_at, hl, obA_own, true_and]
  exact .inr (.inl ⟨hle, hb, hK⟩)
def crG (P : Program) (z : Option (List CV)) (s : AV) (h : AH) (k : Ko) : Prop := On z fun z => 0 < z.length ∧ clrA h s z (kr P k)
theorem o_clear (s : Operand) (t : TypeId) : opG P (.call { callee := .builtin .clear, args := #[s], argTypes := #[t] }) f h k = crG P ((elemA P t).bind (zeroA P)) (ev f s) h k := by
  simp only [opG, aop2, aop, crG]
  cases elemA P t <;> simp only [On, Option.bind_some, Option.bind_none]
theorem cr_sl {l g off len : Nat} {t : TypeId} {cap : Option Nat} {es : List (List CV)} {h : AH} {k : Ko} {P : Program} {z : List CV} (hz : 0 < z.length) (hl : h[l]? = some (.own g t z.length cap es)) (hle : off + len ≤ es.length)
    (hK : kr P k (.tup []) (h.set l (.own g t z.length cap (cset es off (List.replicate len z))))) : crG P (some z) (.one (.sl l g off len)) h k := by
  simp only [crG, On, clrA, objA_at, hl, obA_own, true_and]
  exact ⟨hz, hle, hK⟩
def mmG (P : Program) (b : Bool) (x y : AV) (h : AH) (k : Ko) : Prop := match x, y with
        | .one (.c (.int ki a)), .one (.c (.int k' c)) => kr P k (.one (.c (.int ki (if b = true then (if a < c then c else a) else (if c < a then c else a))))) h
        | _, _ => False
theorem o_min (x y : Operand) (ts : Array TypeId) : opG P (.call { callee := .builtin .min, args := #[x, y], argTypes := ts }) f h k = mmG P false (ev f x) (ev f y) h k := by
  simp only [opG, aop2, aop, mmG, Bool.false_eq_true, if_false]
  rfl
theorem mm_f (ki : IntKind) (a c : Int) : mmG P false (.one (.c (.int ki a))) (.one (.c (.int ki c))) h k = kr P k (.one (.c (.int ki (if c < a then c else a)))) h := by simp [mmG]
end
/-! ### Regions of open order -/
section
variable (P : Program) (f : AF) (h : AH) (ds : DS) (ops : Array Oper) (s : List Fr) (Q : QT) (pr : List (Nat × Option AO)) (r : Sch)
def d2G (P : Program) (ds : DS) (ops : Array Oper) (o : Option Oper) (tk sy : Bool) (r : Sch) (s : List Fr) (Q : QT) (f : AF) (h : AH) (pr : List (Nat × Option AO)) : Prop := match o with
  | none => False
  | some o => match tk with
      | true => wantA ds f o.guard
          (fun _ => On (takeA P o.op f h) fun v => adraw P ds ops r (ks P s Q .normal) (put f o.dst v.1) h (prAdd v h pr))
          (fun _ => adraw P ds ops r (ks P s Q .normal) (put f o.dst undefA) h pr)
      | false => wantA ds f o.guard
          (fun _ => aop2 P o.op f h (fun v h' => ((sy && allSy r) = true ∨ ∀ p ∈ pr, prOk o.op f h' p) ∧ adraw P ds ops r (ks P s Q .normal) (put f o.dst v) h' pr) (fun v h' => ((sy && allSy r) = true ∨ ∀ p ∈ pr, prOk0 h' p) ∧ adraw P ds ops r (ks P s Q .normal) (put f o.dst v) h' pr) (fun q v h' => ((sy && allSy r) = true ∨ ∀ p ∈ pr, prOkF q h' p) ∧ adraw P ds ops r (ks P s Q .normal) (put f o.dst v) h' pr))
          (fun _ => ((sy && allSy r) = true ∨ ∀ p ∈ pr, prOk0 h p) ∧ adraw P ds ops r (ks P s Q .normal) (put f o.dst undefA) h pr)
theorem d_nil : drG P ds ops .nil s Q f h pr = nxG P .normal s Q f h := _root_.id rfl
theorem d_cons (i : Nat) (tk sy : Bool) : drG P ds ops (.cons (i, tk, sy) r) s Q f h pr = d2G P ds ops ops[i]? tk sy r s Q f h pr := _root_.id rfl
theorem d_op (dst : Option Nat) (op : Op) (ty : TypeId) (pos : String) (af : Array Edge) (sy : Bool) : d2G P ds ops (some ⟨dst, op, ty, pos, af, none⟩) false sy r s Q f h pr = opG P op f h (.dr ds ops dst op r sy s Q f pr) := _root_.id rfl
theorem d_want (dst : Option Nat) (op : Op) (ty : TypeId) (pos : String) (af : Array Edge) (sy : Bool) (j : Nat) (t : Bool) : d2G P ds ops (some ⟨dst, op, ty, pos, af, some (j, t)⟩) false sy r s Q f h pr = wtG P (gslot ds f j) t op f h (.dr ds ops dst op r sy s Q f pr) := _root_.id rfl
def tkG (P : Program) (v : Option (AV × Option Nat)) (ds : DS) (ops : Array Oper) (dst : Option Nat) (r : Sch) (s : List Fr) (Q : QT) (f : AF) (h : AH) (pr : List (Nat × Option AO)) : Prop :=
  On v fun v => adraw P ds ops r (ks P s Q .normal) (put f dst v.1) h (prAdd v h pr)
def heldG (b : Bool) (o : Option AO) (l : Nat) (pr : List (Nat × Option AO)) : List (Nat × Option AO) := match o with | some (.own g t n cap es) => (l, if b = true then some (.own g t n cap es) else none) :: pr | _ => pr
theorem held_p (l g : Nat) (t : TypeId) (n : Nat) (cap : Option Nat) (es : List (List CV)) : heldG true (some (.own g t n cap es)) l pr = (l, some (.own g t n cap es)) :: pr := _root_.id rfl
theorem held_s (l g : Nat) (t : TypeId) (n : Nat) (cap : Option Nat) (es : List (List CV)) : heldG false (some (.own g t n cap es)) l pr = (l, none) :: pr := _root_.id rfl
theorem d_tk (dst : Option Nat) (op : Op) (ty : TypeId) (pos : String) (af : Array Edge) (sy : Bool) : d2G P ds ops (some ⟨dst, op, ty, pos, af, none⟩) true sy r s Q f h pr = tkG P (takeA P op f h) ds ops dst r s Q f h pr := _root_.id rfl
def twG (P : Program) (g : AV) (t : Bool) (v : Option (AV × Option Nat)) (ds : DS) (ops : Array Oper) (dst : Option Nat) (r : Sch) (s : List Fr) (Q : QT) (f : AF) (h : AH) (pr : List (Nat × Option AO)) : Prop :=
  wantB g t (fun _ => tkG P v ds ops dst r s Q f h pr) (fun _ => adraw P ds ops r (ks P s Q .normal) (put f dst undefA) h pr)
theorem d_tw (dst : Option Nat) (op : Op) (ty : TypeId) (pos : String) (af : Array Edge) (sy : Bool) (j : Nat) (t : Bool) : d2G P ds ops (some ⟨dst, op, ty, pos, af, some (j, t)⟩) true sy r s Q f h pr = twG P (gslot ds f j) t (takeA P op f h) ds ops dst r s Q f h pr := _root_.id rfl
theorem tk_v (v : AV) (d : Nat) : tkG P (some (v, none)) ds ops (some d) r s Q f h pr = drG P ds ops r s Q (upd f d v) h pr := _root_.id rfl
theorem tk_l (v : AV) (d l : Nat) : tkG P (some (v, some l)) ds ops (some d) r s Q f h pr = drG P ds ops r s Q (upd f d v) h (heldG (plainA v) h[l]? l pr) := _root_.id rfl
theorem tw_tt (v : Option (AV × Option Nat)) (dst : Option Nat) : twG P (.one (.c (.bool true))) true v ds ops dst r s Q f h pr = tkG P v ds ops dst r s Q f h pr := _root_.id rfl
theorem tw_ff (v : Option (AV × Option Nat)) (dst : Option Nat) : twG P (.one (.c (.bool false))) false v ds ops dst r s Q f h pr = tkG P v ds ops dst r s Q f h pr := _root_.id rfl
theorem tw_tf (v : Option (AV × Option Nat)) (d : Nat) : twG P (.one (.c (.bool true))) false v ds ops (some d) r s Q f h pr = drG P ds ops r s Q (upd f d undefA) h pr := _root_.id rfl
theorem tw_ft (v : Option (AV × Option Nat)) (d : Nat) : twG P (.one (.c (.bool false))) true v ds ops (some d) r s Q f h pr = drG P ds ops r s Q (upd f d undefA) h pr := _root_.id rfl
theorem tw_u (t : Bool) (v : Option (AV × Option Nat)) (d : Nat) : twG P undefA t v ds ops (some d) r s Q f h pr = drG P ds ops r s Q (upd f d undefA) h pr := wantB_u _ _ _
theorem t_move (x : Operand) : takeA P (.move x) f h = some (ev f x, none) := _root_.id rfl
def tsI (k : Option Nat) (es : List (List CV)) (i j : Option Nat) : Option (AV × Option Nat) := k.bind fun k => i.bind fun i => j.bind fun j => if ksB k es = true ∧ i ≤ j ∧ j ≤ es.length then some (.one (.im ((es.drop i).take (j - i))), none) else none
def tsS (n : Option Nat) (q : Option (TypeId × Nat × List (List CV))) (l g off : Nat) (i j : Option Nat) : Option (AV × Option Nat) := q.bind fun q => i.bind fun i => j.bind fun j => if n = some q.2.1 ∧ i ≤ j ∧ off + j ≤ q.2.2.length then some (if off + i < q.2.2.length ∨ i = 0 then .one (.sl l g (off + i) (j - i)) else .one (.im []), none) else none
def tsE (P : Program) (e : Option TypeId) (q : Option (TypeId × Nat × List (List CV))) (l g off : Nat) (i j : Option Nat) : Option (AV × Option Nat) := e.bind fun e => tsS (sizeA P e) q l g off i j
def tsT (b : Bool) (s : ByteArray) (i j : Option Nat) : Option (AV × Option Nat) := i.bind fun i => j.bind fun j => if b = true ∧ i ≤ j ∧ j ≤ s.size then some (.one (.c (.string (s.extract i j))), none) else none
def tsG (P : Program) (t : TypeId) (h : AH) (v : AV) (lo hi : Option AV) : Option (AV × Option Nat) := match v with
  | .one (.im es) => tsI ((elemA P t).bind (sizeA P)) es (boundA 0 lo) (boundA es.length hi)
  | .one (.sl l g off len) => tsE P (elemA P t) (objR h l g) l g off (boundA 0 lo) (boundA len hi)
  | .one (.c (.string s)) => tsT (strA P t) s (boundA 0 lo) (boundA s.size hi)
  | _ => none
theorem t_slice (t : TypeId) (x : Operand) (lo hi : Option Operand) : takeA P (.slice t x lo hi none) f h = tsG P t h (ev f x) (lo.map (ev f)) (hi.map (ev f)) := by
  simp only [takeA, tsG]
  cases hx : ev f x with
  | one x =>
    cases x with
    | im es => simp only [tsI]; cases elemA P t <;> rfl
    | c v => cases v <;> rfl
    | _ => rfl
  | _ => rfl
theorem ts_sl (t : TypeId) (l g off len : Nat) (lo hi : Option AV) : tsG P t h (.one (.sl l g off len)) lo hi = tsE P (elemA P t) (objR h l g) l g off (boundA 0 lo) (boundA len hi) := _root_.id rfl
theorem tsE_some (e : TypeId) (q : Option (TypeId × Nat × List (List CV))) (l g off : Nat) (i j : Option Nat) : tsE P (some e) q l g off i j = tsS (sizeA P e) q l g off i j := _root_.id rfl
theorem tsS_some (n : Nat) (t : TypeId) (es : List (List CV)) (l g off i j : Nat) (h1 : i ≤ j) (h2 : off + j ≤ es.length) (h3 : off + i < es.length) : tsS (some n) (some (t, n, es)) l g off (some i) (some j) = some (.one (.sl l g (off + i) (j - i)), none) := by simp [tsS, h1, h2, h3]
theorem tsS_e (n : Nat) (t : TypeId) (es : List (List CV)) (l g off i j : Nat) (h1 : i ≤ j) (h2 : off + j ≤ es.length) (h3 : es.length ≤ off + i) (h4 : 0 < i) : tsS (some n) (some (t, n, es)) l g off (some i) (some j) = some (.one (.im []), none) := by simp [tsS, h1, h2, Nat.not_lt.2 h3, Nat.ne_of_gt h4]
theorem tsS_0 (n : Nat) (t : TypeId) (es : List (List CV)) (l g off j : Nat) (h2 : off + j ≤ es.length) : tsS (some n) (some (t, n, es)) l g off (some 0) (some j) = some (.one (.sl l g off j), none) := by simp [tsS, h2]
def tkN (P : Program) (b : Bool) (v : AV) : Option (AV × Option Nat) := if b = true then some (v, none) else none
theorem tkN_t (P : Program) (v : AV) : tkN P true v = some (v, none) := by simp [tkN]
def tncG (P : Program) (v : AV) (h : AH) : Option (AV × Option Nat) := match v with
  | .one (.pt l g i off) => tkN P (objR h l g).isSome (.one (.pt l g i off))
  | .one (.pel e off) => some (.one (.pel e off), none)
  | _ => none
theorem t_nilCheck (x : Operand) : takeA P (.nilCheck x) f h = tncG P (ev f x) h := by
  simp only [takeA, tncG, tkN]
  split <;> simp_all only
theorem tnc_pt (l g i off : Nat) : tncG P (.one (.pt l g i off)) h = tkN P (objR h l g).isSome (.one (.pt l g i off)) := _root_.id rfl
def vlG (v : Option AV) (l : Option Nat) : Option (AV × Option Nat) := v.map fun v => (v, l)
theorem vl_some (v : AV) (l : Option Nat) : vlG (some v) l = some (v, l) := _root_.id rfl
def tlG (P : Program) (t : TypeId) (a : AV) (h : AH) : Option (AV × Option Nat) := match a with | .one (.pt l g i off) => vlG (ldR P t (objR h l g) i off) (some l) | .one (.pel e off) => vlG (partA P t e off) none | _ => none
theorem t_load (t : TypeId) (a : Operand) : takeA P (.load t a) f h = tlG P t (ev f a) h := by
  simp only [takeA, tlG, vlG]
  split <;> simp_all only
  rename_i l g i off _
  cases objR h l g with
  | none => rfl
  | some q =>
    simp only [ldR, ldE, Option.bind_some]
    cases q.2.2[i]? <;> rfl
theorem tl_pt (t : TypeId) (l g i off : Nat) : tlG P t (.one (.pt l g i off)) h = vlG (ldR P t (objR h l g) i off) (some l) := _root_.id rfl
theorem tl_pel (t : TypeId) (e : List CV) (off : Nat) : tlG P t (.one (.pel e off)) h = vlG (partA P t e off) none := _root_.id rfl
def tfB (b : Bool) (v : Option (AV × Option Nat)) : Option (AV × Option Nat) := if b = true then v else none
theorem tfB_t (v : Option (AV × Option Nat)) : tfB true v = v := by simp [tfB]
def tfG (q : Option (Nat × TypeId)) (a : AV) (h : AH) : Option (AV × Option Nat) := match a with
    | .one (.pt l g j off) => tfB (objR h l g).isSome (q.map fun q => (.one (.pt l g j (off + q.1)), none))
    | .one (.pel e off) => q.map fun q => (.one (.pel e (off + q.1)), none)
    | _ => none
theorem t_fieldAddr (st : TypeId) (x : Operand) (i : Nat) : takeA P (.fieldAddr st x i) f h = tfG (offA P st i) (ev f x) h := _root_.id rfl
theorem tf_pt (o : Nat) (t : TypeId) (l g j off : Nat) : tfG (some (o, t)) (.one (.pt l g j off)) h = tfB (objR h l g).isSome (some (.one (.pt l g j (off + o)), none)) := _root_.id rfl
theorem tf_pel (o : Nat) (t : TypeId) (e : List CV) (off : Nat) : tfG (some (o, t)) (.one (.pel e off)) h = some (.one (.pel e (off + o)), none) := _root_.id rfl
def tiO (n : Nat) (q : Option (TypeId × Nat × List (List CV))) (l g off len : Nat) (i : Int) : Option (AV × Option Nat) := q.bind fun q => if q.2.1 = n ∧ 0 ≤ i ∧ i < len then some (.one (.pt l g (off + i.toNat) 0), none) else none
def tiE (n : Nat) (e : Option (List CV)) (i : Int) : Option (AV × Option Nat) := e.bind fun e => if 0 ≤ i ∧ e.length = n then some (.one (.pel e 0), none) else none
def tiG (n : Option Nat) (x ix : AV) (h : AH) : Option (AV × Option Nat) := n.bind fun n => (match x, ix with
    | .one (.sl l g off len), .one (.c (.int _ i)) => tiO n (objR h l g) l g off len i
    | .one (.im es), .one (.c (.int _ i)) => tiE n es[i.toNat]? i
    | _, _ => none)
theorem t_indexAddr (t : TypeId) (x ix : Operand) : takeA P (.indexAddr t x ix) f h = tiG ((elemA P t).bind (sizeA P)) (ev f x) (ev f ix) h := by
  simp only [takeA, tiG]
  cases elemA P t <;> simp only [Option.bind_none, Option.bind_some]
  rfl
theorem ti_sl (n l g off len : Nat) (ki : IntKind) (i : Int) : tiG (some n) (.one (.sl l g off len)) (.one (.c (.int ki i))) h = tiO n (objR h l g) l g off len i := _root_.id rfl
theorem tiO_some (n l g off len : Nat) (t : TypeId) (es : List (List CV)) (i : Int) (h1 : 0 ≤ i) (h2 : i < len) : tiO n (some (t, n, es)) l g off len i = some (.one (.pt l g (off + i.toNat) 0), none) := by simp [tiO, h1, h2]
theorem ti_im (n : Nat) (es : List (List CV)) (ki : IntKind) (i : Int) : tiG (some n) (.one (.im es)) (.one (.c (.int ki i))) h = tiE n es[i.toNat]? i := _root_.id rfl
theorem tiE_some (n : Nat) (e : List CV) (i : Int) (h1 : 0 ≤ i) (h2 : e.length = n) : tiE n (some e) i = some (.one (.pel e 0), none) := by simp [tiE, h1, h2]
def tbG (P : Program) (op : BinOp) (t : TypeId) (x y : AV) : Option (AV × Option Nat) := match x, y with
    | .one (.c a), .one (.c b) => (binA P op t a b).map fun v => (.one (.c v), none)
    | _, _ => none
theorem t_bin (op : BinOp) (t : TypeId) (x y : Operand) (t2 : TypeId) : takeA P (.binOp op t x y t2) f h = tbG P op t (ev f x) (ev f y) := _root_.id rfl
theorem tb_add (t : TypeId) (a b : Int) : tbG P .add t (.one (.c (.int .i64 a))) (.one (.c (.int .i64 b))) = some (.one (.c (.int .i64 (wrap64 (a + b)))), none) := by simp [tbG, binA, intA, IntKind.wrap_i64, wrap64]
theorem tb_sub (t : TypeId) (a b : Int) : tbG P .sub t (.one (.c (.int .i64 a))) (.one (.c (.int .i64 b))) = some (.one (.c (.int .i64 (wrap64 (a - b)))), none) := by simp [tbG, binA, intA, IntKind.wrap_i64, wrap64]
def teG (x : AV) (i : Nat) : Option (AV × Option Nat) := match x with | .tup xs => vlG xs[i]? none | _ => none
theorem t_extract (x : Operand) (i : Nat) : takeA P (.extract x i) f h = teG (ev f x) i := _root_.id rfl
theorem tb_rem (t : TypeId) (ki : IntKind) (a b : Int) (hb : b ≠ 0) : tbG P .rem t (.one (.c (.int ki a))) (.one (.c (.int ki b))) = some (.one (.c (.int ki (a.tmod b))), none) := by simp [tbG, binA, intA, hb]
theorem te_tup (xs : List AV) (i : Nat) : teG (.tup xs) i = vlG xs[i]? none := _root_.id rfl
variable {P f h ds ops s Q pr r}
theorem tw_split {b t : Bool} {v : Option (AV × Option Nat)} {dst : Option Nat} (h1 : b = true → twG P (.one (.c (.bool true))) t v ds ops dst r s Q f h pr) (h2 : b = false → twG P (.one (.c (.bool false))) t v ds ops dst r s Q f h pr) : twG P (.one (.c (.bool b))) t v ds ops dst r s Q f h pr := by cases b; exact h2 rfl; exact h1 rfl
end
section
variable {H : Type} {enc : TypeId × Value → H} {P : Program} {w : World} {base fuel : Nat} {spare : Nat → Bool} {held : Bool} {t : TypeId} {v : Value} {x : DataW H × List MemPlace}
theorem one_int {k : IntKind} (ht : P.underlying t = some (.int k)) (h : DataW.trod enc P w base spare held fuel t [v] = some x) : ∃ n, v = .int k n ∧ (Lit.int k n).wf = true := by
  obtain ⟨n, hc, _, hw⟩ := DataW.trod_int ht h
  simp at hc
  exact ⟨n, hc, hw⟩
end
end Go.BL
end
section
namespace Go.BL
open Go.RowKit
set_option linter.unusedVariables false
set_option linter.unusedSimpArgs false
/-! ### Elements of closed cells -/
def clE (es : List (List CV)) : Bool := es.all fun e => e.all clB
theorem clE_nil : clE [] = true := _root_.id rfl
theorem clE_cons (e : List CV) (r : List (List CV)) : clE (e :: r) = (e.all clB && clE r) := _root_.id rfl
theorem clE_map {α : Type} (enc : α → List CV) (xs : List α) (he : ∀ x, (enc x).all clB = true) : clE (xs.map enc) = true := by simp [clE, he]
theorem cl_id {g : CV → CV} (hg : ∀ x, clB x = true → g x = x) {es : List (List CV)} (h : clE es = true) : es.map (·.map g) = es := by
  have h1 : ∀ e ∈ es, e.map g = e := fun e he => by
    have := (List.all_eq_true.1 h) e he
    conv => rhs; rw [← List.map_id e]
    exact List.map_congr_left fun x hx => hg x ((List.all_eq_true.1 this) x hx)
  conv => rhs; rw [← List.map_id es]
  exact List.map_congr_left h1
theorem clz_cl (x : CV) (hx : clB x = true) : clz x = x := by
  cases x with
  | pt _ _ _ _ => cases hx
  | sl _ _ _ _ => cases hx
  | clo g caps => cases caps with | nil => rfl | cons _ _ => cases hx
  | _ => rfl
theorem shV_cl (n : Nat) (x : CV) (hx : clB x = true) : shV n x = x := by
  cases x with
  | pt _ _ _ _ => cases hx
  | sl _ _ _ _ => cases hx
  | clo g caps => cases caps with | nil => rfl | cons _ _ => cases hx
  | _ => rfl
theorem clz_E (es : List (List CV)) (h : clE es = true) : es.map (List.map clz) = es := cl_id clz_cl h
theorem shV_E (n : Nat) (es : List (List CV)) (h : clE es = true) : es.map (List.map (shV n)) = es := cl_id (shV_cl n) h
section
variable {P : Program} {G : Cx} {φ : Phi} {M : Im} {h : AH} {w : World}
/-! ### All by content -/
theorem nt_im (x : AV) : notTup (imA h x) = true := by
  cases x with
  | one x => cases x <;> rfl
  | _ => rfl
def retA (h : AH) : AV → AV
  | .tup xs => .tup (xs.map (imA h))
  | x => imA h x
theorem Rep.drop (R : Rep G φ M h w) : Rep G (fun _ => none) M [] w :=
  ⟨R.os, R.tape, R.output, R.size, R.blk, R.mon, R.imm, R.imn, fun _ _ => rfl, fun l o hl => by simp at hl, fun l p ho => by obtain ⟨_, _, _, _, _, hl, _⟩ := ho; simp at hl, fun i j p q ho => by obtain ⟨_, _, _, _, _, hl, _⟩ := ho; simp at hl, fun a v l p _ ho => by obtain ⟨_, _, _, _, _, hl, _⟩ := ho; simp at hl⟩
theorem own_lt' {l : Nat} {p : Pl} (ho : Own φ h l p) : l < h.length := by obtain ⟨_, _, _, _, _, hl, _⟩ := ho; exact hlt hl
theorem retA_V (R : Rep G φ M h w) {M' : Im} (hM : MLe M M') (hc : ∀ l p, Own φ h l p → ∀ (o : Nat) v, w.cell? ⟨p.b, o, none⟩ = some v → M' ⟨p.b, o, none⟩ v) {r : AV} {u : Value} (hv : VA φ M r u) : VA (fun _ => none) M' (retA h r) u := by
  cases r with
  | tup xs =>
    obtain ⟨us, h1, h2, h3⟩ := hv
    refine ⟨us, h1, by simpa using h2, fun j x hj => ?_⟩
    rw [List.getElem?_map] at hj
    obtain ⟨x', hx', rfl⟩ := Option.map_eq_some_iff.1 hj
    obtain ⟨u, h4, h5⟩ := h3 j x' hx'
    exact ⟨u, h4, nt_VA1 (nt_im x') (imA_V R hM (fun l _ => hc l) (VA1_VA h5))⟩
  | one x => exact imA_V R hM (fun l _ => hc l) hv
  | agg xs => exact imA_V R hM (fun l _ => hc l) hv
  | any => trivial
theorem Fin.im {r : AV} {K : AV → AH → Prop} (hk : K (retA h r) []) : Fin 0 r h K :=
  ⟨_, _, hk, fun G φ M w u R hv => by
    obtain ⟨M', RF, hM, hc⟩ := R.freeze (List.range h.length)
    exact ⟨_, M', RF.drop, retA_V R hM (fun l p ho => hc l (List.mem_range.2 (own_lt' ho)) p ho) hv, fun l p hl => absurd hl (Nat.not_lt_zero l)⟩⟩
/-! ### Some objects handed on -/
def cnV (ls : List Nat) (h : AH) : CV → CV
  | .sl l g off len => if l ∈ ls then .junk else imV h (.sl l g off len)
  | x => imV h x
def rnV (ls : List Nat) (h : AH) : CV → CV
  | .sl l g off len => match ls.idxOf? l with
    | some i => if (objA h l g).isSome = true then .sl i 0 off len else .junk
    | none => imV h (.sl l g off len)
  | x => imV h x
def rnA (ls : List Nat) (h : AH) : AV → AV
  | .one (.c v) => .one (.c v)
  | .one x => .one (rnV ls h x)
  | .agg xs => .agg (xs.map (rnV ls h))
  | _ => .any
def rnT (ls : List Nat) (h : AH) : AV → AV
  | .tup xs => .tup (xs.map (rnA ls h))
  | x => rnA ls h x
def rnO (ls : List Nat) (h : AH) : Option AO → AO
  | some (.own g t k cap es) => .own 0 t k cap (es.map (·.map (cnV ls h)))
  | _ => .dead
theorem idx_of {ls : List Nat} {l i : Nat} (h : ls.idxOf? l = some i) : ls[i]? = some l := by
  rw [List.idxOf?_eq_some_iff] at h
  obtain ⟨hi, h1, _⟩ := h
  rw [List.getElem?_eq_getElem hi, h1]
theorem Fin.own {r : AV} {K : AV → AH → Prop} (ls : List Nat) (hnd : ls.Nodup) (hk : K (rnT ls h r) (ls.map fun l => rnO ls h h[l]?)) : Fin 0 r h K := by
  refine ⟨_, _, hk, fun G φ M w u R hv => ?_⟩
  obtain ⟨M', RF, hM, hc0⟩ := R.freeze ((List.range h.length).filter fun l => !(decide (l ∈ ls)))
  have hc : ∀ l, l ∉ ls → ∀ p, Own φ h l p → ∀ (o : Nat) v, w.cell? ⟨p.b, o, none⟩ = some v → M' ⟨p.b, o, none⟩ v := fun l hl p ho =>
    hc0 l (List.mem_filter.2 ⟨List.mem_range.2 (own_lt' ho), by simp [hl]⟩) p ho
  let φ' : Phi := fun i => ((ls[i]?).bind φ).map fun p => { p with g := 0 }
  have im : ∀ x u, (∀ l g off len, x = .sl l g off len → l ∉ ls) → V φ M x u → V φ' M' (imV h x) u := fun x u hx hv => by
    refine V0_V (imV_V0 R hM (fun l hl => ?_) hv)
    cases x with
    | sl l' g off len =>
      simp only [locV, List.mem_singleton] at hl
      subst hl
      exact hc l (hx l g off len rfl)
    | _ => cases hl
  have cn : ∀ x u, V φ M x u → V φ' M' (cnV ls h x) u := fun x u hv => by
    cases x with
    | sl l g off len =>
      simp only [cnV]
      split
      · exact V0.junk u hv.1
      · rename_i hl
        exact im _ u (fun l' g' off' len' e => by cases e; exact hl) hv
    | _ => exact im _ u (fun l' g' off' len' e => by cases e) hv
  have rn : ∀ x u, V φ M x u → V φ' M' (rnV ls h x) u := fun x u hv => by
    cases x with
    | sl l g off len =>
      simp only [rnV]
      split
      · rename_i i hi
        split
        · rename_i ho
          obtain ⟨q, hq⟩ := Option.isSome_iff_exists.1 ho
          obtain ⟨p', q1, q2, _⟩ := R.own_p (objA_spec hq)
          obtain ⟨h1, p, h2, h3, h4⟩ := hv
          rw [q1] at h2
          cases h2
          refine ⟨h1, { p' with g := 0 }, ?_, Nat.le_refl _, fun _ => h4 q2⟩
          show ((ls[i]?).bind φ).map _ = _
          rw [idx_of hi, Option.bind_some, q1]
          rfl
        · exact V0.junk u hv.1
      · rename_i hl
        refine im _ u (fun l' g' off' len' e => ?_) hv
        cases e
        exact fun hm => by rw [List.idxOf?_eq_none_iff] at hl; exact hl hm
    | _ => exact im _ u (fun l' g' off' len' e => by cases e) hv
  have rna : ∀ x u, VA φ M x u → VA1 φ' M' (rnA ls h x) u := fun x u hv => by
    cases x with
    | one x =>
      cases x with
      | c v => exact hv
      | _ => exact nt_VA1 (v := .one _) rfl (V_VA (rn _ u (by simpa only [VA, VA1] using hv)))
    | agg xs =>
      obtain ⟨us, h1, h2, h3⟩ := hv
      refine ⟨us, h1, by simpa using h2, fun j x hj => ?_⟩
      rw [List.getElem?_map] at hj
      obtain ⟨x', hx', rfl⟩ := Option.map_eq_some_iff.1 hj
      obtain ⟨u, h4, h5⟩ := h3 j x' hx'
      exact ⟨u, h4, rn _ u h5⟩
    | tup xs => trivial
    | any => trivial
  have hgets : ∀ (i : Nat) (o : AO), (ls.map fun l => rnO ls h h[l]?)[i]? = some o → ∃ l, ls[i]? = some l ∧ o = rnO ls h h[l]? := fun i o hi => by
    rw [List.getElem?_map] at hi
    obtain ⟨l, hl, rfl⟩ := Option.map_eq_some_iff.1 hi
    exact ⟨l, hl, rfl⟩
  have hown : ∀ i p, Own φ' (ls.map fun l => rnO ls h h[l]?) i p → ∃ l p0, ls[i]? = some l ∧ Own φ (frH ((List.range h.length).filter fun l => !(decide (l ∈ ls))) h) l p0 ∧ p0.b = p.b := by
    rintro i p ⟨g, t, k, cap, es, hi, hp, hv⟩
    obtain ⟨l, hl, ho⟩ := hgets i _ hi
    have hp' : ((ls[i]?).bind φ).map (fun p => ({ p with g := 0 } : Pl)) = some p := hp
    rw [hl, Option.bind_some] at hp'
    obtain ⟨p0, hp0, rfl⟩ := Option.map_eq_some_iff.1 hp'
    cases hhl : h[l]? with
    | none => rw [hhl] at ho; cases ho
    | some o0 =>
      rw [hhl] at ho
      cases o0 with
      | own g0 t0 k0 cap0 es0 =>
        refine ⟨l, p0, hl, ⟨g0, t0, k0, cap0, es0, ?_, hp0, hv⟩, rfl⟩
        rw [frH_get _ _ (by simp only [List.mem_filter, not_and]; intro _; simp [List.mem_of_getElem? hl])]
        exact hhl
      | _ => cases ho
  refine ⟨φ', M', ⟨RF.os, RF.tape, RF.output, RF.size, RF.blk, RF.mon, RF.imm, RF.imn, fun i hi => ?_, ?_, fun i p ho => ?_, fun i j p q hi hj hne => ?_, fun a v i p hm ho => ?_⟩, ?_, fun l p hl => absurd hl (Nat.not_lt_zero l)⟩
  · simp at hi
    show ((ls[i]?).bind φ).map _ = none
    rw [List.getElem?_eq_none hi]
    rfl
  · intro i o hi
    obtain ⟨l, hl, rfl⟩ := hgets i o hi
    cases hhl : h[l]? with
    | none => trivial
    | some o0 =>
      cases o0 with
      | own g0 t0 k0 cap0 es0 =>
        obtain ⟨p, h1, h2, h3, h4, h5, h6, h7, h8⟩ := R.obj l _ hhl
        refine ⟨{ p with g := 0 }, ?_, rfl, h3, by simpa using h4, h5, fun e he => ?_, h7, fun hv => ?_⟩
        · show ((ls[i]?).bind φ).map _ = _
          rw [hl, Option.bind_some, h1]
          rfl
        · obtain ⟨e', he', rfl⟩ := List.mem_map.1 he
          simpa using h6 e' he'
        · obtain ⟨h9, C, fr, h10, h11, h12, h13⟩ := h8 hv
          refine ⟨h9, C, fr, h10, h11, h12, fun i e j x hi hj => ?_⟩
          rw [List.getElem?_map] at hi
          obtain ⟨e', he', rfl⟩ := Option.map_eq_some_iff.1 hi
          rw [List.getElem?_map] at hj
          obtain ⟨x', hx', rfl⟩ := Option.map_eq_some_iff.1 hj
          obtain ⟨v, hv1, hv2⟩ := h13 i e' j x' he' hx'
          exact ⟨v, hv1, cn _ v hv2⟩
      | _ => trivial
  · obtain ⟨l, p0, _, ho', hb⟩ := hown i p ho
    rw [← hb]
    exact RF.new l p0 ho'
  · obtain ⟨l, p0, hl, ho, hb⟩ := hown i p hi
    obtain ⟨l', p0', hl', ho', hb'⟩ := hown j q hj
    rw [← hb, ← hb']
    refine RF.inj l l' p0 p0' ho ho' (fun e => hne ?_)
    subst e
    obtain ⟨hi1, e1⟩ := List.getElem?_eq_some_iff.1 hl
    obtain ⟨hj1, e2⟩ := List.getElem?_eq_some_iff.1 hl'
    exact (List.getElem_inj hnd).1 (e1.trans e2.symm)
  · obtain ⟨l, p0, _, ho', hb⟩ := hown i p ho
    rw [← hb]
    exact RF.dis a v l p0 hm ho'
  · cases r with
    | tup xs =>
      obtain ⟨us, h1, h2, h3⟩ := hv
      refine ⟨us, h1, by simpa using h2, fun j x hj => ?_⟩
      rw [List.getElem?_map] at hj
      obtain ⟨x', hx', rfl⟩ := Option.map_eq_some_iff.1 hj
      obtain ⟨u, h4, h5⟩ := h3 j x' hx'
      exact ⟨u, h4, rna x' u (VA1_VA h5)⟩
    | one x => exact VA1_VA (rna _ u hv)
    | agg xs => exact VA1_VA (rna _ u hv)
    | any => trivial
/-! ### The ends of functions -/
def retI (P : Program) (rs : List ResultVar) (K : AV → AH → Prop) (f : AF) (h : AH) : Prop := On (rsG P f h rs) fun vs => vs.all notTup = true ∧ K (retA h (oneOrTup vs)) []
def retO (P : Program) (ls : List Nat) (rs : List ResultVar) (K : AV → AH → Prop) (f : AF) (h : AH) : Prop := On (rsG P f h rs) fun vs => vs.all notTup = true ∧ ls.Nodup ∧ K (rnT ls h (oneOrTup vs)) (ls.map fun l => rnO ls h h[l]?)
theorem acall_c {g : Nat} {fn : Func} {c : Code} {args : List AV} {K : AV → AH → Prop} (rs : List ResultVar) (hmo : P.follows .mixedOrders = true) (hf : P.funcs[g]? = some fn) (hrs : fn.results.toList = rs) (hbody : fn.body = some c) (hB : (codeB fn.ntmps c && fnB fn && hasBody P g && decide (args.length ≤ fn.ntmps)) = true)
    (H : ∀ Q : AExit → AF → AH → Prop, (∀ f h', retI P rs K f h' → Q .ret f h') → (∀ ls f h', GC 0 (retO P ls rs K) f h' → Q .ret f h') → goG P c [] ⟨0, Q⟩ (frame0 args) []) : ACalls P g args [] K := by
  refine acall_gen rs hmo hf hrs hbody hB (fun Q hm hQ => ?_)
  obtain ⟨m, q⟩ := Q
  simp only [List.length_nil] at hm hQ
  subst hm
  refine H q (fun f h' hr => (hQ f h' (GC.now ?_)).1) (fun ls f h' hr => (hQ f h' (hr.mono fun f h' hr => ?_)).1)
  · unfold retI at hr
    obtain ⟨vs, hvs, hnt, hk⟩ := hr.elim
    unfold ARet
    rw [hvs]
    exact ⟨hnt, Fin.im hk⟩
  · unfold retO at hr
    obtain ⟨vs, hvs, hnt, hnd, hk⟩ := hr.elim
    unfold ARet
    rw [hvs]
    exact ⟨hnt, Fin.own ls hnd hk⟩
/-! ### Objects let go -/
def ltV (n : Nat) : CV → Bool
  | .pt l _ _ _ => decide (l < n)
  | .sl l _ _ _ => decide (l < n)
  | .clo _ caps => caps.all (· < n)
  | _ => true
def trV (n : Nat) (x : CV) : CV := if ltV n x = true then x else .junk
def trA1 (n : Nat) : AV → AV
  | .one (.c v) => .one (.c v)
  | .one x => .one (trV n x)
  | .agg xs => .agg (xs.map (trV n))
  | x => x
def trA (n : Nat) : AV → AV
  | .tup xs => .tup (xs.map (trA1 n))
  | x => trA1 n x
def trF (n : Nat) (f : AF) : AF := fun r => trA n (f r)
def ltO (n : Nat) : AO → Bool
  | .own _ _ _ _ es => es.all fun e => e.all (ltV n)
  | _ => true
theorem ltV_V {n : Nat} {x : CV} {u : Value} (hx : ltV n x = true) (hv : V φ M x u) : V (fun l => if l < n then φ l else none) M x u := by
  cases x with
  | pt l g i off => obtain ⟨h1, p, h2, h3⟩ := hv; exact ⟨h1, p, by simp only [ltV, decide_eq_true_eq] at hx; simp [hx, h2], h3⟩
  | sl l g off len => obtain ⟨h1, p, h2, h3⟩ := hv; exact ⟨h1, p, by simp only [ltV, decide_eq_true_eq] at hx; simp [hx, h2], h3⟩
  | clo g caps =>
    obtain ⟨vs, h1, h2, h3⟩ := hv
    refine ⟨vs, h1, h2, fun j l hj => ?_⟩
    obtain ⟨v, h4, h5, p, h6, h7⟩ := h3 j l hj
    have := (List.all_eq_true.1 hx) l (List.mem_of_getElem? hj)
    simp only [decide_eq_true_eq] at this
    exact ⟨v, h4, h5, p, by simp [this, h6], h7⟩
  | _ => exact hv
theorem trV_V {n : Nat} {x : CV} {u : Value} (hv : V φ M x u) : V (fun l => if l < n then φ l else none) M (trV n x) u := by
  unfold trV
  split
  · rename_i hx; exact ltV_V hx hv
  · exact V0.junk u hv.one
theorem trA1_V {n : Nat} {x : AV} {u : Value} (hv : VA1 φ M x u) : VA1 (fun l => if l < n then φ l else none) M (trA1 n x) u := by
  cases x with
  | one x =>
    cases x with
    | c v => exact hv
    | _ => exact nt_VA1 (v := .one _) rfl (V_VA (trV_V (by simpa only [VA1] using hv)))
  | agg xs =>
    obtain ⟨us, h1, h2, h3⟩ := hv
    refine ⟨us, h1, by simpa using h2, fun j x hj => ?_⟩
    rw [List.getElem?_map] at hj
    obtain ⟨x', hx', rfl⟩ := Option.map_eq_some_iff.1 hj
    obtain ⟨u, h4, h5⟩ := h3 j x' hx'
    exact ⟨u, h4, trV_V h5⟩
  | tup xs => exact hv
  | any => trivial
theorem Ghost.trim {m : Nat} (n : Nat) {f : AF} {h : AH} (hm : m ≤ n) (hn : n ≤ h.length) (hl : (h.take n).all (ltO n) = true) : Ghost m f h (trF n f) (h.take n) := by
  intro G φ M w R
  have hget : ∀ (i : Nat) (o : AO), (h.take n)[i]? = some o → i < n ∧ h[i]? = some o := by
    intro i o hi
    rw [List.getElem?_take] at hi
    split at hi
    · exact ⟨by assumption, hi⟩
    · cases hi
  have hown : ∀ i p, Own (fun l => if l < n then φ l else none) (h.take n) i p → Own φ h i p := by
    rintro i p ⟨g, t, k, cap, es, hi, hp, hv⟩
    obtain ⟨hin, hi⟩ := hget i _ hi
    simp only [hin, if_true] at hp
    exact ⟨g, t, k, cap, es, hi, hp, hv⟩
  refine ⟨fun l => if l < n then φ l else none, M, ⟨R.os, R.tape, R.output, R.size, R.blk, R.mon, R.imm, R.imn, fun i hi => ?_, fun i o hi => ?_, fun l p ho => R.new l p (hown l p ho), fun i j p q hi hj hne => R.inj i j p q (hown i p hi) (hown j q hj) hne, fun a v l p hm ho => R.dis a v l p hm (hown l p ho)⟩, MLe.refl _, fun l p hlm hp => ?_, fun r u hv => ?_⟩
  · rw [List.length_take, Nat.min_eq_left hn] at hi
    simp [Nat.not_lt.2 hi]
  · obtain ⟨hin, hi'⟩ := hget i o hi
    have H := R.obj i o hi'
    have ho := (List.all_eq_true.1 hl) o (List.mem_of_getElem? hi)
    cases o with
    | dead => trivial
    | ro g t k es =>
      obtain ⟨p, h1, h2⟩ := H
      exact ⟨p, by simp [hin, h1], h2⟩
    | own g t k cap es =>
      obtain ⟨p, h1, h2, h3, h4, h5, h6, h7, h8⟩ := H
      refine ⟨p, by simp [hin, h1], h2, h3, h4, h5, h6, h7, fun hv => ?_⟩
      obtain ⟨h9, C, fr, h10, h11, h12, h13⟩ := h8 hv
      refine ⟨h9, C, fr, h10, h11, h12, fun i e j x hi hj => ?_⟩
      obtain ⟨v, hv1, hv2⟩ := h13 i e j x hi hj
      exact ⟨v, hv1, ltV_V ((List.all_eq_true.1 ((List.all_eq_true.1 ho) e (List.mem_of_getElem? hi))) x (List.mem_of_getElem? hj)) hv2⟩
  · have : l < n := by omega
    exact ⟨p, by simp [this, hp], .inl rfl⟩
  · show VA _ M (trA n (f r)) u
    generalize f r = x at hv
    cases x with
    | tup xs =>
      obtain ⟨us, h1, h2, h3⟩ := hv
      refine ⟨us, h1, by simpa using h2, fun j x hj => ?_⟩
      rw [List.getElem?_map] at hj
      obtain ⟨x', hx', rfl⟩ := Option.map_eq_some_iff.1 hj
      obtain ⟨u, h4, h5⟩ := h3 j x' hx'
      exact ⟨u, h4, trA1_V h5⟩
    | one x => exact VA1_VA (trA1_V (x := .one x) hv)
    | agg xs => exact VA1_VA (trA1_V (x := .agg xs) hv)
    | any => trivial
theorem gc_trim {m : Nat} (n : Nat) {N : AF → AH → Prop} {f : AF} {h : AH} (hm : m ≤ n) (hn : n ≤ h.length) (hl : (h.take n).all (ltO n) = true) (H : N (trF n f) (h.take n)) : GC m N f h := ⟨_, _, Ghost.trim n hm hn hl, H⟩
/-! ### Nothing told as an owned row without a block -/
theorem nl_virt (R : Rep G φ M h w) {l g i off : Nat} (t : TypeId) (k : Nat) :
    ∃ φ', Rep G φ' M (h ++ [.own 0 t k none []]) w ∧ Le φ φ' ∧ (∀ l p, φ l = some p → φ' l = some p) ∧ ∀ u, u = .slice none 0 0 → V φ' M (.sl h.length 0 0 0) u := by
  obtain ⟨R', hle⟩ := R.virt t k
  refine ⟨_, R', hle, fun l p hl => ?_, fun u hu => ⟨by rw [hu]; rfl, _, phiAt_at φ _ _, Nat.le_refl _, fun _ => .inl ⟨rfl, rfl, rfl, none, hu⟩⟩⟩
  have : l ≠ h.length := by intro e; subst e; rw [R.dom _ (Nat.le_refl _)] at hl; cases hl
  rw [phiAt_ne φ _ this]
  exact hl
theorem Ghost.nlr {m : Nat} {f : AF} {h : AH} (r : Nat) (hr : f r = .one .nl) (t : TypeId) (k : Nat) : Ghost m f h (upd f r (.one (.sl h.length 0 0 0))) (h ++ [.own 0 t k none []]) := fun G φ M w R => by
  obtain ⟨φ', R', hle, hkeep, hV⟩ := nl_virt R (l := 0) (g := 0) (i := 0) (off := 0) t k
  refine ⟨φ', M, R', MLe.refl _, fun l p _ hp => ⟨p, hkeep l p hp, .inl rfl⟩, fun r' u hv => ?_⟩
  unfold upd
  split
  · rename_i e
    subst e
    rw [hr] at hv
    cases (show V0 M .nl u from hv)
    exact hV _ rfl
  · exact hv.mono hle (MLe.refl _)
end
/-! ### Laws of the ends -/
section
variable (P : Program) (f : AF) (h : AH)
theorem rs_nil : rsG P f h [] = some [] := _root_.id rfl
theorem rs_cons (r : ResultVar) (rs : List ResultVar) : rsG P f h (r :: rs) = cons2 (resOne P f h r) (rsG P f h rs) := _root_.id rfl
theorem cons2_some (v : AV) (r : List AV) : cons2 (some v) (some r) = some (v :: r) := _root_.id rfl
theorem rs_tmp (t : Nat) : resOne P f h (.tmp t) = some (f t) := _root_.id rfl
def rcG (P : Program) (t : TypeId) (a : AV) (h : AH) : Option AV := match a with | .one (.pt l g i off) => ldR P t (objR h l g) i off | _ => none
theorem rs_cell (a : Nat) (t : TypeId) : resOne P f h (.cell a t) = rcG P t (f a) h := _root_.id rfl
theorem rc_pt (l g i off : Nat) (t : TypeId) : rcG P t (.one (.pt l g i off)) h = ldR P t (objR h l g) i off := _root_.id rfl
theorem ot_1 (v : AV) : oneOrTup [v] = v := _root_.id rfl
theorem ot_2 (v u : AV) (r : List AV) : oneOrTup (v :: u :: r) = .tup (v :: u :: r) := _root_.id rfl
theorem ot_0 : oneOrTup [] = .tup [] := _root_.id rfl
def riG (h : AH) (vs : Option (List AV)) (K : AV → AH → Prop) : Prop := On vs fun vs => vs.all notTup = true ∧ K (retA h (oneOrTup vs)) []
theorem ret_i (rs : List ResultVar) (K : AV → AH → Prop) : retI P rs K f h = riG h (rsG P f h rs) K := _root_.id rfl
theorem ri_some (vs : List AV) (K : AV → AH → Prop) : riG h (some vs) K = (vs.all notTup = true ∧ K (retA h (oneOrTup vs)) []) := _root_.id rfl
def roG (ls : List Nat) (h : AH) (vs : Option (List AV)) (K : AV → AH → Prop) : Prop := On vs fun vs => vs.all notTup = true ∧ ls.Nodup ∧ K (rnT ls h (oneOrTup vs)) (ls.map fun l => rnO ls h h[l]?)
theorem ret_o (ls : List Nat) (rs : List ResultVar) (K : AV → AH → Prop) : retO P ls rs K f h = roG ls h (rsG P f h rs) K := _root_.id rfl
theorem ro_some (ls : List Nat) (vs : List AV) (K : AV → AH → Prop) : roG ls h (some vs) K = (vs.all notTup = true ∧ ls.Nodup ∧ K (rnT ls h (oneOrTup vs)) (ls.map fun l => rnO ls h h[l]?)) := _root_.id rfl
theorem nt_1 (x : CV) : notTup (.one x) = true := _root_.id rfl
theorem nt_agg (xs : List CV) : notTup (.agg xs) = true := _root_.id rfl
theorem ra_tup (xs : List AV) : retA h (.tup xs) = .tup (xs.map (imA h)) := _root_.id rfl
theorem ra_1 (x : CV) : retA h (.one x) = imA h (.one x) := _root_.id rfl
theorem ra_agg (xs : List CV) : retA h (.agg xs) = imA h (.agg xs) := _root_.id rfl
theorem rt_tup (ls : List Nat) (xs : List AV) : rnT ls h (.tup xs) = .tup (xs.map (rnA ls h)) := _root_.id rfl
theorem rt_1 (ls : List Nat) (x : CV) : rnT ls h (.one x) = rnA ls h (.one x) := _root_.id rfl
theorem rt_agg (ls : List Nat) (xs : List CV) : rnT ls h (.agg xs) = rnA ls h (.agg xs) := _root_.id rfl
theorem rna_c (ls : List Nat) (v : Value) : rnA ls h (.one (.c v)) = .one (.c v) := _root_.id rfl
theorem rna_sl (ls : List Nat) (l g off len : Nat) : rnA ls h (.one (.sl l g off len)) = .one (rnV ls h (.sl l g off len)) := _root_.id rfl
theorem rna_agg (ls : List Nat) (xs : List CV) : rnA ls h (.agg xs) = .agg (xs.map (rnV ls h)) := _root_.id rfl
theorem rnv_c (ls : List Nat) (v : Value) : rnV ls h (.c v) = .c v := _root_.id rfl
def rnS (i : Option Nat) (b : Bool) (off len : Nat) (x : CV) : CV := match i with | some i => if b = true then .sl i 0 off len else .junk | none => x
theorem rnv_sl (ls : List Nat) (l g off len : Nat) : rnV ls h (.sl l g off len) = rnS (ls.idxOf? l) (objA h l g).isSome off len (imV h (.sl l g off len)) := _root_.id rfl
theorem rnS_some (i : Nat) (off len : Nat) (x : CV) : rnS (some i) true off len x = .sl i 0 off len := by simp [rnS]
def stB : CV → Bool
  | .nl => false
  | .emp => false
  | x => clB x
def stL (es : List (List CV)) : Bool := es.all fun e => e.all stB
theorem stL_nil : stL [] = true := _root_.id rfl
theorem stL_cons (e : List CV) (r : List (List CV)) : stL (e :: r) = (e.all stB && stL r) := _root_.id rfl
theorem stL_map {α : Type} (enc : α → List CV) (xs : List α) (he : ∀ x, (enc x).all stB = true) : stL (xs.map enc) = true := by simp [stL, he]
theorem st_c (v : Value) : stB (.c v) = true := _root_.id rfl
theorem rno_own (ls : List Nat) (g : Nat) (t : TypeId) (n : Nat) (cap : Option Nat) (es : List (List CV)) (he : stL es = true) : rnO ls h (some (.own g t n cap es)) = .own 0 t n cap es := by
  simp only [rnO]
  have h1 : ∀ (x : CV), stB x = true → cnV ls h x = x := fun x hx => by
    cases x with
    | nl => cases hx
    | emp => cases hx
    | pt _ _ _ _ => cases hx
    | sl _ _ _ _ => cases hx
    | clo g caps => cases caps with | nil => rfl | cons _ _ => cases hx
    | _ => rfl
  have h2 : es.map (·.map (cnV ls h)) = es := by
    conv => rhs; rw [← List.map_id es]
    refine List.map_congr_left fun e hm => ?_
    have := (List.all_eq_true.1 he) e hm
    show e.map (cnV ls h) = e
    conv => rhs; rw [← List.map_id e]
    exact List.map_congr_left fun x hx => h1 x ((List.all_eq_true.1 this) x hx)
  rw [h2]
theorem tr_at (n r : Nat) : trF n f r = trA n (f r) := _root_.id rfl
theorem tr_c (n : Nat) (v : Value) : trA n (.one (.c v)) = .one (.c v) := _root_.id rfl
theorem tr_im (n : Nat) (es : List (List CV)) : trA n (.one (.im es)) = .one (.im es) := _root_.id rfl
theorem tr_sl (n l g off len : Nat) (hl : l < n) : trA n (.one (.sl l g off len)) = .one (.sl l g off len) := by simp [trA, trA1, trV, ltV, hl]
theorem tr_pt (n l g i off : Nat) (hl : l < n) : trA n (.one (.pt l g i off)) = .one (.pt l g i off) := by simp [trA, trA1, trV, ltV, hl]
def ltE (n : Nat) (es : List (List CV)) : Bool := es.all fun e => e.all (ltV n)
theorem lt_own (n g : Nat) (t : TypeId) (m : Nat) (cap : Option Nat) (es : List (List CV)) : ltO n (.own g t m cap es) = ltE n es := _root_.id rfl
theorem lte_cl (n : Nat) (es : List (List CV)) (he : clE es = true) : ltE n es = true := by
  simp only [ltE, clE, List.all_eq_true] at he ⊢
  intro e h1 x h2
  have := he e h1 x h2
  cases x with
  | pt _ _ _ _ => cases this
  | sl _ _ _ _ => cases this
  | clo g caps => cases caps with | nil => rfl | cons _ _ => cases this
  | _ => rfl
end
/-! ### Calls, by content or on all objects -/
section
variable {P : Program} {g : Nat} {args args' : List AV} {ls : List Nat} {b : Bool} {h : AH} {k : Ko}
def ccG (P : Program) (ls : List Nat) (h : AH) (k : Ko) (r : AV) (h' : AH) : Prop := if freeA r = true ∧ h'.all freeO = true then krl P k (shA h.length r) (h ++ h'.map (shO h.length)) else krf P k ls (shA h.length r) (frH ls h ++ h'.map (shO h.length))
theorem call_c (H : ACalls P g args' [] (ccG P ls h k)) : clG P g args args' ls b h k := .inl H
theorem call_h (H : ACalls P g args h (kr P k)) : clG P g args args' ls false h k := .inr (.inl ⟨rfl, H⟩)
theorem call_f (q : List Nat) (H : FCalls P g args h q (krf P k q)) : clG P g args args' ls false h k := .inr (.inr (.inr (.inr ⟨q, rfl, H⟩)))
theorem pl_sh1 (n : Nat) (r : AV) (hr : plainA1 r = true) : shA1 n r = r ∧ freeA1 r = true := by
  have hx : ∀ x : CV, plainC x = true → shV n x = x ∧ freeC x = true := fun x hx => by cases x <;> first | exact ⟨rfl, rfl⟩ | cases hx
  cases r with
  | one x => cases x <;> first | exact ⟨rfl, rfl⟩ | cases hr
  | agg xs =>
    have h1 : ∀ x ∈ xs, shV n x = x ∧ freeC x = true := fun x h => hx x ((List.all_eq_true.1 hr) x h)
    refine ⟨?_, List.all_eq_true.2 fun x h => (h1 x h).2⟩
    simp only [shA1, AV.agg.injEq]
    conv => rhs; rw [← List.map_id xs]
    exact List.map_congr_left fun x h => (h1 x h).1
  | tup xs => cases hr
  | any => cases hr
theorem pl_sh (n : Nat) (r : AV) (hr : plainA r = true) : shA n r = r ∧ freeA r = true := by
  cases r with
  | tup xs =>
    have h1 : ∀ x ∈ xs, shA1 n x = x ∧ freeA1 x = true := fun x h => pl_sh1 n x ((List.all_eq_true.1 hr) x h)
    refine ⟨?_, List.all_eq_true.2 fun x h => (h1 x h).2⟩
    simp only [shA, AV.tup.injEq]
    conv => rhs; rw [← List.map_id xs]
    exact List.map_congr_left fun x h => (h1 x h).1
  | one x => exact pl_sh1 n (.one x) hr
  | agg xs => exact pl_sh1 n (.agg xs) hr
  | any => cases hr
theorem cc_p (r : AV) (hr : plainA r = true) : ccG P ls h k r [] = krl P k r h := by simp [ccG, pl_sh h.length r hr]
theorem cc_n (r : AV) (hr : freeA r = false) : ccG P ls h k r [] = krf P k ls (shA h.length r) (frH ls h) := by simp [ccG, hr]
def ccI (b : Bool) (A B : Prop) : Prop := if b = true then A else B
theorem ccI_t (A B : Prop) : ccI true A B = A := by simp [ccI]
theorem cc_o (r : AV) (o : AO) (h' : AH) : ccG P ls h k r (o :: h') = ccI (freeA r && (freeO o && h'.all freeO)) (krl P k (shA h.length r) (h ++ (shO h.length o :: h'.map (shO h.length)))) (krf P k ls (shA h.length r) (frH ls h ++ (shO h.length o :: h'.map (shO h.length)))) := by
  simp only [ccG, ccI, List.all_cons, Bool.and_eq_true, List.map_cons]
theorem fe_im (es : List (List CV)) : freeA (.one (.im es)) = false := _root_.id rfl
theorem fe_sl (l g off len : Nat) : freeA (.one (.sl l g off len)) = true := _root_.id rfl
theorem fe_agg (xs : List CV) : freeA (.agg xs) = xs.all freeC := _root_.id rfl
theorem fe_tup (xs : List AV) : freeA (.tup xs) = xs.all freeA1 := _root_.id rfl
theorem fe1_c (v : Value) : freeA1 (.one (.c v)) = true := _root_.id rfl
theorem fe1_im (es : List (List CV)) : freeA1 (.one (.im es)) = false := _root_.id rfl
theorem fe1_sl (l g off len : Nat) : freeA1 (.one (.sl l g off len)) = true := _root_.id rfl
theorem fec_c (v : Value) : freeC (.c v) = true := _root_.id rfl
theorem fec_sl (l g off len : Nat) : freeC (.sl l g off len) = true := _root_.id rfl
theorem feo_own (g : Nat) (t : TypeId) (n : Nat) (cap : Option Nat) (es : List (List CV)) : freeO (.own g t n cap es) = freeE es := _root_.id rfl
theorem fee_map {α : Type} (enc : α → List CV) (xs : List α) (he : ∀ x, (enc x).all freeC = true) : freeE (xs.map enc) = true := by simp [freeE, he]
end
/-! ### From a contract to a law's call -/
theorem rep0 (W : World) (hT : ∀ b, tabB b = true → b < W.heap.size ∧ tabP b W.heap[b]?) : Rep ⟨W, owned (fun _ => none) [], fun a v => W.cell? a = some v ∧ a.block < W.heap.size⟩ (fun _ => none) (fun a v => W.cell? a = some v ∧ a.block < W.heap.size) [] W :=
  ⟨rfl, rfl, ⟨rfl, fun b hb => ⟨(hT b hb).1, fun ⟨l, p, ⟨_, _, _, _, _, hl, _⟩, e⟩ => by simp at hl, (hT b hb).2⟩⟩, Nat.le_refl _, fun _ _ _ => rfl, MLe.refl _, fun _ _ h => h, fun _ _ h => .inl h, fun _ _ => rfl, fun l o hl => by simp at hl, fun l p ho => by obtain ⟨_, _, _, _, _, hl, _⟩ := ho; simp at hl, fun i j p q ho => by obtain ⟨_, _, _, _, _, hl, _⟩ := ho; simp at hl,
    fun a v l p _ ho => by obtain ⟨_, _, _, _, _, hl, _⟩ := ho; simp at hl⟩
theorem law_callsT {P : Program} {g : Nat} {args : List AV} {us : List Value} {W : World} (H : ACalls P g args [] fun r _ => r = .one (.c (.bool true))) (ha : VAs (fun _ => none) (fun a v => W.cell? a = some v ∧ a.block < W.heap.size) args us) (hT : ∀ b, tabB b = true → b < W.heap.size ∧ tabP b W.heap[b]?) :
    Calls P g us.toArray W fun e W' => e = .returned (.bool true) ∧ Below W.heap.size W W' := by
  refine (H.2 _ _ W us (rep0 W hT) ha).mono ?_
  rintro e w' ⟨v, r, h', φ', M', rfl, hv, rfl, R', _⟩
  have hno : ∀ b, ¬ owned (fun _ => none) [] b := by rintro b ⟨l, p, ⟨_, _, _, _, _, hl, _⟩, _⟩; simp at hl
  exact ⟨by rw [VA_c hv], R'.os, R'.tape, R'.output.1, R'.size, fun b hb => R'.blk b hb (hno b)⟩
end Go.BL
end
section
namespace Go.BL
open Go.RowKit
set_option linter.unusedVariables false
set_option linter.unusedSimpArgs false
def agree : List Nat → AF → AF → Prop
  | [], _, _ => True
  | r :: L, f, f0 => f r = f0 r ∧ agree L f f0
theorem ag_nil (f f0 : AF) : agree [] f f0 = True := _root_.id rfl
theorem ag_cons (r : Nat) (L : List Nat) (f f0 : AF) : agree (r :: L) f f0 = (f r = f0 r ∧ agree L f f0) := _root_.id rfl
section
variable {P : Program} {b : Code} {s : List Fr} {Q : QT} {f0 : AF} {h0 : AH}
theorem for_at (n : Nat) (L : List Nat) (I : Nat → AF → AH → Prop) (h : GC Q.m (fun f h => agree L f f0 ∧ I 0 f h) f0 h0)
    (hr : ∀ (i : Nat) (f : AF) (h : AH) (J : AF → AH → Prop), i ≤ n → agree L f f0 → I i f h → (∀ f' h', i < n → agree L f' f0 → I (i + 1) f' h' → J f' h') → goG P b (.inv J :: s) Q f h) : lpG P b s Q f0 h0 := by
  refine loop_at (fun k f h => ∃ i, i ≤ n ∧ k = n - i ∧ agree L f f0 ∧ I i f h) n (h.mono fun f h hh => ⟨0, Nat.zero_le _, rfl, hh⟩) ?_
  rintro k f h J hJ ⟨i, hi, rfl, hA, hI⟩
  exact hr i f h J hi hA hI fun f' h' hlt hA' hI' => hJ (n - (i + 1)) f' h' (by omega) ⟨i + 1, hlt, rfl, hA', hI'⟩
theorem while_at {α : Type} (μ : α → Nat) (L : List Nat) (I : α → AF → AH → Prop) (a0 : α) (h : GC Q.m (fun f h => agree L f f0 ∧ I a0 f h) f0 h0)
    (hr : ∀ (a : α) (f : AF) (h : AH) (J : AF → AH → Prop), agree L f f0 → I a f h → (∀ a' f' h', μ a' < μ a → agree L f' f0 → I a' f' h' → J f' h') → goG P b (.inv J :: s) Q f h) : lpG P b s Q f0 h0 := by
  refine loop_at (fun k f h => ∃ a, k = μ a ∧ agree L f f0 ∧ I a f h) (μ a0) (h.mono fun f h hh => ⟨a0, rfl, hh⟩) ?_
  rintro k f h J hJ ⟨a, rfl, hA, hI⟩
  exact hr a f h J hA hI fun a' f' h' hlt hA' hI' => hJ (μ a') f' h' hlt ⟨a', rfl, hA', hI'⟩
end
theorem nc_0 : ((0 : Nat) : Int) = 0 := _root_.id rfl
theorem wrap_nat (i : Nat) (hi : i < 9223372036854775807) : wrap64 ((i : Int) + 1) = ((i + 1 : Nat) : Int) := by unfold wrap64; omega
theorem wrap_id (n : Int) (h1 : -9223372036854775808 ≤ n) (h2 : n ≤ 9223372036854775807) : wrap64 n = n := by unfold wrap64; omega
theorem lt_len {n i : Nat} (h : decide ((i : Int) < (n : Int)) = true) : i < n := by have := of_decide_eq_true h; omega
theorem ge_len {n i : Nat} (h : decide ((i : Int) < (n : Int)) = false) (hi : i ≤ n) : i = n := by have := of_decide_eq_false h; omega
/-! ### Functions that are handed owned objects -/
section
variable {P : Program} {G : Cx} {φ : Phi} {M : Im} {h : AH} {w : World}
def wfH (h : AH) : Prop := h.all (ltO h.length) = true
theorem Rep.wfH (R : Rep G φ M h w) : wfH h := by
  have hl : ∀ l p, φ l = some p → l < h.length := fun l p hp => by
    rcases Nat.lt_or_ge l h.length with q | q
    · exact q
    · rw [R.dom l q] at hp; cases hp
  unfold BL.wfH
  rw [List.all_eq_true]
  intro o ho
  obtain ⟨i, hi⟩ := List.mem_iff_getElem?.1 ho
  cases o with
  | dead => rfl
  | ro _ _ _ _ => rfl
  | own g t k cap es =>
    simp only [ltO, List.all_eq_true]
    intro e he x hx
    obtain ⟨q, hq⟩ := List.mem_iff_getElem?.1 he
    obtain ⟨j, hj⟩ := List.mem_iff_getElem?.1 hx
    obtain ⟨p, _, _, _, _, hc⟩ := R.cell hi hq
    obtain ⟨v, _, hv⟩ := hc j x hj
    cases x with
    | pt l g i off => obtain ⟨_, p, h2, _⟩ := hv; simpa [ltV] using hl l p h2
    | sl l g off len => obtain ⟨_, p, h2, _⟩ := hv; simpa [ltV] using hl l p h2
    | clo g caps =>
      obtain ⟨vs, _, _, h3⟩ := hv
      simp only [ltV, List.all_eq_true, decide_eq_true_eq]
      intro l hlm
      obtain ⟨q, hq⟩ := List.mem_iff_getElem?.1 hlm
      obtain ⟨v, _, _, p, h6, _⟩ := h3 q l hq
      exact hl l p h6
    | _ => rfl
theorem wf_set {l : Nat} {o : AO} (hw : wfH h) (ho : ltO h.length o = true) : (h.set l o).all (ltO h.length) = true := by
  rw [List.all_eq_true]
  intro x hx
  rcases List.mem_or_eq_of_mem_set hx with hx | rfl
  · exact (List.all_eq_true.1 hw) x hx
  · exact ho
def retM (P : Program) (hf : AH) (n : Nat) (rs : List ResultVar) (K : AV → AH → Prop) (f : AF) (h : AH) : Prop := On (rsG P f h rs) fun vs => vs.all notTup = true ∧ hf.length = n ∧ hf.all (ltO n) = true ∧ (∃ ext, h = hf ++ ext) ∧ K (trA n (oneOrTup vs)) hf
theorem acall_m {g : Nat} {fn : Func} {c : Code} {args : List AV} {K : AV → AH → Prop} (rs : List ResultVar) (hmo : P.follows .mixedOrders = true) (hf : P.funcs[g]? = some fn) (hrs : fn.results.toList = rs) (hbody : fn.body = some c) (hB : (codeB fn.ntmps c && fnB fn && hasBody P g && decide (args.length ≤ fn.ntmps)) = true)
    (H : wfH h → ∀ Q : AExit → AF → AH → Prop, (∀ hf f h', GC h.length (retM P hf h.length rs K) f h' → Q .ret f h') → goG P c [] ⟨h.length, Q⟩ (frame0 args) h) : ACalls P g args h K := by
  have main : ∀ hw : wfH h, ACalls P g args h K := fun hw => acall_gen rs hmo hf hrs hbody hB (fun Q hm hQ => by
    obtain ⟨m, q⟩ := Q
    simp only at hm
    subst hm
    refine H hw q (fun hf f h' hr => (hQ f h' (hr.mono fun f h' hr => ?_)).1)
    unfold retM at hr
    obtain ⟨vs, hvs, hnt, hlen, hlt, ⟨ext, rfl⟩, hk⟩ := hr.elim
    unfold ARet
    rw [hvs]
    refine ⟨hnt, trA h.length (oneOrTup vs), hf, hk, fun G φ M w u R hv => ?_⟩
    have htk : (hf ++ ext).take h.length = hf := by rw [← hlen, List.take_left]
    obtain ⟨φ', M', R', hM, hkeep, hreg⟩ := Ghost.trim (m := h.length) (f := fun _ => oneOrTup vs) h.length (Nat.le_refl _) (by simp; omega) (by rw [htk]; exact hlt) G φ M w R
    rw [htk] at R'
    exact ⟨φ', M', R', hreg 0 u hv, fun l p hl hp => hkeep l p hl hp⟩)
  refine ⟨by simp only [Bool.and_eq_true] at hB; exact hB.1.2, fun φ M w vs R ha => (main R.wfH).2 φ M w vs R ha⟩
theorem ret_m {P : Program} {hf : AH} {n : Nat} {rs : List ResultVar} {K : AV → AH → Prop} {f : AF} {h : AH} {vs : List AV} (h1 : rsG P f h rs = some vs) (h2 : vs.all notTup = true) (h4 : hf.length = n) (h5 : hf.all (ltO n) = true) (h6 : ∃ ext, h = hf ++ ext) (h7 : K (trA n (oneOrTup vs)) hf) : retM P hf n rs K f h := by
  unfold retM
  rw [h1]
  exact ⟨h2, h4, h5, h6, h7⟩
end
end Go.BL
namespace Go.BL
open Go.RowKit
theorem kB {K : AV → AH → Prop} {a b : Bool} {h : AH} (hk : K (.one (.c (.bool a))) h) (e : b = a) : K (.one (.c (.bool b))) h := e ▸ hk
end Go.BL
/-! ### Rows that are filled from the front -/
namespace Go.BL
section
variable {α β : Type}
def fillR (new : Nat → β) (old : List β) (i : Nat) : List β := (List.range i).map new ++ old.drop i
theorem fill_0 (new : Nat → β) (old : List β) : fillR new old 0 = old := by simp [fillR]
theorem fill_len (new : Nat → β) (old : List β) (i : Nat) (hi : i ≤ old.length) : (fillR new old i).length = old.length := by simp [fillR]; omega
theorem fill_get (new : Nat → β) (old : List β) (i : Nat) : (fillR new old i)[i]? = old[i]? := by
  rw [fillR, List.getElem?_append_right (by simp)]
  simp
theorem fill_set (new : Nat → β) (old : List β) (i : Nat) (hi : i < old.length) (e : β) (he : e = new i) : (fillR new old i).set i e = fillR new old (i + 1) := by
  subst he
  apply List.ext_getElem?
  intro j
  by_cases hj : j = i
  · subst hj
    rw [List.getElem?_set_self (by rw [fill_len _ _ _ (by omega)]; exact hi), fillR, List.getElem?_append_left (by simp)]
    simp
  · rw [List.getElem?_set_ne (Ne.symm hj)]
    unfold fillR
    by_cases h1 : j < i
    · rw [List.getElem?_append_left (by simpa using h1), List.getElem?_append_left (by simp; omega), List.getElem?_map, List.getElem?_map, List.getElem?_range h1, List.getElem?_range (by omega)]
    · rw [List.getElem?_append_right (by simp; omega), List.getElem?_append_right (by simp; omega), List.getElem?_drop, List.getElem?_drop]
      congr 1
      simp
      omega
theorem fill_all (new : Nat → β) (old : List β) : fillR new old old.length = (List.range old.length).map new := by simp [fillR]
theorem fill_copy (xs old : List α) (z : α) (hl : old.length = xs.length) : fillR (fun i => xs[i]?.getD z) old xs.length = xs := by
  rw [← hl, fill_all, hl]
  apply List.ext_getElem?
  intro j
  rw [List.getElem?_map]
  by_cases h : j < xs.length
  · rw [List.getElem?_range h, List.getElem?_eq_getElem h]; simp [h]
  · rw [List.getElem?_eq_none (by simpa using h), List.getElem?_eq_none (by omega)]; rfl
theorem map_rep (enc : α → β) (n : Nat) (z : α) (e : β) (he : enc z = e) : List.replicate n e = (List.replicate n z).map enc := by simp [he]
theorem set_at {h : List β} {l : Nat} {a : β} (hl : h[l]? = some a) (o : β) : (h.set l o)[l]? = some o := by
  rw [List.getElem?_set_self (List.getElem?_eq_some_iff.1 hl).1]
end
end Go.BL
/-! ### Bytes and texts -/
namespace Go.BL
end Go.BL
namespace Go.BL
theorem tr_clo (n g : Nat) (caps : List Nat) (hc : caps.all (fun l => decide (l < n)) = true) : trA n (.one (.clo g caps)) = .one (.clo g caps) := by simp [trA, trA1, trV, ltV, hc]
theorem take_app {n : Nat} (h a : AH) (hl : h.length = n) : (h ++ a).take n = h := by subst hl; exact List.take_left
end Go.BL
namespace Go.BL
theorem cset_end {α : Type} (cs ys : List α) (o : Nat) (h : o + ys.length = cs.length) : cset cs o ys = cs.take o ++ ys := by
  apply List.ext_getElem?
  intro j
  rw [cset_get ys cs o j (by omega)]
  by_cases h1 : o ≤ j
  · rw [List.getElem?_append_right (by simp; omega)]
    by_cases h2 : j < o + ys.length
    · rw [if_pos ⟨h1, h2⟩]; congr 1; simp; omega
    · rw [if_neg (fun q => h2 q.2), List.getElem?_eq_none (by omega), List.getElem?_eq_none (by simp; omega)]
  · rw [if_neg (fun q => h1 q.1), List.getElem?_append_left (by simp; omega), List.getElem?_take, if_pos (by omega)]
end Go.BL
namespace Go.BL
theorem Ghost.cut {m : Nat} {f : AF} {h : AH} {l g k : Nat} {t : TypeId} {cap : Option Nat} {es : List (List CV)} (hl : h[l]? = some (.own g t k cap es)) (n : Nat) : Ghost m f h f (h.set l (.own g t k none (es.take n))) := fun G φ M w R => by
  have hown : ∀ i p, Own φ (h.set l (.own g t k none (es.take n))) i p → Own φ h i p := by
    rintro i p ⟨g1, t1, k1, cap1, es1, hi, hp, hv⟩
    rcases set_get hi with ⟨rfl, _, _⟩ | ⟨_, hi⟩
    · exact ⟨_, _, _, _, _, hl, hp, hv⟩
    · exact ⟨g1, t1, k1, cap1, es1, hi, hp, hv⟩
  have htk : ∀ (i : Nat) (e : List CV), (es.take n)[i]? = some e → es[i]? = some e := fun i e hi => by
    rw [List.getElem?_take] at hi
    split at hi
    · exact hi
    · cases hi
  refine ⟨φ, M, ⟨R.os, R.tape, R.output, R.size, R.blk, R.mon, R.imm, R.imn, fun i hi => R.dom i (by simpa using hi), fun i o hi => ?_, fun i p ho => R.new i p (hown i p ho), fun i j p q hi hj hne => R.inj i j p q (hown i p hi) (hown j q hj) hne, fun a v i p hm ho => R.dis a v i p hm (hown i p ho)⟩, MLe.refl _, fun l p _ hp => ⟨p, hp, .inl rfl⟩, fun r u hv => hv⟩
  rcases set_get hi with ⟨rfl, rfl, _⟩ | ⟨_, hi⟩
  · obtain ⟨p, h1, h2, h3, h4, h5, h6, h7, h8⟩ := R.obj i _ hl
    refine ⟨p, h1, h2, h3, by simp; omega, fun c hc => (by cases hc), fun e he => h6 e (List.mem_of_mem_take he), h7, fun hv => ?_⟩
    obtain ⟨h9, C, fr, h10, h11, h12, h13⟩ := h8 hv
    exact ⟨h9, C, fr, h10, h11, h12, fun i e j x hi hj => h13 i e j x (htk i e hi) hj⟩
  · exact R.obj i o hi
end Go.BL
namespace Go.BL
theorem Ghost.freeze {m : Nat} {f : AF} {h : AH} (L : List Nat) : Ghost m f h f (frH L h) := fun G φ M w R => by
  obtain ⟨M', RF, hM, _⟩ := R.freeze L
  exact ⟨φ, M', RF, hM, fun _ p _ h => ⟨p, h, .inl rfl⟩, fun r u hv => hv.mono (Le.refl _) hM⟩
end Go.BL
namespace Go.BL
end Go.BL
end
section
namespace Go.BL
open Go.RowKit
set_option linter.unusedVariables false
set_option linter.unusedSimpArgs false
theorem Ghost.move {m : Nat} {f : AF} {h : AH} {l l' g k k' : Nat} {t t' : TypeId} {cap cap' : Option Nat} {es es' : List (List CV)} {n : Nat} (r : Nat) (hr : f r = .one (.sl l' 0 0 n)) (hl : h[l]? = some (.own g t k cap es)) (hl' : h[l']? = some (.own 0 t' k' cap' es')) (hne : l ≠ l') :
    Ghost m f h (upd f r (.one (.sl l (g + 1) 0 n))) ((h.set l (.own (g + 1) t' k' cap' es')).set l' .dead) := fun G φ M w R => by
  obtain ⟨p, hp, hg, _⟩ := R.own_p hl
  obtain ⟨p', h1, h2, h3, h4, h5, h6, h7, h8⟩ := R.obj l' _ hl'
  have hle : Le φ (phiAt φ l { p' with g := g + 1 }) := Le.at_gen hp (by simp; omega)
  have hget : ∀ (i : Nat) (o : AO), ((h.set l (.own (g + 1) t' k' cap' es')).set l' .dead)[i]? = some o → (i = l ∧ o = .own (g + 1) t' k' cap' es') ∨ (i = l' ∧ o = .dead) ∨ (i ≠ l ∧ i ≠ l' ∧ h[i]? = some o) := fun i o hi => by
    rcases set_get hi with ⟨rfl, rfl, _⟩ | ⟨hn, hi⟩
    · exact .inr (.inl ⟨rfl, rfl⟩)
    · rcases set_get hi with ⟨rfl, rfl, _⟩ | ⟨hn2, hi⟩
      · exact .inl ⟨rfl, rfl⟩
      · exact .inr (.inr ⟨hn2, hn, hi⟩)
  have hown : ∀ i q, Own (phiAt φ l { p' with g := g + 1 }) ((h.set l (.own (g + 1) t' k' cap' es')).set l' .dead) i q → (i = l ∧ q.b = p'.b ∧ Own φ h l' p') ∨ (i ≠ l ∧ i ≠ l' ∧ Own φ h i q) := by
    rintro i q ⟨g1, t1, k1, cap1, es1, hi, hq, hv⟩
    rcases hget i _ hi with ⟨rfl, ho⟩ | ⟨rfl, ho⟩ | ⟨hn1, hn2, hi⟩
    · rw [phiAt_at] at hq
      cases hq
      exact .inl ⟨rfl, rfl, _, _, _, _, _, hl', h1, hv⟩
    · cases ho
    · rw [phiAt_ne φ _ hn1] at hq
      exact .inr ⟨hn1, hn2, g1, t1, k1, cap1, es1, hi, hq, hv⟩
  refine ⟨phiAt φ l { p' with g := g + 1 }, M, ⟨R.os, R.tape, R.output, R.size, R.blk, R.mon, R.imm, R.imn, fun i hi => ?_, fun i o hi => ?_, fun i q ho => ?_, fun i j q s hi hj hn => ?_, fun a v i q hm ho => ?_⟩, MLe.refl _, fun i q _ hq => hle i q hq, fun s u hv => ?_⟩
  · simp at hi
    rw [phiAt_ne φ _ (by have := hlt hl; omega)]
    exact R.dom i hi
  · rcases hget i o hi with ⟨rfl, rfl⟩ | ⟨rfl, rfl⟩ | ⟨hn1, hn2, hi⟩
    · refine ⟨_, phiAt_at φ _ _, rfl, h3, h4, h5, h6, h7, fun hv => ?_⟩
      obtain ⟨h9, C, fr, h10, h11, h12, h13⟩ := h8 hv
      refine ⟨h9, C, fr, h10, h11, h12, fun i e j x hi hj => ?_⟩
      obtain ⟨v, hv1, hv2⟩ := h13 i e j x hi hj
      exact ⟨v, hv1, hv2.mono hle (MLe.refl _)⟩
    · trivial
    · exact (R.obj i o hi).move hle (MLe.refl _) (phiAt_ne φ _ hn1) (fun _ _ _ _ => rfl)
  · rcases hown i q ho with ⟨rfl, e, ho'⟩ | ⟨_, _, ho'⟩
    · rw [e]; exact R.new l' p' ho'
    · exact R.new i q ho'
  · rcases hown i q hi with ⟨rfl, e, ho⟩ | ⟨a1, a2, ho⟩ <;> rcases hown j s hj with ⟨rfl, e', ho'⟩ | ⟨b1, b2, ho'⟩
    · exact absurd rfl hn
    · rw [e]; exact R.inj l' j p' s ho ho' (Ne.symm b2)
    · rw [e']; exact R.inj i l' q p' ho ho' a2
    · exact R.inj i j q s ho ho' hn
  · rcases hown i q ho with ⟨rfl, e, ho'⟩ | ⟨_, _, ho'⟩
    · rw [e]; exact R.dis a v l' p' hm ho'
    · exact R.dis a v i q hm ho'
  · unfold upd
    split
    · rename_i e
      subst e
      rw [hr] at hv
      obtain ⟨q1, q2, q3, _, q4⟩ := (show Vsl φ l' 0 0 n u from hv)
      rw [h1] at q3
      cases q3
      exact ⟨q1, _, phiAt_at φ _ _, Nat.le_refl _, fun _ => q4 h2⟩
    · exact hv.mono hle (MLe.refl _)
end Go.BL
namespace Go.BL
theorem wf_set2 {h : AH} {l p : Nat} {o o' : AO} (hw : wfH h) (ho : ltO h.length o = true) (ho' : ltO h.length o' = true) : ((h.set l o).set p o').all (ltO h.length) = true := by
  rw [List.all_eq_true]
  intro x hx
  rcases List.mem_or_eq_of_mem_set hx with hx | rfl
  · exact (List.all_eq_true.1 (wf_set hw ho)) x hx
  · exact ho'
end Go.BL
namespace Go.BL
open Go.RowKit
theorem acall_im {P : Program} {g : Nat} {args : List AV} {K : AV → AH → Prop} (H : ACalls P g args [] fun r h' => K (retA h' r) []) : ACalls P g args [] K := by
  refine ⟨H.1, fun φ M w us R hargs => (H.2 φ M w us R hargs).mono ?_⟩
  rintro e w' ⟨v, r, h', φ', M', rfl, hv, hk, R', hle⟩
  obtain ⟨M2, RF, hM, hc⟩ := R'.freeze (List.range h'.length)
  refine ⟨v, retA h' r, [], fun _ => none, M2, rfl, retA_V R' hM (fun l p ho => hc l (List.mem_range.2 (own_lt' ho)) p ho) hv, hk, RF.drop, fun l p hl => ?_⟩
  rw [R.dom l (Nat.zero_le _)] at hl
  cases hl
end Go.BL
namespace Go.BL
open Go.RowKit
end Go.BL
end
section
namespace Go.BL
open Go.RowKit
set_option linter.unusedVariables false
set_option linter.unusedSimpArgs false
def rnF (ρ : Nat → Nat) : CV → CV
  | .pt l g i off => .pt (ρ l) g i off
  | .sl l g off len => .sl (ρ l) g off len
  | .clo g caps => .clo g (caps.map ρ)
  | x => x
def rnF1 (ρ : Nat → Nat) : AV → AV
  | .one x => .one (rnF ρ x)
  | .agg xs => .agg (xs.map (rnF ρ))
  | x => x
def rnFA (ρ : Nat → Nat) : AV → AV
  | .tup xs => .tup (xs.map (rnF1 ρ))
  | x => rnF1 ρ x
def rnFO (ρ : Nat → Nat) : AO → AO
  | .dead => .dead
  | .ro g t k es => .ro g t k es
  | .own g t k cap es => .own g t k cap (es.map (·.map (rnF ρ)))
section
variable {φ φ' : Phi} {M : Im} {ρ : Nat → Nat}
theorem V_to (hρ : ∀ l p, φ l = some p → φ' (ρ l) = some p) {x : CV} {u : Value} (hv : V φ M x u) : V φ' M (rnF ρ x) u := by
  cases x with
  | pt l g i off => obtain ⟨h1, p, h2, h3⟩ := hv; exact ⟨h1, p, hρ l p h2, h3⟩
  | sl l g off len => obtain ⟨h1, p, h2, h3⟩ := hv; exact ⟨h1, p, hρ l p h2, h3⟩
  | clo g caps =>
    obtain ⟨vs, h1, h2, h3⟩ := hv
    refine ⟨vs, h1, by simpa using h2, fun j l hj => ?_⟩
    rw [List.getElem?_map] at hj
    obtain ⟨l', hl', rfl⟩ := Option.map_eq_some_iff.1 hj
    obtain ⟨v, h4, h5, p, h6, h7⟩ := h3 j l' hl'
    exact ⟨v, h4, h5, p, hρ l' p h6, h7⟩
  | _ => exact hv
theorem VA1_to (hρ : ∀ l p, φ l = some p → φ' (ρ l) = some p) {x : AV} {u : Value} (hv : VA1 φ M x u) : VA1 φ' M (rnF1 ρ x) u := by
  cases x with
  | one x =>
    cases x with
    | c v => exact hv
    | _ => exact V_to hρ (x := _) (u := u) (by simpa only [VA1] using hv)
  | agg xs =>
    obtain ⟨us, h1, h2, h3⟩ := hv
    refine ⟨us, h1, by simpa using h2, fun j x hj => ?_⟩
    rw [List.getElem?_map] at hj
    obtain ⟨x', hx', rfl⟩ := Option.map_eq_some_iff.1 hj
    obtain ⟨u, h4, h5⟩ := h3 j x' hx'
    exact ⟨u, h4, V_to hρ h5⟩
  | tup xs => exact hv
  | any => trivial
theorem VA_to (hρ : ∀ l p, φ l = some p → φ' (ρ l) = some p) {x : AV} {u : Value} (hv : VA φ M x u) : VA φ' M (rnFA ρ x) u := by
  cases x with
  | tup xs =>
    obtain ⟨us, h1, h2, h3⟩ := hv
    refine ⟨us, h1, by simpa using h2, fun j x hj => ?_⟩
    rw [List.getElem?_map] at hj
    obtain ⟨x', hx', rfl⟩ := Option.map_eq_some_iff.1 hj
    obtain ⟨u, h4, h5⟩ := h3 j x' hx'
    exact ⟨u, h4, VA1_to hρ h5⟩
  | one x => exact VA1_VA (VA1_to hρ (x := .one x) hv)
  | agg xs => exact VA1_VA (VA1_to hρ (x := .agg xs) hv)
  | any => trivial
theorem V_from (hρ : ∀ l p, φ' (ρ l) = some p → φ l = some p) {x : CV} {u : Value} (hv : V φ' M (rnF ρ x) u) : V φ M x u := by
  cases x with
  | pt l g i off => obtain ⟨h1, p, h2, h3⟩ := hv; exact ⟨h1, p, hρ l p h2, h3⟩
  | sl l g off len => obtain ⟨h1, p, h2, h3⟩ := hv; exact ⟨h1, p, hρ l p h2, h3⟩
  | clo g caps =>
    obtain ⟨vs, h1, h2, h3⟩ := hv
    refine ⟨vs, h1, by simpa using h2, fun j l hj => ?_⟩
    obtain ⟨v, h4, h5, p, h6, h7⟩ := h3 j (ρ l) (by rw [List.getElem?_map, hj]; rfl)
    exact ⟨v, h4, h5, p, hρ l p h6, h7⟩
  | _ => exact hv
theorem VA1_from (hρ : ∀ l p, φ' (ρ l) = some p → φ l = some p) {x : AV} {u : Value} (hv : VA1 φ' M (rnF1 ρ x) u) : VA1 φ M x u := by
  cases x with
  | one x =>
    rcases VA_V (show VA φ' M (.one (rnF ρ x)) u from hv) with q | ⟨v, q, rfl⟩
    · exact V_VA (V_from hρ q)
    · cases x <;> cases q
      rfl
  | agg xs =>
    obtain ⟨us, h1, h2, h3⟩ := hv
    refine ⟨us, h1, by simpa using h2, fun j x hj => ?_⟩
    obtain ⟨u, h4, h5⟩ := h3 j (rnF ρ x) (by rw [List.getElem?_map, hj]; rfl)
    exact ⟨u, h4, V_from hρ h5⟩
  | tup xs => exact hv
  | any => trivial
theorem VA_from (hρ : ∀ l p, φ' (ρ l) = some p → φ l = some p) {x : AV} {u : Value} (hv : VA φ' M (rnFA ρ x) u) : VA φ M x u := by
  cases x with
  | tup xs =>
    obtain ⟨us, h1, h2, h3⟩ := hv
    refine ⟨us, h1, by simpa using h2, fun j x hj => ?_⟩
    obtain ⟨u, h4, h5⟩ := h3 j (rnF1 ρ x) (by rw [List.getElem?_map, hj]; rfl)
    exact ⟨u, h4, VA1_from hρ h5⟩
  | one x => exact VA1_VA (VA1_from (φ' := φ') hρ (x := .one x) hv)
  | agg xs => exact VA1_VA (VA1_from (φ' := φ') hρ (x := .agg xs) hv)
  | any => trivial
theorem VAs_from (hρ : ∀ l p, φ' (ρ l) = some p → φ l = some p) {xs : List AV} {us : List Value} (hv : VAs φ' M (xs.map (rnFA ρ)) us) : VAs φ M xs us := by
  refine ⟨by simpa using hv.1, fun j x hj => ?_⟩
  obtain ⟨u, h4, h5⟩ := hv.2 j (rnFA ρ x) (by rw [List.getElem?_map, hj]; rfl)
  exact ⟨u, h4, VA_from hρ h5⟩
end
def rho (l n : Nat) : Nat → Nat
  | 0 => l
  | i + 1 => n + i
section
variable {P : Program} {g : Nat} {args : List AV} {h : AH} {K : AV → AH → Prop}
theorem frame1 {l gg k : Nat} {t : TypeId} {cap : Option Nat} {es : List (List CV)} (hl : h[l]? = some (.own gg t k cap es)) (hcl : es.all (fun e => e.all clB) = true)
    (H : ACalls P g args [.own gg t k cap es] fun r h' => ∀ o' ext, h' = o' :: ext → K (rnFA (rho l h.length) r) (h.set l (rnFO (rho l h.length) o') ++ ext.map (rnFO (rho l h.length)))) : FCalls P g (args.map (rnFA (rho l h.length))) h [l] K := by
  refine ⟨H.1, fun φ M w vs R hv => ?_⟩
  have hll := hlt hl
  obtain ⟨p, hp, hpg, hpk⟩ := R.own_p hl
  let φs : Phi := fun i => if i = 0 then φ l else none
  have hs0 : ∀ i q, φs i = some q → i = 0 ∧ q = p := fun i q hq => by
    have hq' : (if i = 0 then φ l else none) = some q := hq
    split at hq'
    · rename_i e; rw [hp] at hq'; exact ⟨e, (Option.some.inj hq').symm⟩
    · cases hq'
  have hps : φs 0 = some p := by show (if 0 = 0 then φ l else none) = _; simpa using hp
  have hone : ∀ (i : Nat) (o : AO), [AO.own gg t k cap es][i]? = some o → i = 0 ∧ o = .own gg t k cap es := fun i o hi => by
    cases i with
    | zero => exact ⟨rfl, (Option.some.inj hi).symm⟩
    | succ i => simp at hi
  have hos : ∀ i q, Own φs [.own gg t k cap es] i q → i = 0 ∧ Own φ h l q := by
    rintro i q ⟨g1, t1, k1, cap1, es1, hi, hq, hvv⟩
    obtain ⟨rfl, e⟩ := hone i _ hi
    obtain ⟨_, rfl⟩ := hs0 _ _ hq
    exact ⟨rfl, _, _, _, _, _, hl, hp, hvv⟩
  have hown : ∀ b, owned φs [.own gg t k cap es] b → owned φ h b := by
    rintro b ⟨i, q, ho, hb⟩
    exact ⟨l, q, (hos i q ho).2, hb⟩
  have Rs : Rep ⟨w, owned φs [.own gg t k cap es], M⟩ φs M [.own gg t k cap es] w := by
    refine ⟨rfl, rfl, ⟨rfl, R.output.2.of rfl hown⟩, Nat.le_refl _, fun _ _ _ => rfl, MLe.refl _, R.imm, fun _ _ q => .inl q, fun i hi => ?_, fun i o hi => ?_, fun i q ho => .inl ⟨i, q, ho, rfl⟩, fun i j q s hi hj hne => ?_, fun a v i q hm ho => R.dis a v l q hm (hos i q ho).2⟩
    · simp at hi
      show (if i = 0 then φ l else none) = none
      rw [if_neg (by omega)]
    · obtain ⟨rfl, rfl⟩ := hone i _ hi
      obtain ⟨p', h1, h2, h3, h4, h5, h6, h7, h8⟩ := R.obj l _ hl
      rw [hp] at h1
      cases h1
      refine ⟨p, hps, h2, h3, h4, h5, h6, h7, fun hvv => ?_⟩
      obtain ⟨h9, C, fr, h10, h11, h12, h13⟩ := h8 hvv
      refine ⟨h9, C, fr, h10, h11, h12, fun i e j x hi hj => ?_⟩
      obtain ⟨v, hv1, hv2⟩ := h13 i e j x hi hj
      exact ⟨v, hv1, clB_V ((List.all_eq_true.1 ((List.all_eq_true.1 hcl) e (List.mem_of_getElem? hi))) x (List.mem_of_getElem? hj)) hv2⟩
    · exact absurd ((hos i q hi).1.trans (hos j s hj).1.symm) hne
  have hvs : VAs φs M args vs := VAs_from (φ' := φ) (ρ := rho l h.length) (fun i q hq => by
    cases i with
    | zero =>
      show (if 0 = 0 then φ l else none) = _
      exact (if_pos rfl).trans hq
    | succ i =>
      have : φ (h.length + i) = some q := hq
      rw [R.dom _ (by omega)] at this
      cases this) hv
  refine (H.2 φs M w vs Rs hvs).mono ?_
  rintro e w' ⟨v, r, h', φ1, M1, rfl, hv1, hk, R1, hle⟩
  obtain ⟨p1, hp1, hpp⟩ := hle 0 p hps
  obtain ⟨o', ext, rfl⟩ : ∃ o' ext, h' = o' :: ext := by
    cases h' with
    | nil => rw [R1.dom 0 (Nat.le_refl _)] at hp1; cases hp1
    | cons o' ext => exact ⟨o', ext, rfl⟩
  let φ2 : Phi := fun i => if i = l then φ1 0 else if i < h.length then φ i else φ1 (i - h.length + 1)
  have a0 : φ2 l = φ1 0 := by show (if l = l then _ else _) = _; rw [if_pos rfl]
  have a1 : ∀ i, i ≠ l → i < h.length → φ2 i = φ i := fun i h1 h2 => by show (if i = l then _ else if i < h.length then _ else _) = _; rw [if_neg h1, if_pos h2]
  have a2 : ∀ j, φ2 (h.length + j) = φ1 (j + 1) := fun j => by show (if h.length + j = l then _ else if h.length + j < h.length then _ else _) = _; rw [if_neg (by omega), if_neg (by omega)]; congr 1; omega
  have hto' : ∀ i, φ2 (rho l h.length i) = φ1 i := fun i => by cases i with | zero => exact a0 | succ i => exact a2 i
  have hto : ∀ i q, φ1 i = some q → φ2 (rho l h.length i) = some q := fun i q hq => (hto' i).trans hq
  have hle2 : Le φ φ2 := fun i q hq => by
    by_cases e : i = l
    · subst e
      rw [hp] at hq
      cases hq
      exact ⟨p1, a0.trans hp1, hpp⟩
    · have : i < h.length := by
        rcases Nat.lt_or_ge i h.length with q1 | q1
        · exact q1
        · rw [R.dom i q1] at hq; cases hq
      exact ⟨q, (a1 i e this).trans hq, .inl rfl⟩
  have hget : ∀ (i : Nat) (o : AO), (h.set l (rnFO (rho l h.length) o') ++ ext.map (rnFO (rho l h.length)))[i]? = some o → (∃ j o2, (o' :: ext)[j]? = some o2 ∧ i = rho l h.length j ∧ o = rnFO (rho l h.length) o2) ∨ (i ≠ l ∧ i < h.length ∧ h[i]? = some o) := fun i o hi => by
    rcases Nat.lt_or_ge i h.length with q | q
    · rw [List.getElem?_append_left (by simpa using q)] at hi
      rcases set_get hi with ⟨rfl, rfl, _⟩ | ⟨hn, hi⟩
      · exact .inl ⟨0, o', rfl, rfl, rfl⟩
      · exact .inr ⟨hn, q, hi⟩
    · rw [List.getElem?_append_right (by simpa using q), List.getElem?_map] at hi
      obtain ⟨o2, h2, rfl⟩ := Option.map_eq_some_iff.1 hi
      rw [List.length_set] at h2
      exact .inl ⟨i - h.length + 1, o2, h2, (by show i = h.length + (i - h.length); omega), rfl⟩
  have hown2 : ∀ i q, Own φ2 (h.set l (rnFO (rho l h.length) o') ++ ext.map (rnFO (rho l h.length))) i q → (∃ j, i = rho l h.length j ∧ Own φ1 (o' :: ext) j q) ∨ (i ≠ l ∧ Own φ h i q) := by
    rintro i q ⟨g1, t1, k1, cap1, es1, hi, hq, hvv⟩
    rcases hget i _ hi with ⟨j, o2, h1, rfl, h3⟩ | ⟨hn, hil, hi⟩
    · cases o2 with
      | own g2 t2 k2 cap2 es2 => exact .inl ⟨j, rfl, _, _, _, _, _, h1, (hto' j).symm.trans hq, hvv⟩
      | _ => cases h3
    · exact .inr ⟨hn, g1, t1, k1, cap1, es1, hi, (a1 i hn hil).symm.trans hq, hvv⟩
  have hfar : ∀ i q j s, i ≠ l → Own φ h i q → Own φ1 (o' :: ext) j s → q.b ≠ s.b := fun i q j s hn ho ho1 e => by
    rcases R1.new j s ho1 with q1 | q1
    · obtain ⟨j', s', hs', hb⟩ := q1
      exact R.inj i l q s' ho (hos j' s' hs').2 hn (e.trans hb.symm)
    · have := R.own_blk ho
      have q1' : w.heap.size ≤ s.b := q1
      omega
  refine ⟨v, _, _, φ2, M1, rfl, VA_to hto hv1, hk o' ext rfl, ⟨R1.os, R1.tape, ⟨R1.output.1, R.output.2⟩, R1.size, fun b hb hn => R1.blk b hb (fun ho => hn (hown b ho)), R1.mon, R1.imm, fun a u q => ?_, fun i hi => ?_, fun i o hi => ?_, fun i q ho => ?_, fun i j q s hi hj hne => ?_, fun a u i q hm ho => ?_⟩, hle2, fun i q ho hs => ?_⟩
  · rcases R1.imn a u q with q | q | q
    · exact .inl q
    · exact .inr (.inl (hown _ q))
    · exact .inr (.inr q)
  · simp at hi
    have := R1.dom (i - h.length + 1) (by simp; omega)
    rw [← this, ← a2 (i - h.length)]
    congr 1; omega
  · rcases hget i o hi with ⟨j, o2, h1, rfl, rfl⟩ | ⟨hn, hil, hi⟩
    · have HO := R1.obj j o2 h1
      cases o2 with
      | dead => trivial
      | ro g2 t2 k2 es2 =>
        obtain ⟨q, b1, b2⟩ := HO
        exact ⟨q, hto j q b1, b2⟩
      | own g2 t2 k2 cap2 es2 =>
        obtain ⟨q, b1, b2, b3, b4, b5, b6, b7, b8⟩ := HO
        refine ⟨q, hto j q b1, b2, b3, by simpa using b4, b5, fun e he => ?_, b7, fun hvv => ?_⟩
        · obtain ⟨e', he', rfl⟩ := List.mem_map.1 he
          simpa using b6 e' he'
        · obtain ⟨b9, C, fr, b10, b11, b12, b13⟩ := b8 hvv
          refine ⟨b9, C, fr, b10, b11, b12, fun i e j x hi hj => ?_⟩
          rw [List.getElem?_map] at hi
          obtain ⟨e', he', rfl⟩ := Option.map_eq_some_iff.1 hi
          rw [List.getElem?_map] at hj
          obtain ⟨x', hx', rfl⟩ := Option.map_eq_some_iff.1 hj
          obtain ⟨u, hu1, hu2⟩ := b13 i e' j x' he' hx'
          exact ⟨u, hu1, V_to hto hu2⟩
    · refine (R.obj i o hi).move hle2 R1.mon (a1 i hn hil) (fun q hq hvv ho => ?_)
      cases o with
      | own g2 t2 k2 cap2 es2 =>
        have ho' : Own φ h i q := ⟨_, _, _, _, _, hi, hq, hvv⟩
        refine R1.blk q.b (R.own_blk ho') (fun hb => ?_)
        obtain ⟨j', s', hs', hb'⟩ := hb
        exact R.inj i l q s' ho' (hos j' s' hs').2 hn hb'.symm
      | _ => cases ho
  · rcases hown2 i q ho with ⟨j, rfl, ho1⟩ | ⟨_, ho1⟩
    · rcases R1.new j q ho1 with q1 | q1
      · exact .inl (hown _ q1)
      · exact .inr q1
    · exact .inl ⟨i, q, ho1, rfl⟩
  · rcases hown2 i q hi with ⟨i', rfl, hi1⟩ | ⟨hn, hi1⟩ <;> rcases hown2 j s hj with ⟨j', rfl, hj1⟩ | ⟨hn', hj1⟩
    · exact R1.inj i' j' q s hi1 hj1 (fun e => hne (by rw [e]))
    · exact (hfar j s i' q hn' hj1 hi1).symm
    · exact hfar i q j' s hn hi1 hj1
    · exact R.inj i j q s hi1 hj1 hne
  · rcases hown2 i q ho with ⟨i', rfl, ho1⟩ | ⟨hn, ho1⟩
    · exact R1.dis a u i' q hm ho1
    · rcases R1.imn a u hm with q1 | q1 | q1
      · exact R.dis a u i q q1 ho1
      · obtain ⟨j', s', hs', hb'⟩ := q1
        exact fun e => R.inj i l q s' ho1 (hos j' s' hs').2 hn (e.symm.trans hb'.symm)
      · have := R.own_blk ho1
        have q1' : w.heap.size ≤ a.block := q1
        omega
  · have hn : i ≠ l := fun e => by subst e; simp at hs
    refine ⟨R1.blk q.b (R.own_blk ho) (fun hb => ?_), ?_⟩
    · obtain ⟨j', s', hs', hb'⟩ := hb
      exact R.inj i l q s' ho (hos j' s' hs').2 hn hb'.symm
    · obtain ⟨g1, t1, k1, cap1, es1, hi, hq, hvv⟩ := ho
      have hil := hlt hi
      refine ⟨g1, t1, k1, cap1, es1, ?_, (a1 i hn hil).trans hq, hvv⟩
      rw [List.getElem?_append_left (by simpa using hil), List.getElem?_set_ne (Ne.symm hn)]
      exact hi
end
/-! ### Objects handed on over a base of m objects -/
def rhV (m : Nat) (ls : List Nat) (h : AH) : CV → CV
  | .sl l g off len => if l < m then .sl l g off len else match ls.idxOf? l with
    | some i => if (objA h l g).isSome = true then .sl (m + i) 0 off len else .junk
    | none => imV h (.sl l g off len)
  | .pt l g i off => if l < m then .pt l g i off else match ls.idxOf? l with
    | some j => if (objA h l g).isSome = true then .pt (m + j) 0 i off else .junk
    | none => .junk
  | x => imV h x
def rhA (m : Nat) (ls : List Nat) (h : AH) : AV → AV
  | .one (.c v) => .one (.c v)
  | .one x => .one (rhV m ls h x)
  | .agg xs => .agg (xs.map (rhV m ls h))
  | _ => .any
def rhT (m : Nat) (ls : List Nat) (h : AH) : AV → AV
  | .tup xs => .tup (xs.map (rhA m ls h))
  | x => rhA m ls h x
def rhO (m : Nat) (ls : List Nat) (h : AH) : Option AO → AO
  | some (.own g t k cap es) => .own 0 t k cap (es.map (·.map (rhV m ls h)))
  | _ => .dead
section
variable {h : AH}
theorem Fin.handed {m : Nat} {r : AV} {K : AV → AH → Prop} (ls : List Nat) (hm : m ≤ h.length) (hnd : ls.Nodup) (hge : ∀ l, l ∈ ls → m ≤ l) (hwf : (h.take m).all (ltO m) = true) (hk : K (rhT m ls h r) (h.take m ++ ls.map fun l => rhO m ls h h[l]?)) : Fin m r h K := by
  refine ⟨_, _, hk, fun G φ M w u R hv => ?_⟩
  let L := (List.range h.length).filter fun l => decide (m ≤ l) && !(decide (l ∈ ls))
  obtain ⟨M', RF, hM, hc0⟩ := R.freeze L
  have hL : ∀ l, l ∈ L ↔ l < h.length ∧ m ≤ l ∧ l ∉ ls := fun l => by simp [L]
  have hc : ∀ l, m ≤ l → l ∉ ls → ∀ p, Own φ h l p → ∀ (o : Nat) v, w.cell? ⟨p.b, o, none⟩ = some v → M' ⟨p.b, o, none⟩ v := fun l h1 h2 p ho =>
    hc0 l ((hL l).2 ⟨own_lt' ho, h1, h2⟩) p ho
  have hlen : (h.take m).length = m := by rw [List.length_take]; omega
  let φ' : Phi := fun i => if i < m then φ i else ((ls[i - m]?).bind φ).map fun p => { p with g := 0 }
  have b0 : ∀ i, i < m → φ' i = φ i := fun i hi => by show (if i < m then _ else _) = _; rw [if_pos hi]
  have b1 : ∀ i, φ' (m + i) = ((ls[i]?).bind φ).map fun p => ({ p with g := 0 } : Pl) := fun i => by show (if m + i < m then _ else _) = _; rw [if_neg (by omega), show m + i - m = i by omega]
  have hsub : Le (fun l => if l < m then φ l else none) φ' := fun l p hl => by
    have hl' : (if l < m then φ l else none) = some p := hl
    split at hl'
    · rename_i e; exact ⟨p, (b0 l e).trans hl', .inl rfl⟩
    · cases hl'
  have low : ∀ x u, ltV m x = true → V φ M x u → V φ' M' x u := fun x u hx hv => (ltV_V hx hv).mono hsub hM
  have im : ∀ x u, (∀ l g off len, x = .sl l g off len → m ≤ l ∧ l ∉ ls) → V φ M x u → V φ' M' (imV h x) u := fun x u hx hv => by
    refine V0_V (imV_V0 R hM (fun l hl => ?_) hv)
    cases x with
    | sl l' g off len =>
      simp only [locV, List.mem_singleton] at hl
      subst hl
      exact hc l (hx l g off len rfl).1 (hx l g off len rfl).2
    | _ => cases hl
  have place : ∀ (l g i : Nat), ls.idxOf? l = some i → (objA h l g).isSome = true → ∃ p', φ l = some p' ∧ p'.g = g ∧ φ' (m + i) = some { p' with g := 0 } := fun l g i hi ho => by
    obtain ⟨q, hq⟩ := Option.isSome_iff_exists.1 ho
    obtain ⟨p', q1, q2, _⟩ := R.own_p (objA_spec hq)
    exact ⟨p', q1, q2, by rw [b1, idx_of hi, Option.bind_some, q1]; rfl⟩
  have rn : ∀ x u, V φ M x u → V φ' M' (rhV m ls h x) u := fun x u hv => by
    cases x with
    | sl l g off len =>
      simp only [rhV]
      split
      · rename_i hl; exact low _ u (by simpa [ltV] using hl) hv
      · rename_i hl
        split
        · rename_i i hi
          split
          · rename_i ho
            obtain ⟨p', q1, q2, q3⟩ := place l g i hi ho
            obtain ⟨h1, p, h2, h3, h4⟩ := hv
            rw [q1] at h2
            cases h2
            exact ⟨h1, _, q3, Nat.le_refl _, fun _ => h4 q2⟩
          · exact V0.junk u hv.1
        · rename_i hl2
          refine im _ u (fun l' g' off' len' e => ?_) hv
          cases e
          exact ⟨by omega, fun hm => by rw [List.idxOf?_eq_none_iff] at hl2; exact hl2 hm⟩
    | pt l g i off =>
      simp only [rhV]
      split
      · rename_i hl; exact low _ u (by simpa [ltV] using hl) hv
      · split
        · rename_i j hj
          split
          · rename_i ho
            obtain ⟨p', q1, q2, q3⟩ := place l g j hj ho
            obtain ⟨h1, p, h2, h3, h4⟩ := hv
            rw [q1] at h2
            cases h2
            exact ⟨h1, _, q3, Nat.le_refl _, fun _ => h4 q2⟩
          · exact V0.junk u hv.1
        · exact V0.junk u hv.1
    | _ => exact im _ u (fun l' g' off' len' e => by cases e) hv
  have rna : ∀ x u, VA φ M x u → VA1 φ' M' (rhA m ls h x) u := fun x u hv => by
    cases x with
    | one x =>
      cases x with
      | c v => exact hv
      | pt l g i off =>
        have hh := rn (.pt l g i off) u hv
        show VA1 φ' M' (.one (rhV m ls h (.pt l g i off))) u
        exact nt_VA1 (v := .one _) rfl (V_VA hh)
      | _ => exact nt_VA1 (v := .one _) rfl (V_VA (rn _ u (by simpa only [VA, VA1] using hv)))
    | agg xs =>
      obtain ⟨us, h1, h2, h3⟩ := hv
      refine ⟨us, h1, by simpa using h2, fun j x hj => ?_⟩
      rw [List.getElem?_map] at hj
      obtain ⟨x', hx', rfl⟩ := Option.map_eq_some_iff.1 hj
      obtain ⟨u, h4, h5⟩ := h3 j x' hx'
      exact ⟨u, h4, rn _ u h5⟩
    | tup xs => trivial
    | any => trivial
  have hgets : ∀ (i : Nat) (o : AO), (h.take m ++ ls.map fun l => rhO m ls h h[l]?)[i]? = some o → (i < m ∧ h[i]? = some o) ∨ ∃ j l, i = m + j ∧ ls[j]? = some l ∧ o = rhO m ls h h[l]? := fun i o hi => by
    rcases Nat.lt_or_ge i m with q | q
    · rw [List.getElem?_append_left (by omega), List.getElem?_take_of_lt q] at hi
      exact .inl ⟨q, hi⟩
    · rw [List.getElem?_append_right (by omega), hlen, List.getElem?_map] at hi
      obtain ⟨l, hl, rfl⟩ := Option.map_eq_some_iff.1 hi
      exact .inr ⟨i - m, l, by omega, hl, rfl⟩
  have hown : ∀ i p, Own φ' (h.take m ++ ls.map fun l => rhO m ls h h[l]?) i p → (i < m ∧ Own φ (frH L h) i p) ∨ ∃ j l p0, i = m + j ∧ ls[j]? = some l ∧ Own φ (frH L h) l p0 ∧ p0.b = p.b := by
    rintro i p ⟨g, t, k, cap, es, hi, hp, hvv⟩
    rcases hgets i _ hi with ⟨him, hi⟩ | ⟨j, l, rfl, hl, ho⟩
    · exact .inl ⟨him, g, t, k, cap, es, by rw [frH_get _ _ (fun q => by have := ((hL i).1 q).2.1; omega)]; exact hi, (b0 i him).symm.trans hp, hvv⟩
    · rw [b1, hl, Option.bind_some] at hp
      obtain ⟨p0, hp0, rfl⟩ := Option.map_eq_some_iff.1 hp
      cases hhl : h[l]? with
      | none => rw [hhl] at ho; cases ho
      | some o0 =>
        rw [hhl] at ho
        cases o0 with
        | own g0 t0 k0 cap0 es0 =>
          refine .inr ⟨j, l, p0, rfl, hl, ⟨g0, t0, k0, cap0, es0, ?_, hp0, hvv⟩, rfl⟩
          rw [frH_get _ _ (fun q => ((hL l).1 q).2.2 (List.mem_of_getElem? hl))]
          exact hhl
        | _ => cases ho
  refine ⟨φ', M', ⟨RF.os, RF.tape, RF.output, RF.size, RF.blk, RF.mon, RF.imm, RF.imn, fun i hi => ?_, ?_, fun i p ho => ?_, fun i j p q hi hj hne => ?_, fun a v i p hmm ho => ?_⟩, ?_, fun l p hl hp => ⟨p, (b0 l hl).trans hp, .inl rfl⟩⟩
  · rw [List.length_append, hlen, List.length_map] at hi
    show (if i < m then _ else _) = none
    rw [if_neg (by omega), List.getElem?_eq_none (by omega)]
    rfl
  · intro i o hi
    rcases hgets i o hi with ⟨him, hi⟩ | ⟨j, l, rfl, hl, rfl⟩
    · have hw := (List.all_eq_true.1 hwf) o (by
        refine List.mem_of_getElem? (i := i) ?_
        rw [List.getElem?_take_of_lt him]; exact hi)
      have HO := R.obj i o hi
      cases o with
      | dead => trivial
      | ro g t k es =>
        obtain ⟨p, h1, h2, h3, h4, h5, h6, h7⟩ := HO
        refine ⟨p, (b0 i him).trans h1, h2, h3, h4, h5, h6, fun hvv => ?_⟩
        obtain ⟨h8, C, h9⟩ := h7 hvv
        exact ⟨h8, C, fun i e j x hi hj => ⟨hM _ _ (h9 i e j x hi hj).1, (h9 i e j x hi hj).2.mono hM⟩⟩
      | own g t k cap es =>
        obtain ⟨p, h1, h2, h3, h4, h5, h6, h7, h8⟩ := HO
        refine ⟨p, (b0 i him).trans h1, h2, h3, h4, h5, h6, h7, fun hvv => ?_⟩
        obtain ⟨h9, C, fr, h10, h11, h12, h13⟩ := h8 hvv
        refine ⟨h9, C, fr, h10, h11, h12, fun i e j x hi hj => ?_⟩
        obtain ⟨v, hv1, hv2⟩ := h13 i e j x hi hj
        exact ⟨v, hv1, low _ v ((List.all_eq_true.1 ((List.all_eq_true.1 hw) e (List.mem_of_getElem? hi))) x (List.mem_of_getElem? hj)) hv2⟩
    · cases hhl : h[l]? with
      | none => trivial
      | some o0 =>
        cases o0 with
        | own g0 t0 k0 cap0 es0 =>
          obtain ⟨p, h1, h2, h3, h4, h5, h6, h7, h8⟩ := R.obj l _ hhl
          refine ⟨{ p with g := 0 }, ?_, rfl, h3, by simpa using h4, h5, fun e he => ?_, h7, fun hvv => ?_⟩
          · rw [b1, hl, Option.bind_some, h1]; rfl
          · obtain ⟨e', he', rfl⟩ := List.mem_map.1 he
            simpa using h6 e' he'
          · obtain ⟨h9, C, fr, h10, h11, h12, h13⟩ := h8 hvv
            refine ⟨h9, C, fr, h10, h11, h12, fun i e j x hi hj => ?_⟩
            rw [List.getElem?_map] at hi
            obtain ⟨e', he', rfl⟩ := Option.map_eq_some_iff.1 hi
            rw [List.getElem?_map] at hj
            obtain ⟨x', hx', rfl⟩ := Option.map_eq_some_iff.1 hj
            obtain ⟨v, hv1, hv2⟩ := h13 i e' j x' he' hx'
            exact ⟨v, hv1, rn _ v hv2⟩
        | _ => trivial
  · rcases hown i p ho with ⟨_, ho'⟩ | ⟨j, l, p0, _, _, ho', hb⟩
    · exact RF.new i p ho'
    · rw [← hb]
      exact RF.new l p0 ho'
  · rcases hown i p hi with ⟨him, hi'⟩ | ⟨a, l, p0, rfl, hl, hi', hb⟩ <;> rcases hown j q hj with ⟨hjm, hj'⟩ | ⟨a', l', p0', rfl, hl', hj', hb'⟩
    · exact RF.inj i j p q hi' hj' hne
    · rw [← hb']
      exact RF.inj i l' p p0' hi' hj' (by have := hge l' (List.mem_of_getElem? hl'); omega)
    · rw [← hb]
      exact RF.inj l j p0 q hi' hj' (by have := hge l (List.mem_of_getElem? hl); omega)
    · rw [← hb, ← hb']
      refine RF.inj l l' p0 p0' hi' hj' (fun e => hne ?_)
      subst e
      obtain ⟨hi1, e1⟩ := List.getElem?_eq_some_iff.1 hl
      obtain ⟨hj1, e2⟩ := List.getElem?_eq_some_iff.1 hl'
      rw [(List.getElem_inj hnd).1 (e1.trans e2.symm)]
  · rcases hown i p ho with ⟨_, ho'⟩ | ⟨j, l, p0, _, _, ho', hb⟩
    · exact RF.dis a v i p hmm ho'
    · rw [← hb]
      exact RF.dis a v l p0 hmm ho'
  · cases r with
    | tup xs =>
      obtain ⟨us, h1, h2, h3⟩ := hv
      refine ⟨us, h1, by simpa using h2, fun j x hj => ?_⟩
      rw [List.getElem?_map] at hj
      obtain ⟨x', hx', rfl⟩ := Option.map_eq_some_iff.1 hj
      obtain ⟨u, h4, h5⟩ := h3 j x' hx'
      exact ⟨u, h4, rna x' u (VA1_VA h5)⟩
    | one x => exact VA1_VA (rna _ u hv)
    | agg xs => exact VA1_VA (rna _ u hv)
    | any => trivial
end
def retH (P : Program) (m : Nat) (ls : List Nat) (rs : List ResultVar) (K : AV → AH → Prop) (f : AF) (h : AH) : Prop := On (rsG P f h rs) fun vs => vs.all notTup = true ∧ m ≤ h.length ∧ ls.Nodup ∧ (∀ l, l ∈ ls → m ≤ l) ∧ (h.take m).all (ltO m) = true ∧ K (rhT m ls h (oneOrTup vs)) (h.take m ++ ls.map fun l => rhO m ls h h[l]?)
theorem acall_h {P : Program} {h : AH} {g : Nat} {fn : Func} {c : Code} {args : List AV} {K : AV → AH → Prop} (rs : List ResultVar) (hmo : P.follows .mixedOrders = true) (hf : P.funcs[g]? = some fn) (hrs : fn.results.toList = rs) (hbody : fn.body = some c) (hB : (codeB fn.ntmps c && fnB fn && hasBody P g && decide (args.length ≤ fn.ntmps)) = true)
    (H : ∀ Q : AExit → AF → AH → Prop, (∀ ls f h', GC h.length (retH P h.length ls rs K) f h' → Q .ret f h') → (∀ ls f h', GC h.length (retH P h.length ls rs K) f h' → Q .normal f h') → goG P c [] ⟨h.length, Q⟩ (frame0 args) h) : ACalls P g args h K := by
  refine acall_gen rs hmo hf hrs hbody hB (fun Q hm hQ => ?_)
  obtain ⟨m, q⟩ := Q
  simp only at hm hQ
  subst hm
  have fin : ∀ ls f h', retH P h.length ls rs K f h' → ARet P rs h.length K f h' := fun ls f h' hr => by
    unfold retH at hr
    obtain ⟨vs, hvs, hnt, h1, h2, h3, h4, hk⟩ := hr.elim
    unfold ARet
    rw [hvs]
    exact ⟨hnt, Fin.handed ls h1 h2 h3 h4 hk⟩
  exact H q (fun ls f h' hr => (hQ f h' (hr.mono (fun f h' hr => fin ls f h' hr))).1) (fun ls f h' hr => (hQ f h' (hr.mono (fun f h' hr => fin ls f h' hr))).2)
end Go.BL
namespace Go.BL
open Go.RowKit
section
variable {h : AH} {f : AF} {P : Program} {m : Nat}
def rhG (m : Nat) (ls : List Nat) (h : AH) (vs : Option (List AV)) (K : AV → AH → Prop) : Prop := On vs fun vs => vs.all notTup = true ∧ m ≤ h.length ∧ ls.Nodup ∧ (∀ l, l ∈ ls → m ≤ l) ∧ (h.take m).all (ltO m) = true ∧ K (rhT m ls h (oneOrTup vs)) (h.take m ++ ls.map fun l => rhO m ls h h[l]?)
theorem hd_ret (ls : List Nat) (rs : List ResultVar) (K : AV → AH → Prop) : retH P m ls rs K f h = rhG m ls h (rsG P f h rs) K := _root_.id rfl
theorem hd_some (ls : List Nat) (vs : List AV) (K : AV → AH → Prop) : rhG m ls h (some vs) K = (vs.all notTup = true ∧ m ≤ h.length ∧ ls.Nodup ∧ (∀ l, l ∈ ls → m ≤ l) ∧ (h.take m).all (ltO m) = true ∧ K (rhT m ls h (oneOrTup vs)) (h.take m ++ ls.map fun l => rhO m ls h h[l]?)) := _root_.id rfl
theorem hd_tup (ls : List Nat) (xs : List AV) : rhT m ls h (.tup xs) = .tup (xs.map (rhA m ls h)) := _root_.id rfl
theorem hd_1 (ls : List Nat) (x : CV) : rhT m ls h (.one x) = rhA m ls h (.one x) := _root_.id rfl
theorem hd_ac (ls : List Nat) (v : Value) : rhA m ls h (.one (.c v)) = .one (.c v) := _root_.id rfl
end
end Go.BL
/-! ### A heap of chosen objects -/
namespace Go.BL
open Go.RowKit
def rkL (m : Nat) (ls : List Nat) (l : Nat) : Option Nat := if l < m then some l else (ls.idxOf? l).map (m + ·)
def rkV (m : Nat) (ls : List Nat) : CV → CV
  | .sl l g off len => match rkL m ls l with | some i => .sl i g off len | none => .junk
  | .pt l g i off => match rkL m ls l with | some j => .pt j g i off | none => .junk
  | .clo g caps => match caps.mapM (rkL m ls) with | some cs => .clo g cs | none => .junk
  | x => x
def rkA (m : Nat) (ls : List Nat) : AV → AV
  | .one (.c v) => .one (.c v)
  | .one x => .one (rkV m ls x)
  | .agg xs => .agg (xs.map (rkV m ls))
  | x => x
def rkT (m : Nat) (ls : List Nat) : AV → AV
  | .tup xs => .tup (xs.map (rkA m ls))
  | x => rkA m ls x
def rkO (m : Nat) (ls : List Nat) : Option AO → AO
  | some (.own g t k cap es) => .own g t k cap (es.map (·.map (rkV m ls)))
  | some (.ro g t k es) => .ro g t k es
  | _ => .dead
theorem mapM_len {α β : Type} (f : α → Option β) : ∀ (xs : List α) (ys : List β), xs.mapM f = some ys → ys.length = xs.length ∧ ∀ (j : Nat) (y : β), ys[j]? = some y → ∃ x : α, xs[j]? = some x ∧ f x = some y
  | [], ys, h => by
    simp at h; subst h
    exact ⟨rfl, fun j y hj => by simp at hj⟩
  | x :: r, ys, h => by
    simp only [List.mapM_cons, Option.bind_eq_bind, Option.bind_eq_some_iff, Option.pure_def, Option.some.injEq] at h
    obtain ⟨b, hb, bs, hbs, rfl⟩ := h
    obtain ⟨h1, h2⟩ := mapM_len f r bs hbs
    refine ⟨by simp [h1], fun j y hj => ?_⟩
    cases j with
    | zero => simp at hj; subst hj; exact ⟨x, rfl, hb⟩
    | succ j => simpa using h2 j y (by simpa using hj)
theorem Ghost.keep {m : Nat} {f : AF} {h : AH} (ls : List Nat) (hm : m ≤ h.length) (hnd : ls.Nodup) (hge : ∀ l, l ∈ ls → m ≤ l) : Ghost m f h (fun r => rkT m ls (f r)) (((h.take m).map fun o => rkO m ls (some o)) ++ ls.map fun l => rkO m ls h[l]?) := fun G φ M w R => by
  have hlen : ((h.take m).map fun o => rkO m ls (some o)).length = m := by rw [List.length_map, List.length_take]; omega
  let φ' : Phi := fun i => if i < m then φ i else (ls[i - m]?).bind φ
  have b0 : ∀ i, i < m → φ' i = φ i := fun i hi => by show (if i < m then _ else _) = _; rw [if_pos hi]
  have b1 : ∀ i, φ' (m + i) = (ls[i]?).bind φ := fun i => by show (if m + i < m then _ else _) = _; rw [if_neg (by omega), show m + i - m = i by omega]
  have hL : ∀ l i, rkL m ls l = some i → φ' i = φ l := fun l i hi => by
    rw [rkL] at hi
    split at hi
    · rename_i q; cases hi; exact b0 l q
    · obtain ⟨j, hj, rfl⟩ := Option.map_eq_some_iff.1 hi
      rw [b1, idx_of hj]; rfl
  have rn : ∀ x u, V φ M x u → V φ' M (rkV m ls x) u := fun x u hv => by
    cases x with
    | sl l g off len =>
      simp only [rkV]
      cases hi : rkL m ls l with
      | some i => obtain ⟨h1, p, h2, h3⟩ := hv; exact ⟨h1, p, (hL l i hi).trans h2, h3⟩
      | none => exact V0.junk u hv.1
    | pt l g i off =>
      simp only [rkV]
      cases hi : rkL m ls l with
      | some j => obtain ⟨h1, p, h2, h3⟩ := hv; exact ⟨h1, p, (hL l j hi).trans h2, h3⟩
      | none => exact V0.junk u hv.1
    | clo g caps =>
      simp only [rkV]
      cases hc : caps.mapM (rkL m ls) with
      | none => obtain ⟨vs, rfl, _⟩ := hv; exact V0.junk _ rfl
      | some cs =>
        obtain ⟨vs, h1, h2, h3⟩ := hv
        obtain ⟨a1, a2⟩ := mapM_len _ _ _ hc
        refine ⟨vs, h1, h2.trans a1.symm, fun j l hj => ?_⟩
        obtain ⟨l', q1, q2⟩ := a2 j l hj
        obtain ⟨v, h4, h5, p, h6, h7⟩ := h3 j l' q1
        exact ⟨v, h4, h5, p, (hL l' l q2).trans h6, h7⟩
    | _ => exact hv
  have rna : ∀ x u, VA1 φ M x u → VA1 φ' M (rkA m ls x) u := fun x u hv => by
    cases x with
    | one x =>
      rcases VA_V (show VA φ M (.one x) u from hv) with q | ⟨v, rfl, rfl⟩
      · have q2 := rn x u q
        cases x with
        | c v => cases q; rfl
        | sl l g off len => exact nt_VA1 (v := .one _) rfl (V_VA q2)
        | pt l g i off => exact nt_VA1 (v := .one _) rfl (V_VA q2)
        | clo g caps => exact nt_VA1 (v := .one _) rfl (V_VA q2)
        | _ => exact nt_VA1 (v := .one _) rfl (V_VA q2)
      · rfl
    | agg xs =>
      obtain ⟨us, h1, h2, h3⟩ := hv
      refine ⟨us, h1, by simpa using h2, fun j x hj => ?_⟩
      rw [List.getElem?_map] at hj
      obtain ⟨x', hx', rfl⟩ := Option.map_eq_some_iff.1 hj
      obtain ⟨u, h4, h5⟩ := h3 j x' hx'
      exact ⟨u, h4, rn _ u h5⟩
    | tup xs => exact hv
    | any => trivial
  have hgets : ∀ (i : Nat) (o : AO), (((h.take m).map fun o => rkO m ls (some o)) ++ ls.map fun l => rkO m ls h[l]?)[i]? = some o → ∃ l, φ' i = φ l ∧ o = rkO m ls h[l]? ∧ ((i < m ∧ l = i) ∨ ∃ j, i = m + j ∧ ls[j]? = some l) := fun i o hi => by
    rcases Nat.lt_or_ge i m with q | q
    · rw [List.getElem?_append_left (by omega), List.getElem?_map, List.getElem?_take_of_lt q] at hi
      obtain ⟨o', h1, rfl⟩ := Option.map_eq_some_iff.1 hi
      exact ⟨i, b0 i q, by rw [h1], .inl ⟨q, rfl⟩⟩
    · rw [List.getElem?_append_right (by omega), hlen, List.getElem?_map] at hi
      obtain ⟨l, hl, rfl⟩ := Option.map_eq_some_iff.1 hi
      refine ⟨l, ?_, rfl, .inr ⟨i - m, by omega, hl⟩⟩
      have := b1 (i - m)
      rw [show m + (i - m) = i by omega, hl] at this
      exact this
  have hown : ∀ i p, Own φ' (((h.take m).map fun o => rkO m ls (some o)) ++ ls.map fun l => rkO m ls h[l]?) i p → ∃ l, Own φ h l p ∧ ((i < m ∧ l = i) ∨ ∃ j, i = m + j ∧ ls[j]? = some l) := by
    rintro i p ⟨g, t, k, cap, es, hi, hp, hvv⟩
    obtain ⟨l, h1, h2, h3⟩ := hgets i _ hi
    cases hhl : h[l]? with
    | none => rw [hhl] at h2; cases h2
    | some o0 =>
      rw [hhl] at h2
      cases o0 with
      | own g0 t0 k0 cap0 es0 => exact ⟨l, ⟨g0, t0, k0, cap0, es0, hhl, h1 ▸ hp, hvv⟩, h3⟩
      | _ => cases h2
  refine ⟨φ', M, ⟨R.os, R.tape, R.output, R.size, R.blk, R.mon, R.imm, R.imn, fun i hi => ?_, ?_, fun i p ho => ?_, fun i j p q hi hj hne => ?_, fun a v i p hmm ho => ?_⟩, MLe.refl _, fun l p hl hp => ⟨p, (b0 l hl).trans hp, .inl rfl⟩, fun r u hv => ?_⟩
  · rw [List.length_append, hlen, List.length_map] at hi
    show (if i < m then _ else _) = none
    rw [if_neg (by omega), List.getElem?_eq_none (by omega)]
    rfl
  · intro i o hi
    obtain ⟨l, h1, rfl, _⟩ := hgets i o hi
    cases hhl : h[l]? with
    | none => trivial
    | some o0 =>
      have HO := R.obj l o0 hhl
      cases o0 with
      | dead => trivial
      | ro g t k es =>
        obtain ⟨p, a1, a2⟩ := HO
        exact ⟨p, h1.trans a1, a2⟩
      | own g t k cap es =>
        obtain ⟨p, a1, a2, a3, a4, a5, a6, a7, a8⟩ := HO
        refine ⟨p, h1.trans a1, a2, a3, by simpa using a4, a5, fun e he => ?_, a7, fun hvv => ?_⟩
        · obtain ⟨e', he', rfl⟩ := List.mem_map.1 he
          simpa using a6 e' he'
        · obtain ⟨h9, C, fr, h10, h11, h12, h13⟩ := a8 hvv
          refine ⟨h9, C, fr, h10, h11, h12, fun i e j x hi hj => ?_⟩
          rw [List.getElem?_map] at hi
          obtain ⟨e', he', rfl⟩ := Option.map_eq_some_iff.1 hi
          rw [List.getElem?_map] at hj
          obtain ⟨x', hx', rfl⟩ := Option.map_eq_some_iff.1 hj
          obtain ⟨v, hv1, hv2⟩ := h13 i e' j x' he' hx'
          exact ⟨v, hv1, rn _ v hv2⟩
  · obtain ⟨l, ho', _⟩ := hown i p ho
    exact R.new l p ho'
  · obtain ⟨l, ho, hl⟩ := hown i p hi
    obtain ⟨l', ho', hl'⟩ := hown j q hj
    refine R.inj l l' p q ho ho' (fun e => hne ?_)
    subst e
    rcases hl with ⟨a1, rfl⟩ | ⟨a, rfl, ha⟩ <;> rcases hl' with ⟨b1', b2⟩ | ⟨b, rfl, hb⟩
    · exact b2
    · have := hge _ (List.mem_of_getElem? hb); omega
    · have := hge _ (List.mem_of_getElem? ha); omega
    · obtain ⟨hi1, e1⟩ := List.getElem?_eq_some_iff.1 ha
      obtain ⟨hj1, e2⟩ := List.getElem?_eq_some_iff.1 hb
      rw [(List.getElem_inj hnd).1 (e1.trans e2.symm)]
  · obtain ⟨l, ho', _⟩ := hown i p ho
    exact R.dis a v l p hmm ho'
  · have hv' : VA φ M (f r) u := hv
    show VA φ' M (rkT m ls (f r)) u
    cases hx : f r with
    | tup xs =>
      rw [hx] at hv'
      obtain ⟨us, h1, h2, h3⟩ := hv'
      refine ⟨us, h1, by simpa using h2, fun j x hj => ?_⟩
      rw [List.getElem?_map] at hj
      obtain ⟨x', hx', rfl⟩ := Option.map_eq_some_iff.1 hj
      obtain ⟨u, h4, h5⟩ := h3 j x' hx'
      exact ⟨u, h4, rna x' u h5⟩
    | one x => rw [hx] at hv'; exact VA1_VA (rna (.one x) u hv')
    | agg xs => rw [hx] at hv'; exact VA1_VA (rna (.agg xs) u hv')
    | any => trivial
theorem Ghost.gc {m : Nat} {f : AF} {h : AH} (ls : List Nat) (hm : m ≤ h.length) (hc : (ls.all (fun l => decide (m ≤ l)) && decide ls.Nodup) = true) : Ghost m f h (fun r => rkT m ls (f r)) (((h.take m).map fun o => rkO m ls (some o)) ++ ls.map fun l => rkO m ls h[l]?) := by
  rw [Bool.and_eq_true] at hc
  exact Ghost.keep ls hm (of_decide_eq_true hc.2) (fun l hl => of_decide_eq_true ((List.all_eq_true.1 hc.1) l hl))
section
variable {h : AH} {f : AF} {m : Nat}
theorem hd_krl_hi (ls : List Nat) (l : Nat) (hl : m ≤ l) : rkL m ls l = (ls.idxOf? l).map (m + ·) := by rw [rkL, if_neg (by omega)]
def rkS (i : Option Nat) (g off len : Nat) : CV := match i with | some i => .sl i g off len | none => .junk
theorem hd_kvsl (ls : List Nat) (l g off len : Nat) : rkV m ls (.sl l g off len) = rkS (rkL m ls l) g off len := _root_.id rfl
theorem hd_kS1 (i g off len : Nat) : rkS (some i) g off len = .sl i g off len := _root_.id rfl
theorem hd_kAc (ls : List Nat) (v : Value) : rkA m ls (.one (.c v)) = .one (.c v) := _root_.id rfl
theorem hd_kAsl (ls : List Nat) (l g off len : Nat) : rkA m ls (.one (.sl l g off len)) = .one (rkV m ls (.sl l g off len)) := _root_.id rfl
theorem hd_kT1 (ls : List Nat) (x : CV) : rkT m ls (.one x) = rkA m ls (.one x) := _root_.id rfl
theorem kOown (ls : List Nat) (g : Nat) (t : TypeId) (k : Nat) (cap : Option Nat) (es : List (List CV)) : rkO m ls (some (.own g t k cap es)) = .own g t k cap (es.map (·.map (rkV m ls))) := _root_.id rfl
theorem hd_kOclo (ls : List Nat) (g : Nat) (t : TypeId) (k : Nat) (cap : Option Nat) (es : List (List CV)) (hc : clE es = true) : rkO m ls (some (.own g t k cap es)) = .own g t k cap es := by
  have h1 : ∀ x : CV, clB x = true → rkV m ls x = x := fun x hx => by
    cases x with
    | pt _ _ _ _ => cases hx
    | sl _ _ _ _ => cases hx
    | clo g caps => cases caps with | nil => rfl | cons _ _ => cases hx
    | _ => rfl
  have h2 : es.map (·.map (rkV m ls)) = es := by
    conv => rhs; rw [← List.map_id es]
    refine List.map_congr_left fun e hm => ?_
    have := (List.all_eq_true.1 hc) e hm
    show e.map (rkV m ls) = e
    conv => rhs; rw [← List.map_id e]
    exact List.map_congr_left fun x hx => h1 x ((List.all_eq_true.1 this) x hx)
  rw [kOown, h2]
end
end Go.BL
/-! ### The frame rule over several objects -/
namespace Go.BL
open Go.RowKit
section
variable {P : Program} {g : Nat} {args : List AV} {h : AH} {K : AV → AH → Prop}
end
end Go.BL
namespace Go.BL
open Go.RowKit
def clm : CV → CV
  | .nl => .im []
  | .emp => .im []
  | x => clz x
theorem clm_V0 {φ : Phi} {M : Im} {x : CV} {u : Value} (h : V φ M x u) : V0 M (clm x) u := by
  cases x with
  | nl => cases (show V0 M .nl u from h); exact .im0 none 0
  | emp => cases (show V0 M .emp u from h) with | emp a => exact .im0 a 0
  | _ => exact clz_V0 h
theorem Ghost.clz {m : Nat} {f : AF} {h : AH} {l g k : Nat} {t : TypeId} {cap : Option Nat} {es : List (List CV)} (hl : h[l]? = some (.own g t k cap es)) : Ghost m f h f (h.set l (.own g t k cap (es.map (·.map clm)))) := fun G φ M w R => by
  have hown : ∀ i p, Own φ (h.set l (.own g t k cap (es.map (·.map clm)))) i p → Own φ h i p := by
    rintro i p ⟨g1, t1, k1, cap1, es1, hi, hp, hv⟩
    rcases set_get hi with ⟨rfl, _, _⟩ | ⟨_, hi⟩
    · exact ⟨g, t, k, cap, es, hl, hp, hv⟩
    · exact ⟨g1, t1, k1, cap1, es1, hi, hp, hv⟩
  refine ⟨φ, M, ⟨R.os, R.tape, R.output, R.size, R.blk, R.mon, R.imm, R.imn, fun i hi => R.dom i (by simpa using hi), fun i o hi => ?_, fun i p ho => R.new i p (hown i p ho), fun i j p q hi hj hne => R.inj i j p q (hown i p hi) (hown j q hj) hne, fun a v i p hm ho => R.dis a v i p hm (hown i p ho)⟩, MLe.refl _, fun i p _ hp => ⟨p, hp, .inl rfl⟩, fun _ _ hv => hv⟩
  rcases set_get hi with ⟨rfl, rfl, _⟩ | ⟨_, hi⟩
  · obtain ⟨p, b1, b2, b3, b4, b5, b6, b7, b8⟩ := R.obj i _ hl
    refine ⟨p, b1, b2, b3, by simpa using b4, b5, fun e he => ?_, b7, fun hvv => ?_⟩
    · obtain ⟨e', he', rfl⟩ := List.mem_map.1 he
      simpa using b6 e' he'
    · obtain ⟨b9, C, fr, b10, b11, b12, b13⟩ := b8 hvv
      refine ⟨b9, C, fr, b10, b11, b12, fun i e j x hi hj => ?_⟩
      rw [List.getElem?_map] at hi
      obtain ⟨e', he', rfl⟩ := Option.map_eq_some_iff.1 hi
      rw [List.getElem?_map] at hj
      obtain ⟨x', hx', rfl⟩ := Option.map_eq_some_iff.1 hj
      obtain ⟨v, hv1, hv2⟩ := b13 i e' j x' he' hx'
      exact ⟨v, hv1, V0_V (clm_V0 hv2)⟩
  · exact R.obj i o hi
abbrev DrawL (P : Program) (m d : Nat) (L : Sch) : Prop := ∀ {s : List Fr} {Q : QT} {f : AF} {h : AH} {ops : Array Oper}, (ops[m]?).bind (·.dst) = some d → schedOk ops L = true → drG P (dsts ops) ops L s Q f h [] → dwG P ops s Q f h
theorem draw_L {P : Program} {m d : Nat} {L : Sch} : DrawL P m d L := fun hd hL H => draw_at m d hd L hL H
end Go.BL
end
section
namespace Go.BL
open Go.RowKit
attribute [go_sem] g_skip g_region g_draw g_seq g_cond g_block g_loop g_exit g_ret n_nil n_seq n_seq_e n_seq_r n_inv n_inv_e n_inv_r n_blk n_blk_r n_blk_e n_blk_ne c_true c_false r_nil r_cons r_want w_tt w_ff w_tf w_ft w_u k0_some ds_mk gs_at gs_some k_some k_none ho_t ho_nil ho_s ho_w ho0_t ho0_nil ho0_s ho0_w kl_some kl_dr hof_nil inq_nil hof_s kf_some kf_dr k_dr k_dr_none k0_dr as_nil son_nil son_cons as_cons tc_load tc_bin tc_indexAddr tc_fieldAddr tc_pick tc_move cl_c cl_im cl_clo cl_agg clb_c clb_im u_eq u_ne e_tmp e_const e_func v_int v_bool v_string v_nil f_zero f_succ o_move o_assign o_pick pick_t pick_f o_alloc new_some o_box box_some v_some objA_at obA_own objR_at obR_own ldE_some ldR_some o_load load_pt load_pel o_store store_pt set_some stE_some pt_t o_fieldAddr fa_pt fa_pel o_indexAddr ia_sl iaO_some ia_im iaE_some o_index ix_str is_im fr_im nq_im0 nq_im o_bin b_add b_sub b_mul b_quo b_rem b_eql b_neq b_lss b_leq b_gtr b_geq b_bneq b_and b_or b_xor b_shl b_shr b_nil o_un un_not o_extract ex_tup o_nilCheck nc_pt o_len ln_im ln_sl o_call ca_fn c_int c_im c_sl c_agg p_any p_one p_agg h_at0 cset_nil cset_cons im_c im_im im_sl im_clo im_agg imv_c imv_im imv_sl imS_some clz_c lo_c lo_im lo_pt lo_sl lo_clo lo_agg lv_c lv_im lv_sl fz_nil fz_cons frO2_some frO_own pl_c pl_im pl_agg pl_tup pl1_c plc_c plc_sl sh_1 sh_agg sh_tup sh1_1 shv_c shv_im shv_sl sho_own pt_nil pt_cons pt2_some fe_nil fe_cons o_buildSlice bs_some bs2_some bs3_some o_makeSlice mk_some mk2_some bd_none bd_int o_slice sl_se sxe_some sx_a sx_0 cap_nil cap_cons cap2_some o_makeFunc mf_some o_convert cv_int ci_some o_append ap_some ap3_some src_at srB_t row_sl rw_some row_im ks_nil ks_map o_clear o_min mm_f d_nil d_cons d_op d_want held_p held_s d_tk d_tw tk_v tk_l tw_tt tw_ff tw_tf tw_ft tw_u t_move t_slice ts_sl tsE_some tsS_some tsS_0 tsS_e tkN_t t_nilCheck tnc_pt vl_some t_load tl_pt tl_pel tfB_t t_fieldAddr tf_pt tf_pel t_indexAddr ti_sl tiO_some ti_im tiE_some t_bin tb_add tb_sub t_extract tb_rem te_tup clE_nil clE_cons clE_map clz_E shV_E rs_nil rs_cons cons2_some rs_tmp rs_cell rc_pt ot_1 ot_2 ot_0 ret_i ri_some ret_o ro_some nt_1 nt_agg ra_tup ra_1 ra_agg rt_tup rt_1 rt_agg rna_c rna_sl rna_agg rnv_c rnv_sl rnS_some stL_nil stL_cons stL_map st_c rno_own tr_at tr_c tr_im tr_sl tr_pt lt_own lte_cl cc_p cc_n ccI_t cc_o fe_im fe_sl fe_agg fe_tup fe1_c fe1_im fe1_sl fec_c fec_sl feo_own fee_map ag_nil ag_cons hd_ret hd_some hd_tup hd_1 hd_ac hd_krl_hi hd_kvsl hd_kS1 hd_kAc hd_kAsl hd_kT1 hd_kOclo List.append_eq List.map_cons List.map_nil List.getElem?_cons_zero List.getElem?_cons_succ List.getElem?_nil Option.map_some Option.map_none List.length_cons List.length_nil List.cons_append List.nil_append ds_mk Option.bind_some List.set_cons_zero List.set_cons_succ List.getElem?_toArray List.size_toArray Array.size_empty List.forall_mem_cons List.drop_zero List.drop_succ_cons List.take_succ_cons List.take_zero List.take_nil Nat.le_refl Option.isSome_some ne_eq not_false_eq_true Bool.and_true Bool.true_and Bool.true_or Bool.false_or Bool.or_false Bool.or_true Bool.false_and Bool.and_false Bool.not_true Bool.not_false List.not_mem_nil false_implies implies_true Int.toNat_natCast Int.natCast_nonneg ite_true ite_false if_true if_false Bool.false_eq_true true_and and_true and_self Nat.add_zero Nat.zero_add List.flatMap_cons List.flatMap_nil List.append_nil List.all_cons List.all_nil List.getElem?_map List.length_map Nat.zero_lt_one List.replicate_succ List.replicate_zero List.length_append List.length_set decide_true decide_false List.set_set eq_self Nat.reduceBEq Nat.reduceAdd Nat.reduceLeDiff Nat.reduceMul Nat.reduceSub Nat.reduceLT Int.reduceEq Nat.reduceEqDiff Int.reduceBEq
end Go.BL
end
section
namespace Go.Proofs.YtkndmncgohmjmaaGreat
open Go.BL
theorem ag3 : aggA Tryz.prog 3 = some false := by kernel_rfl
theorem sz3 : sizeA Tryz.prog 3 = some 1 := by kernel_rfl
theorem ze3 : zeroA Tryz.prog 3 = some [.c (.int .i64 0)] := by kernel_rfl
theorem ki3 : kindA Tryz.prog 3 = some .i64 := by kernel_rfl
theorem us3 : (Tryz.prog.underlying 3).isSome = true := by kernel_rfl
theorem bo4 : boolA Tryz.prog 4 = true := by kernel_rfl
theorem ki5 : kindA Tryz.prog 5 = some .u8 := by kernel_rfl
theorem us5 : (Tryz.prog.underlying 5).isSome = true := by kernel_rfl
theorem st9 : strA Tryz.prog 9 = true := by kernel_rfl
theorem ag27 : aggA Tryz.prog 27 = some false := by kernel_rfl
theorem sz27 : sizeA Tryz.prog 27 = some 1 := by kernel_rfl
theorem el27 : elemA Tryz.prog 27 = some 104 := by kernel_rfl
theorem ag28 : aggA Tryz.prog 28 = some false := by kernel_rfl
theorem sz28 : sizeA Tryz.prog 28 = some 1 := by kernel_rfl
theorem el28 : elemA Tryz.prog 28 = some 106 := by kernel_rfl
theorem ag29 : aggA Tryz.prog 29 = some false := by kernel_rfl
theorem sz29 : sizeA Tryz.prog 29 = some 1 := by kernel_rfl
theorem el29 : elemA Tryz.prog 29 = some 109 := by kernel_rfl
theorem ag30 : aggA Tryz.prog 30 = some false := by kernel_rfl
theorem sz30 : sizeA Tryz.prog 30 = some 1 := by kernel_rfl
theorem el30 : elemA Tryz.prog 30 = some 112 := by kernel_rfl
theorem st30 : strA Tryz.prog 30 = false := by kernel_rfl
theorem ag31 : aggA Tryz.prog 31 = some false := by kernel_rfl
theorem sz31 : sizeA Tryz.prog 31 = some 1 := by kernel_rfl
theorem el31 : elemA Tryz.prog 31 = some 115 := by kernel_rfl
theorem ag33 : aggA Tryz.prog 33 = some true := by kernel_rfl
theorem sz33 : sizeA Tryz.prog 33 = some 6 := by kernel_rfl
theorem ze33 : zeroA Tryz.prog 33 = some [.nl, .nl, .nl, .nl, .nl, .c (.int .i64 0)] := by kernel_rfl
theorem of33_0 : offA Tryz.prog 33 0 = some (0, 27) := by kernel_rfl
theorem of33_1 : offA Tryz.prog 33 1 = some (1, 28) := by kernel_rfl
theorem of33_2 : offA Tryz.prog 33 2 = some (2, 29) := by kernel_rfl
theorem of33_3 : offA Tryz.prog 33 3 = some (3, 30) := by kernel_rfl
theorem of33_4 : offA Tryz.prog 33 4 = some (4, 31) := by kernel_rfl
theorem of33_5 : offA Tryz.prog 33 5 = some (5, 3) := by kernel_rfl
theorem ag46 : aggA Tryz.prog 46 = some false := by kernel_rfl
theorem sz46 : sizeA Tryz.prog 46 = some 1 := by kernel_rfl
theorem el46 : elemA Tryz.prog 46 = some 199 := by kernel_rfl
theorem ag47 : aggA Tryz.prog 47 = some false := by kernel_rfl
theorem sz47 : sizeA Tryz.prog 47 = some 1 := by kernel_rfl
theorem el47 : elemA Tryz.prog 47 = some 201 := by kernel_rfl
theorem ag48 : aggA Tryz.prog 48 = some false := by kernel_rfl
theorem sz48 : sizeA Tryz.prog 48 = some 1 := by kernel_rfl
theorem el48 : elemA Tryz.prog 48 = some 203 := by kernel_rfl
theorem ag49 : aggA Tryz.prog 49 = some false := by kernel_rfl
theorem sz49 : sizeA Tryz.prog 49 = some 1 := by kernel_rfl
theorem el49 : elemA Tryz.prog 49 = some 205 := by kernel_rfl
theorem ag50 : aggA Tryz.prog 50 = some false := by kernel_rfl
theorem sz50 : sizeA Tryz.prog 50 = some 1 := by kernel_rfl
theorem el50 : elemA Tryz.prog 50 = some 207 := by kernel_rfl
theorem ag52 : aggA Tryz.prog 52 = some true := by kernel_rfl
theorem sz52 : sizeA Tryz.prog 52 = some 6 := by kernel_rfl
theorem of52_0 : offA Tryz.prog 52 0 = some (0, 46) := by kernel_rfl
theorem of52_1 : offA Tryz.prog 52 1 = some (1, 47) := by kernel_rfl
theorem of52_2 : offA Tryz.prog 52 2 = some (2, 48) := by kernel_rfl
theorem of52_3 : offA Tryz.prog 52 3 = some (3, 49) := by kernel_rfl
theorem of52_4 : offA Tryz.prog 52 4 = some (4, 50) := by kernel_rfl
theorem of52_5 : offA Tryz.prog 52 5 = some (5, 3) := by kernel_rfl
theorem ag104 : aggA Tryz.prog 104 = some true := by kernel_rfl
theorem sz104 : sizeA Tryz.prog 104 = some 2 := by kernel_rfl
theorem by104 : bytesA Tryz.prog 104 = some 16 := by kernel_rfl
theorem ze104 : zeroA Tryz.prog 104 = some [.c (.int .i64 0), .c (.int .i64 0)] := by kernel_rfl
theorem of104_0 : offA Tryz.prog 104 0 = some (0, 3) := by kernel_rfl
theorem of104_1 : offA Tryz.prog 104 1 = some (1, 3) := by kernel_rfl
theorem ag106 : aggA Tryz.prog 106 = some true := by kernel_rfl
theorem sz106 : sizeA Tryz.prog 106 = some 2 := by kernel_rfl
theorem by106 : bytesA Tryz.prog 106 = some 16 := by kernel_rfl
theorem ze106 : zeroA Tryz.prog 106 = some [.c (.int .i64 0), .c (.int .i64 0)] := by kernel_rfl
theorem of106_0 : offA Tryz.prog 106 0 = some (0, 3) := by kernel_rfl
theorem of106_1 : offA Tryz.prog 106 1 = some (1, 3) := by kernel_rfl
theorem ag109 : aggA Tryz.prog 109 = some true := by kernel_rfl
theorem sz109 : sizeA Tryz.prog 109 = some 3 := by kernel_rfl
theorem by109 : bytesA Tryz.prog 109 = some 24 := by kernel_rfl
theorem ze109 : zeroA Tryz.prog 109 = some [.c (.int .i64 0), .c (.int .i64 0), .c (.int .i64 0)] := by kernel_rfl
theorem of109_0 : offA Tryz.prog 109 0 = some (0, 3) := by kernel_rfl
theorem of109_1 : offA Tryz.prog 109 1 = some (1, 3) := by kernel_rfl
theorem of109_2 : offA Tryz.prog 109 2 = some (2, 3) := by kernel_rfl
theorem ag112 : aggA Tryz.prog 112 = some true := by kernel_rfl
theorem sz112 : sizeA Tryz.prog 112 = some 5 := by kernel_rfl
theorem by112 : bytesA Tryz.prog 112 = some 40 := by kernel_rfl
theorem ze112 : zeroA Tryz.prog 112 = some [.c (.int .i64 0), .c (.int .i64 0), .c (.int .i64 0), .c (.int .i64 0), .c (.int .i64 0)] := by kernel_rfl
theorem of112_0 : offA Tryz.prog 112 0 = some (0, 3) := by kernel_rfl
theorem of112_1 : offA Tryz.prog 112 1 = some (1, 3) := by kernel_rfl
theorem of112_2 : offA Tryz.prog 112 2 = some (2, 3) := by kernel_rfl
theorem of112_3 : offA Tryz.prog 112 3 = some (3, 3) := by kernel_rfl
theorem of112_4 : offA Tryz.prog 112 4 = some (4, 3) := by kernel_rfl
theorem ag115 : aggA Tryz.prog 115 = some true := by kernel_rfl
theorem sz115 : sizeA Tryz.prog 115 = some 8 := by kernel_rfl
theorem by115 : bytesA Tryz.prog 115 = some 64 := by kernel_rfl
theorem ze115 : zeroA Tryz.prog 115 = some [.c (.int .i64 0), .c (.int .i64 0), .c (.int .i64 0), .c (.int .i64 0), .c (.int .i64 0), .c (.int .i64 0), .c (.int .i64 0), .c (.int .i64 0)] := by kernel_rfl
theorem of115_0 : offA Tryz.prog 115 0 = some (0, 3) := by kernel_rfl
theorem of115_1 : offA Tryz.prog 115 1 = some (1, 3) := by kernel_rfl
theorem of115_2 : offA Tryz.prog 115 2 = some (2, 3) := by kernel_rfl
theorem of115_3 : offA Tryz.prog 115 3 = some (3, 3) := by kernel_rfl
theorem of115_4 : offA Tryz.prog 115 4 = some (4, 3) := by kernel_rfl
theorem of115_5 : offA Tryz.prog 115 5 = some (5, 3) := by kernel_rfl
theorem of115_6 : offA Tryz.prog 115 6 = some (6, 3) := by kernel_rfl
theorem of115_7 : offA Tryz.prog 115 7 = some (7, 3) := by kernel_rfl
theorem ki173 : kindA Tryz.prog 173 = some .u64 := by kernel_rfl
theorem us173 : (Tryz.prog.underlying 173).isSome = true := by kernel_rfl
theorem ag199 : aggA Tryz.prog 199 = some true := by kernel_rfl
theorem sz199 : sizeA Tryz.prog 199 = some 2 := by kernel_rfl
theorem of199_0 : offA Tryz.prog 199 0 = some (0, 3) := by kernel_rfl
theorem of199_1 : offA Tryz.prog 199 1 = some (1, 3) := by kernel_rfl
theorem ag201 : aggA Tryz.prog 201 = some true := by kernel_rfl
theorem sz201 : sizeA Tryz.prog 201 = some 2 := by kernel_rfl
theorem of201_0 : offA Tryz.prog 201 0 = some (0, 3) := by kernel_rfl
theorem of201_1 : offA Tryz.prog 201 1 = some (1, 3) := by kernel_rfl
theorem ag203 : aggA Tryz.prog 203 = some true := by kernel_rfl
theorem sz203 : sizeA Tryz.prog 203 = some 3 := by kernel_rfl
theorem of203_0 : offA Tryz.prog 203 0 = some (0, 3) := by kernel_rfl
theorem of203_1 : offA Tryz.prog 203 1 = some (1, 3) := by kernel_rfl
theorem of203_2 : offA Tryz.prog 203 2 = some (2, 3) := by kernel_rfl
theorem ag205 : aggA Tryz.prog 205 = some true := by kernel_rfl
theorem sz205 : sizeA Tryz.prog 205 = some 5 := by kernel_rfl
theorem of205_0 : offA Tryz.prog 205 0 = some (0, 3) := by kernel_rfl
theorem of205_1 : offA Tryz.prog 205 1 = some (1, 3) := by kernel_rfl
theorem of205_2 : offA Tryz.prog 205 2 = some (2, 3) := by kernel_rfl
theorem of205_3 : offA Tryz.prog 205 3 = some (3, 3) := by kernel_rfl
theorem of205_4 : offA Tryz.prog 205 4 = some (4, 3) := by kernel_rfl
theorem ag207 : aggA Tryz.prog 207 = some true := by kernel_rfl
theorem sz207 : sizeA Tryz.prog 207 = some 8 := by kernel_rfl
theorem of207_0 : offA Tryz.prog 207 0 = some (0, 3) := by kernel_rfl
theorem of207_1 : offA Tryz.prog 207 1 = some (1, 3) := by kernel_rfl
theorem of207_2 : offA Tryz.prog 207 2 = some (2, 3) := by kernel_rfl
theorem of207_3 : offA Tryz.prog 207 3 = some (3, 3) := by kernel_rfl
theorem of207_4 : offA Tryz.prog 207 4 = some (4, 3) := by kernel_rfl
theorem of207_5 : offA Tryz.prog 207 5 = some (5, 3) := by kernel_rfl
theorem of207_6 : offA Tryz.prog 207 6 = some (6, 3) := by kernel_rfl
theorem of207_7 : offA Tryz.prog 207 7 = some (7, 3) := by kernel_rfl
theorem ki302 : kindA Tryz.prog 302 = some .u64 := by kernel_rfl
theorem us302 : (Tryz.prog.underlying 302).isSome = true := by kernel_rfl
theorem ag361 : aggA Tryz.prog 361 = some false := by kernel_rfl
theorem sz361 : sizeA Tryz.prog 361 = some 1 := by kernel_rfl
theorem ze361 : zeroA Tryz.prog 361 = some [.c (.int .u64 0)] := by kernel_rfl
theorem ki361 : kindA Tryz.prog 361 = some .u64 := by kernel_rfl
attribute [go_sem] ag3 sz3 ze3 ki3 us3 bo4 ki5 us5 st9 ag27 sz27 el27 ag28 sz28 el28 ag29 sz29 el29 ag30 sz30 el30 st30 ag31 sz31 el31 ag33 sz33 ze33 of33_0 of33_1 of33_2 of33_3 of33_4 of33_5 ag46 sz46 el46 ag47 sz47 el47 ag48 sz48 el48 ag49 sz49 el49 ag50 sz50 el50 ag52 sz52 of52_0 of52_1 of52_2 of52_3 of52_4 of52_5 ag104 sz104 by104 ze104 of104_0 of104_1 ag106 sz106 by106 ze106 of106_0 of106_1 ag109 sz109 by109 ze109 of109_0 of109_1 of109_2 ag112 sz112 by112 ze112 of112_0 of112_1 of112_2 of112_3 of112_4 ag115 sz115 by115 ze115 of115_0 of115_1 of115_2 of115_3 of115_4 of115_5 of115_6 of115_7 ki173 us173 ag199 sz199 of199_0 of199_1 ag201 sz201 of201_0 of201_1 ag203 sz203 of203_0 of203_1 of203_2 ag205 sz205 of205_0 of205_1 of205_2 of205_3 of205_4 ag207 sz207 of207_0 of207_1 of207_2 of207_3 of207_4 of207_5 of207_6 of207_7 ki302 us302 ag361 sz361 ze361 ki361
end Go.Proofs.YtkndmncgohmjmaaGreat
end
section
namespace Go.Proofs.YtkndmncgohmjmaaGreat
open Go.BL Go.RowKit
set_option linter.unusedVariables false
set_option linter.unusedSimpArgs false
set_option maxRecDepth 100000
theorem mixed : Tryz.prog.follows .mixedOrders = true := by kernel_rfl
theorem c_in (n lo hi : Int) (K : AV → AH → Prop) (hk : K (.one (.c (.bool (decide (lo ≤ n ∧ n ≤ hi))))) []) : ACalls Tryz.prog 45 [(.one (.c (.int .i64 (n)))), (.one (.c (.int .i64 (lo)))), (.one (.c (.int .i64 (hi))))] [] K := by
  refine acall_c Tryz.f45.results.toList mixed Tryz.func45 rfl rfl (by kernel_rfl) ?_
  intro Q hQ hQO
  simp only [go_sem]
  (try simp only [go_sem]); repeat' (first | (with_reducible first | refine c_split ?_ ?_ | refine w_split ?_ ?_) <;> intro hb <;> try simp only [go_sem, hb] | with_reducible refine hQ _ _ ?_ <;> simp only [Tryz.f45, go_sem])
  all_goals (refine kB hk ?_; simp_all <;> omega)
theorem c_l1In (n lo hi : Int) (K : AV → AH → Prop) (hk : K (.one (.c (.bool (decide (lo ≤ n ∧ n ≤ hi))))) []) : ACalls Tryz.prog 112 [(.one (.c (.int .i64 (n)))), (.one (.c (.int .i64 (lo)))), (.one (.c (.int .i64 (hi))))] [] K := by
  refine acall_c Tryz.f112.results.toList mixed Tryz.func112 rfl rfl (by kernel_rfl) ?_
  intro Q hQ hQO
  simp only [go_sem]
  (try simp only [go_sem]); repeat' (first | (with_reducible first | refine c_split ?_ ?_ | refine w_split ?_ ?_) <;> intro hb <;> try simp only [go_sem, hb] | with_reducible refine hQ _ _ ?_ <;> simp only [Tryz.f112, go_sem])
  all_goals (refine kB hk ?_; simp_all <;> omega)
end Go.Proofs.YtkndmncgohmjmaaGreat
end
section
namespace Go.Proofs.YtkndmncgohmjmaaGreat
open Go.BL Go.RowKit
set_option linter.unusedVariables false
set_option linter.unusedSimpArgs false
set_option maxRecDepth 100000
structure File where
  name : Int
  safe : ByteArray
  late : ByteArray
end Go.Proofs.YtkndmncgohmjmaaGreat
end
section
namespace Go.Proofs.YtkndmncgohmjmaaGreat
open Go.BL Go.RowKit
set_option linter.unusedVariables false
set_option linter.unusedSimpArgs false
set_option maxRecDepth 100000
def findG {α : Type} (p : α → Bool) (fs : List α) : Int := match fs.findIdx? p with | some i => (i : Int) | none => -1
theorem findG_at {α : Type} {p : α → Bool} {fs : List α} {i : Nat} (hi : i < fs.length) (h1 : ∀ j (hj : j < i), p (fs[j]'(Nat.lt_trans hj hi)) = false) (h2 : p fs[i] = true) : findG p fs = i := by
  have : fs.findIdx? p = some i := by
    rw [List.findIdx?_eq_some_iff_getElem]
    exact ⟨hi, h2, fun j hj => by simp [h1 j hj]⟩
  simp [findG, this]
theorem findG_none {α : Type} {p : α → Bool} {fs : List α} (h1 : ∀ j (hj : j < fs.length), p fs[j] = false) : findG p fs = -1 := by
  have : fs.findIdx? p = none := by
    rw [List.findIdx?_eq_none_iff]
    intro x hx
    obtain ⟨j, hj, rfl⟩ := List.mem_iff_getElem.1 hx
    exact h1 j hj
  simp [findG, this]
def noneTo {α : Type} (p : α → Bool) (xs : List α) (i : Nat) : Prop := ∀ j (hj : j < xs.length), j < i → p xs[j] = false
theorem noneTo_0 {α : Type} (p : α → Bool) (xs : List α) : noneTo p xs 0 := fun j hj h => absurd h (Nat.not_lt_zero j)
theorem noneTo_s {α : Type} {p : α → Bool} {xs : List α} {i : Nat} (h : noneTo p xs i) (hi : i < xs.length) (hp : p xs[i] = false) : noneTo p xs (i + 1) := fun j hj hji => by
  rcases Nat.lt_or_ge j i with h' | h'
  · exact h j hj h'
  · obtain rfl : j = i := by omega
    exact hp
theorem findG_of {α : Type} {p : α → Bool} {xs : List α} {i : Nat} (h : noneTo p xs i) (hi : i < xs.length) (hp : p xs[i] = true) : findG p xs = i := findG_at hi (fun j hj => h j _ hj) hp
theorem findG_no {α : Type} {p : α → Bool} {xs : List α} (h : noneTo p xs xs.length) : findG p xs = -1 := findG_none fun j hj => h j hj hj
end Go.Proofs.YtkndmncgohmjmaaGreat
end
section
namespace Go.Proofs.YtkndmncgohmjmaaGreat
open Go.BL Go.RowKit
set_option linter.unusedVariables false
set_option linter.unusedSimpArgs false
set_option maxRecDepth 100000
def after (n : Int) : Int := (wrap64 (n + 1)).tmod 20
end Go.Proofs.YtkndmncgohmjmaaGreat
end
section
namespace Go.Proofs.YtkndmncgohmjmaaGreat
open Go.BL Go.RowKit
set_option linter.unusedVariables false
set_option linter.unusedSimpArgs false
set_option maxRecDepth 100000
theorem d83_0_LRec : DrawL Tryz.prog 0 17 (.on [(0, true, true), (1, true, true), (2, true, true), (3, true, true), (4, true, false), (5, false, false), (6, false, false), (7, false, false), (8, false, true), (9, false, true)] .nil) := draw_L
theorem d84_0_LRec : DrawL Tryz.prog 0 17 (.on [(0, true, true), (1, true, true), (2, true, true), (3, true, true), (4, true, false), (5, false, false), (6, false, false), (7, false, false), (8, false, true), (9, false, true)] .nil) := draw_L
theorem d85_0_LRec : DrawL Tryz.prog 0 17 (.on [(0, true, true), (1, true, true), (2, true, true), (3, true, true), (4, true, false), (5, false, false), (6, false, false), (7, false, false), (8, false, true), (9, false, true)] .nil) := draw_L
theorem d86_0_LRec : DrawL Tryz.prog 0 17 (.on [(0, true, true), (1, true, true), (2, true, true), (3, true, true), (4, true, false), (5, false, false), (6, false, false), (7, false, false), (8, false, true), (9, false, true)] .nil) := draw_L
theorem d87_0_LRec : DrawL Tryz.prog 0 17 (.on [(0, true, true), (1, true, true), (2, true, true), (3, true, true), (4, true, false), (5, false, false), (6, false, false), (7, false, false), (8, false, true), (9, false, true)] .nil) := draw_L
structure Account where
  no : Int
  kind : Int
def accountC (x : Account) : List CV := [.c (.int .i64 (x.no)), .c (.int .i64 (x.kind))]
attribute [local go_sem] accountC
theorem accountC_set (xs : List (Account)) (q : Nat) (a0 a1 : Int) : (xs.map accountC).set q [.c (.int .i64 (a0)), .c (.int .i64 (a1))] = (xs.set q (⟨a0, a1⟩ : Account)).map accountC := by rw [List.map_set]; rfl
theorem accountC_rep (q : Nat) (a0 a1 : Int) : List.replicate q [.c (.int .i64 (a0)), .c (.int .i64 (a1))] = (List.replicate q (⟨a0, a1⟩ : Account)).map accountC := map_rep _ _ _ _ rfl
theorem accountC_tk (xs : List (Account)) : (xs.map accountC).take xs.length = xs.map accountC := List.take_of_length_le (by simp)
attribute [go_sem] accountC_tk accountC_set accountC_rep
instance : Inhabited Account := ⟨⟨0, 0⟩⟩
theorem c_toAccount (x : Account) (K : AV → AH → Prop) (hk : K (.agg (accountC x)) []) : ACalls Tryz.prog 158 [.agg (accountC x)] [] K := by
  refine acall_c Tryz.f158.results.toList mixed Tryz.func158 rfl rfl (by kernel_rfl) ?_
  intro Q hQ hQO
  simp only [go_sem]
  (try simp only [go_sem]); repeat' (first | (with_reducible first | refine c_split ?_ ?_ | refine w_split ?_ ?_) <;> intro hb <;> try simp only [go_sem, hb] | with_reducible refine hQ _ _ ?_ <;> simp only [Tryz.f158, go_sem])
  exact hk
theorem c_toAccountS (xs : List Account) (hn : xs.length ≤ 1000000000) (K : AV → AH → Prop) (hk : K (.one (.sl 0 0 0 xs.length)) [.own 0 104 2 (some xs.length) (xs.map accountC)]) : ACalls Tryz.prog 76 [(.one (.im (xs.map accountC)))] [] K := by
  refine acall_c Tryz.f76.results.toList mixed Tryz.func76 rfl rfl (by kernel_rfl) ?_
  intro Q hQ hQO
  simp only [go_sem]
  refine ⟨by omega, Nat.le_trans hn (by decide), ?_⟩
  refine for_at (xs.length) [0, 3] (fun i f h => f 4 = (.one (.c (.int .i64 (i)))) ∧ h = [.own 0 104 2 (some xs.length) ((fillR (fun j => xs[j]?.getD ⟨0, 0⟩) (List.replicate xs.length ⟨0, 0⟩) i).map accountC)]) (GC.now ?_) ?_
  · simp only [go_sem, nc_0, true_and, fill_0]
  · rintro i f h J hi hA ⟨e4, rfl⟩ hJ
    simp only [go_sem, fill_0] at hA
    simp only [go_sem, hA, e4, fill_0]
    refine c_split (fun hb => ?_) (fun hb => ?_)
    rotate_left
    · simp only [go_sem, hb, hA, e4, fill_0]
      obtain rfl := ge_len hb hi
      (try simp only [go_sem, hA, e4, fill_0, fill_copy xs _ _ List.length_replicate]); repeat' (first | (with_reducible first | refine c_split ?_ ?_ | refine w_split ?_ ?_) <;> intro hb <;> try simp only [go_sem, hb, hA, e4, fill_0, fill_copy xs _ _ List.length_replicate] | fail)
      refine hQO [0] _ _ (GC.now ?_) <;> simp only [Tryz.f76, go_sem, List.nodup_cons, List.nodup_nil, List.mem_cons, List.not_mem_nil, or_false, not_false_eq_true, List.idxOf?_cons, List.idxOf?_nil, Option.map_none]
      exact hk
    have hi := lt_len hb
    have hw := wrap_nat i (by omega)
    have hil : (i : Int) < ((xs.length : Nat) : Int) := Int.ofNat_lt.2 hi
    have hg0 : (xs)[i]? = some ((xs)[i]) := List.getElem?_eq_getElem (by omega)
    simp only [go_sem, hb, hA, e4, fill_0, hg0]
    try simp only [go_sem, hA, e4, fill_0, hil, hg0]
    have hold := fill_get (fun j => xs[j]?.getD (⟨0, 0⟩ : Account)) (List.replicate xs.length ⟨0, 0⟩) i
    rw [List.getElem?_replicate, if_pos hi] at hold
    have hset := fill_set (fun j => xs[j]?.getD (⟨0, 0⟩ : Account)) (List.replicate xs.length ⟨0, 0⟩) i (by simpa using hi) xs[i] (by rw [hg0]; rfl)
    (try simp only [go_sem, hA, e4, fill_0, hil, hg0, hold]); repeat' (first | (with_reducible first | refine c_split ?_ ?_ | refine w_split ?_ ?_) <;> intro hb <;> try simp only [go_sem, hb, hA, e4, fill_0, hil, hg0, hold] | refine call_c (c_toAccount _ _ ?_) <;> try simp only [go_sem, hA, e4, fill_0, hil, hg0, hold] | fail)
    refine gc_trim 1 (by decide) (by simp only [go_sem]) (by simp only [go_sem]) (hJ _ _ hi (by simp only [go_sem, hA, e4, fill_0]) ⟨?_, ?_⟩) <;> try simp only [go_sem, hA, e4, fill_0, hw, hset]
theorem c_szAccountS (xs : List Account) (left : Int) (hn : xs.length ≤ 1000000000000000) (h0 : 0 ≤ left) (h1 : left ≤ 1048576) (K : AV → AH → Prop) (hk : ∀ r, (0 ≤ r → r = left - xs.length) → K (.one (.c (.int .i64 (r)))) []) : ACalls Tryz.prog 68 [(.one (.im (xs.map accountC))), (.one (.c (.int .i64 (left))))] [] K := by
  refine acall_c Tryz.f68.results.toList mixed Tryz.func68 rfl rfl (by kernel_rfl) ?_
  intro Q hQ hQO
  simp only [go_sem]
  (try simp only [go_sem]); repeat' (first | (with_reducible first | refine c_split ?_ ?_ | refine w_split ?_ ?_) <;> intro hb <;> try simp only [go_sem, hb] | with_reducible refine hQ _ _ ?_ <;> simp only [Tryz.f68, go_sem])
  · exact hk _ (by intro q; omega)
  · exact hk _ (by intro q; unfold wrap64; omega)
theorem c_eqAccount (x : Account) (K : AV → AH → Prop) (hk : K (.one (.c (.bool (true)))) []) : ACalls Tryz.prog 178 [.agg (accountC x), .agg (accountC x)] [] K := by
  refine acall_c Tryz.f178.results.toList mixed Tryz.func178 rfl rfl (by kernel_rfl) ?_
  intro Q hQ hQO
  simp only [go_sem, BEq.rfl]
  (try simp only [go_sem, BEq.rfl]); repeat' (first | (with_reducible first | refine c_split ?_ ?_ | refine w_split ?_ ?_) <;> intro hb <;> try simp only [go_sem, hb, BEq.rfl] | with_reducible refine hQ _ _ ?_ <;> simp only [Tryz.f178, go_sem, BEq.rfl])
  exact hk
theorem c_eqAccountS (xs : List Account) (hn : xs.length ≤ 1000000000) (K : AV → AH → Prop) (hk : K (.one (.c (.bool (true)))) []) : ACalls Tryz.prog 83 [(.one (.im (xs.map accountC))), (.one (.im (xs.map accountC)))] [] K := by
  refine acall_c Tryz.f83.results.toList mixed Tryz.func83 rfl rfl (by kernel_rfl) ?_
  intro Q hQ hQO
  simp only [go_sem, BEq.rfl]
  refine for_at (xs.length) [0, 1] (fun i f h => f 5 = (.one (.c (.int .i64 (i)))) ∧ h = []) (GC.now ?_) ?_
  · simp only [go_sem, nc_0, true_and, BEq.rfl]
  · rintro i f h J hi hA ⟨e5, rfl⟩ hJ
    simp only [go_sem, BEq.rfl] at hA
    simp only [go_sem, hA, e5, BEq.rfl]
    refine c_split (fun hb => ?_) (fun hb => ?_)
    rotate_left
    · simp only [go_sem, hb, hA, e5, BEq.rfl]
      obtain rfl := ge_len hb hi
      (try simp only [go_sem, hA, e5, BEq.rfl]); repeat' (first | (with_reducible first | refine c_split ?_ ?_ | refine w_split ?_ ?_ | refine tw_split ?_ ?_) <;> intro hb <;> try simp only [go_sem, hb, hA, e5, BEq.rfl] | with_reducible refine d83_0_LRec (by with_unfolding_all rfl) (by kernel_rfl) ?_ <;> try simp only [go_sem, hA, e5, BEq.rfl] | with_reducible refine hQ _ _ ?_ <;> simp only [Tryz.f83, go_sem, hA, e5, BEq.rfl])
      exact hk
    have hi := lt_len hb
    have hw := wrap_nat i (by omega)
    have hil : (i : Int) < ((xs.length : Nat) : Int) := Int.ofNat_lt.2 hi
    have hg0 : (xs)[i]? = some ((xs)[i]) := List.getElem?_eq_getElem (by omega)
    simp only [go_sem, hb, hA, e5, BEq.rfl, hg0]
    try simp only [go_sem, hA, e5, BEq.rfl, hil, hg0]
    (try simp only [go_sem, hA, e5, BEq.rfl, hil, hg0]); repeat' (first | (with_reducible first | refine c_split ?_ ?_ | refine w_split ?_ ?_ | refine tw_split ?_ ?_) <;> intro hb <;> try simp only [go_sem, hb, hA, e5, BEq.rfl, hil, hg0] | (first | with_reducible refine d83_0_LRec (by with_unfolding_all rfl) (by kernel_rfl) ?_ | refine call_c (c_eqAccount _ _ ?_) | fail) <;> try simp only [go_sem, hA, e5, BEq.rfl, hil, hg0] | fail)
    refine GC.now (hJ _ _ hi (by simp only [go_sem, hA, e5, BEq.rfl]) ⟨?_, ?_⟩) <;> try simp only [go_sem, hA, e5, BEq.rfl, hw]
theorem c_toInstr (x : Account) (K : AV → AH → Prop) (hk : K (.agg (accountC x)) []) : ACalls Tryz.prog 159 [.agg (accountC x)] [] K := by
  refine acall_c Tryz.f159.results.toList mixed Tryz.func159 rfl rfl (by kernel_rfl) ?_
  intro Q hQ hQO
  simp only [go_sem]
  (try simp only [go_sem]); repeat' (first | (with_reducible first | refine c_split ?_ ?_ | refine w_split ?_ ?_) <;> intro hb <;> try simp only [go_sem, hb] | with_reducible refine hQ _ _ ?_ <;> simp only [Tryz.f159, go_sem])
  exact hk
theorem c_toInstrS (xs : List Account) (hn : xs.length ≤ 1000000000) (K : AV → AH → Prop) (hk : K (.one (.sl 0 0 0 xs.length)) [.own 0 106 2 (some xs.length) (xs.map accountC)]) : ACalls Tryz.prog 77 [(.one (.im (xs.map accountC)))] [] K := by
  refine acall_c Tryz.f77.results.toList mixed Tryz.func77 rfl rfl (by kernel_rfl) ?_
  intro Q hQ hQO
  simp only [go_sem]
  refine ⟨by omega, Nat.le_trans hn (by decide), ?_⟩
  refine for_at (xs.length) [0, 3] (fun i f h => f 4 = (.one (.c (.int .i64 (i)))) ∧ h = [.own 0 106 2 (some xs.length) ((fillR (fun j => xs[j]?.getD ⟨0, 0⟩) (List.replicate xs.length ⟨0, 0⟩) i).map accountC)]) (GC.now ?_) ?_
  · simp only [go_sem, nc_0, true_and, fill_0]
  · rintro i f h J hi hA ⟨e4, rfl⟩ hJ
    simp only [go_sem, fill_0] at hA
    simp only [go_sem, hA, e4, fill_0]
    refine c_split (fun hb => ?_) (fun hb => ?_)
    rotate_left
    · simp only [go_sem, hb, hA, e4, fill_0]
      obtain rfl := ge_len hb hi
      (try simp only [go_sem, hA, e4, fill_0, fill_copy xs _ _ List.length_replicate]); repeat' (first | (with_reducible first | refine c_split ?_ ?_ | refine w_split ?_ ?_) <;> intro hb <;> try simp only [go_sem, hb, hA, e4, fill_0, fill_copy xs _ _ List.length_replicate] | fail)
      refine hQO [0] _ _ (GC.now ?_) <;> simp only [Tryz.f77, go_sem, List.nodup_cons, List.nodup_nil, List.mem_cons, List.not_mem_nil, or_false, not_false_eq_true, List.idxOf?_cons, List.idxOf?_nil, Option.map_none]
      exact hk
    have hi := lt_len hb
    have hw := wrap_nat i (by omega)
    have hil : (i : Int) < ((xs.length : Nat) : Int) := Int.ofNat_lt.2 hi
    have hg0 : (xs)[i]? = some ((xs)[i]) := List.getElem?_eq_getElem (by omega)
    simp only [go_sem, hb, hA, e4, fill_0, hg0]
    try simp only [go_sem, hA, e4, fill_0, hil, hg0]
    have hold := fill_get (fun j => xs[j]?.getD (⟨0, 0⟩ : Account)) (List.replicate xs.length ⟨0, 0⟩) i
    rw [List.getElem?_replicate, if_pos hi] at hold
    have hset := fill_set (fun j => xs[j]?.getD (⟨0, 0⟩ : Account)) (List.replicate xs.length ⟨0, 0⟩) i (by simpa using hi) xs[i] (by rw [hg0]; rfl)
    (try simp only [go_sem, hA, e4, fill_0, hil, hg0, hold]); repeat' (first | (with_reducible first | refine c_split ?_ ?_ | refine w_split ?_ ?_) <;> intro hb <;> try simp only [go_sem, hb, hA, e4, fill_0, hil, hg0, hold] | refine call_c (c_toInstr _ _ ?_) <;> try simp only [go_sem, hA, e4, fill_0, hil, hg0, hold] | fail)
    refine gc_trim 1 (by decide) (by simp only [go_sem]) (by simp only [go_sem]) (hJ _ _ hi (by simp only [go_sem, hA, e4, fill_0]) ⟨?_, ?_⟩) <;> try simp only [go_sem, hA, e4, fill_0, hw, hset]
theorem c_szInstrS (xs : List Account) (left : Int) (hn : xs.length ≤ 1000000000000000) (h0 : 0 ≤ left) (h1 : left ≤ 1048576) (K : AV → AH → Prop) (hk : ∀ r, (0 ≤ r → r = left - xs.length) → K (.one (.c (.int .i64 (r)))) []) : ACalls Tryz.prog 69 [(.one (.im (xs.map accountC))), (.one (.c (.int .i64 (left))))] [] K := by
  refine acall_c Tryz.f69.results.toList mixed Tryz.func69 rfl rfl (by kernel_rfl) ?_
  intro Q hQ hQO
  simp only [go_sem]
  (try simp only [go_sem]); repeat' (first | (with_reducible first | refine c_split ?_ ?_ | refine w_split ?_ ?_) <;> intro hb <;> try simp only [go_sem, hb] | with_reducible refine hQ _ _ ?_ <;> simp only [Tryz.f69, go_sem])
  · exact hk _ (by intro q; omega)
  · exact hk _ (by intro q; unfold wrap64; omega)
theorem c_eqInstr (x : Account) (K : AV → AH → Prop) (hk : K (.one (.c (.bool (true)))) []) : ACalls Tryz.prog 179 [.agg (accountC x), .agg (accountC x)] [] K := by
  refine acall_c Tryz.f179.results.toList mixed Tryz.func179 rfl rfl (by kernel_rfl) ?_
  intro Q hQ hQO
  simp only [go_sem, BEq.rfl]
  (try simp only [go_sem, BEq.rfl]); repeat' (first | (with_reducible first | refine c_split ?_ ?_ | refine w_split ?_ ?_) <;> intro hb <;> try simp only [go_sem, hb, BEq.rfl] | with_reducible refine hQ _ _ ?_ <;> simp only [Tryz.f179, go_sem, BEq.rfl])
  exact hk
theorem c_eqInstrS (xs : List Account) (hn : xs.length ≤ 1000000000) (K : AV → AH → Prop) (hk : K (.one (.c (.bool (true)))) []) : ACalls Tryz.prog 84 [(.one (.im (xs.map accountC))), (.one (.im (xs.map accountC)))] [] K := by
  refine acall_c Tryz.f84.results.toList mixed Tryz.func84 rfl rfl (by kernel_rfl) ?_
  intro Q hQ hQO
  simp only [go_sem, BEq.rfl]
  refine for_at (xs.length) [0, 1] (fun i f h => f 5 = (.one (.c (.int .i64 (i)))) ∧ h = []) (GC.now ?_) ?_
  · simp only [go_sem, nc_0, true_and, BEq.rfl]
  · rintro i f h J hi hA ⟨e5, rfl⟩ hJ
    simp only [go_sem, BEq.rfl] at hA
    simp only [go_sem, hA, e5, BEq.rfl]
    refine c_split (fun hb => ?_) (fun hb => ?_)
    rotate_left
    · simp only [go_sem, hb, hA, e5, BEq.rfl]
      obtain rfl := ge_len hb hi
      (try simp only [go_sem, hA, e5, BEq.rfl]); repeat' (first | (with_reducible first | refine c_split ?_ ?_ | refine w_split ?_ ?_ | refine tw_split ?_ ?_) <;> intro hb <;> try simp only [go_sem, hb, hA, e5, BEq.rfl] | with_reducible refine d84_0_LRec (by with_unfolding_all rfl) (by kernel_rfl) ?_ <;> try simp only [go_sem, hA, e5, BEq.rfl] | with_reducible refine hQ _ _ ?_ <;> simp only [Tryz.f84, go_sem, hA, e5, BEq.rfl])
      exact hk
    have hi := lt_len hb
    have hw := wrap_nat i (by omega)
    have hil : (i : Int) < ((xs.length : Nat) : Int) := Int.ofNat_lt.2 hi
    have hg0 : (xs)[i]? = some ((xs)[i]) := List.getElem?_eq_getElem (by omega)
    simp only [go_sem, hb, hA, e5, BEq.rfl, hg0]
    try simp only [go_sem, hA, e5, BEq.rfl, hil, hg0]
    (try simp only [go_sem, hA, e5, BEq.rfl, hil, hg0]); repeat' (first | (with_reducible first | refine c_split ?_ ?_ | refine w_split ?_ ?_ | refine tw_split ?_ ?_) <;> intro hb <;> try simp only [go_sem, hb, hA, e5, BEq.rfl, hil, hg0] | (first | with_reducible refine d84_0_LRec (by with_unfolding_all rfl) (by kernel_rfl) ?_ | refine call_c (c_eqInstr _ _ ?_) | fail) <;> try simp only [go_sem, hA, e5, BEq.rfl, hil, hg0] | fail)
    refine GC.now (hJ _ _ hi (by simp only [go_sem, hA, e5, BEq.rfl]) ⟨?_, ?_⟩) <;> try simp only [go_sem, hA, e5, BEq.rfl, hw]
structure Bal where
  account : Int
  instr : Int
  amount : Int
def balC (x : Bal) : List CV := [.c (.int .i64 (x.account)), .c (.int .i64 (x.instr)), .c (.int .i64 (x.amount))]
attribute [local go_sem] balC
theorem balC_set (xs : List (Bal)) (q : Nat) (a0 a1 a2 : Int) : (xs.map balC).set q [.c (.int .i64 (a0)), .c (.int .i64 (a1)), .c (.int .i64 (a2))] = (xs.set q (⟨a0, a1, a2⟩ : Bal)).map balC := by rw [List.map_set]; rfl
theorem balC_rep (q : Nat) (a0 a1 a2 : Int) : List.replicate q [.c (.int .i64 (a0)), .c (.int .i64 (a1)), .c (.int .i64 (a2))] = (List.replicate q (⟨a0, a1, a2⟩ : Bal)).map balC := map_rep _ _ _ _ rfl
theorem balC_tk (xs : List (Bal)) : (xs.map balC).take xs.length = xs.map balC := List.take_of_length_le (by simp)
attribute [go_sem] balC_tk balC_set balC_rep
instance : Inhabited Bal := ⟨⟨0, 0, 0⟩⟩
theorem c_toBal (x : Bal) (K : AV → AH → Prop) (hk : K (.agg (balC x)) []) : ACalls Tryz.prog 160 [.agg (balC x)] [] K := by
  refine acall_c Tryz.f160.results.toList mixed Tryz.func160 rfl rfl (by kernel_rfl) ?_
  intro Q hQ hQO
  simp only [go_sem]
  (try simp only [go_sem]); repeat' (first | (with_reducible first | refine c_split ?_ ?_ | refine w_split ?_ ?_) <;> intro hb <;> try simp only [go_sem, hb] | with_reducible refine hQ _ _ ?_ <;> simp only [Tryz.f160, go_sem])
  exact hk
theorem c_toBalS (xs : List Bal) (hn : xs.length ≤ 1000000000) (K : AV → AH → Prop) (hk : K (.one (.sl 0 0 0 xs.length)) [.own 0 109 3 (some xs.length) (xs.map balC)]) : ACalls Tryz.prog 78 [(.one (.im (xs.map balC)))] [] K := by
  refine acall_c Tryz.f78.results.toList mixed Tryz.func78 rfl rfl (by kernel_rfl) ?_
  intro Q hQ hQO
  simp only [go_sem]
  refine ⟨by omega, Nat.le_trans hn (by decide), ?_⟩
  refine for_at (xs.length) [0, 3] (fun i f h => f 4 = (.one (.c (.int .i64 (i)))) ∧ h = [.own 0 109 3 (some xs.length) ((fillR (fun j => xs[j]?.getD ⟨0, 0, 0⟩) (List.replicate xs.length ⟨0, 0, 0⟩) i).map balC)]) (GC.now ?_) ?_
  · simp only [go_sem, nc_0, true_and, fill_0]
  · rintro i f h J hi hA ⟨e4, rfl⟩ hJ
    simp only [go_sem, fill_0] at hA
    simp only [go_sem, hA, e4, fill_0]
    refine c_split (fun hb => ?_) (fun hb => ?_)
    rotate_left
    · simp only [go_sem, hb, hA, e4, fill_0]
      obtain rfl := ge_len hb hi
      (try simp only [go_sem, hA, e4, fill_0, fill_copy xs _ _ List.length_replicate]); repeat' (first | (with_reducible first | refine c_split ?_ ?_ | refine w_split ?_ ?_) <;> intro hb <;> try simp only [go_sem, hb, hA, e4, fill_0, fill_copy xs _ _ List.length_replicate] | fail)
      refine hQO [0] _ _ (GC.now ?_) <;> simp only [Tryz.f78, go_sem, List.nodup_cons, List.nodup_nil, List.mem_cons, List.not_mem_nil, or_false, not_false_eq_true, List.idxOf?_cons, List.idxOf?_nil, Option.map_none]
      exact hk
    have hi := lt_len hb
    have hw := wrap_nat i (by omega)
    have hil : (i : Int) < ((xs.length : Nat) : Int) := Int.ofNat_lt.2 hi
    have hg0 : (xs)[i]? = some ((xs)[i]) := List.getElem?_eq_getElem (by omega)
    simp only [go_sem, hb, hA, e4, fill_0, hg0]
    try simp only [go_sem, hA, e4, fill_0, hil, hg0]
    have hold := fill_get (fun j => xs[j]?.getD (⟨0, 0, 0⟩ : Bal)) (List.replicate xs.length ⟨0, 0, 0⟩) i
    rw [List.getElem?_replicate, if_pos hi] at hold
    have hset := fill_set (fun j => xs[j]?.getD (⟨0, 0, 0⟩ : Bal)) (List.replicate xs.length ⟨0, 0, 0⟩) i (by simpa using hi) xs[i] (by rw [hg0]; rfl)
    (try simp only [go_sem, hA, e4, fill_0, hil, hg0, hold]); repeat' (first | (with_reducible first | refine c_split ?_ ?_ | refine w_split ?_ ?_) <;> intro hb <;> try simp only [go_sem, hb, hA, e4, fill_0, hil, hg0, hold] | refine call_c (c_toBal _ _ ?_) <;> try simp only [go_sem, hA, e4, fill_0, hil, hg0, hold] | fail)
    refine gc_trim 1 (by decide) (by simp only [go_sem]) (by simp only [go_sem]) (hJ _ _ hi (by simp only [go_sem, hA, e4, fill_0]) ⟨?_, ?_⟩) <;> try simp only [go_sem, hA, e4, fill_0, hw, hset]
theorem c_szBalS (xs : List Bal) (left : Int) (hn : xs.length ≤ 1000000000000000) (h0 : 0 ≤ left) (h1 : left ≤ 1048576) (K : AV → AH → Prop) (hk : ∀ r, (0 ≤ r → r = left - xs.length) → K (.one (.c (.int .i64 (r)))) []) : ACalls Tryz.prog 70 [(.one (.im (xs.map balC))), (.one (.c (.int .i64 (left))))] [] K := by
  refine acall_c Tryz.f70.results.toList mixed Tryz.func70 rfl rfl (by kernel_rfl) ?_
  intro Q hQ hQO
  simp only [go_sem]
  (try simp only [go_sem]); repeat' (first | (with_reducible first | refine c_split ?_ ?_ | refine w_split ?_ ?_) <;> intro hb <;> try simp only [go_sem, hb] | with_reducible refine hQ _ _ ?_ <;> simp only [Tryz.f70, go_sem])
  · exact hk _ (by intro q; omega)
  · exact hk _ (by intro q; unfold wrap64; omega)
theorem c_eqBal (x : Bal) (K : AV → AH → Prop) (hk : K (.one (.c (.bool (true)))) []) : ACalls Tryz.prog 180 [.agg (balC x), .agg (balC x)] [] K := by
  refine acall_c Tryz.f180.results.toList mixed Tryz.func180 rfl rfl (by kernel_rfl) ?_
  intro Q hQ hQO
  simp only [go_sem, BEq.rfl]
  (try simp only [go_sem, BEq.rfl]); repeat' (first | (with_reducible first | refine c_split ?_ ?_ | refine w_split ?_ ?_) <;> intro hb <;> try simp only [go_sem, hb, BEq.rfl] | with_reducible refine hQ _ _ ?_ <;> simp only [Tryz.f180, go_sem, BEq.rfl])
  exact hk
theorem c_eqBalS (xs : List Bal) (hn : xs.length ≤ 1000000000) (K : AV → AH → Prop) (hk : K (.one (.c (.bool (true)))) []) : ACalls Tryz.prog 85 [(.one (.im (xs.map balC))), (.one (.im (xs.map balC)))] [] K := by
  refine acall_c Tryz.f85.results.toList mixed Tryz.func85 rfl rfl (by kernel_rfl) ?_
  intro Q hQ hQO
  simp only [go_sem, BEq.rfl]
  refine for_at (xs.length) [0, 1] (fun i f h => f 5 = (.one (.c (.int .i64 (i)))) ∧ h = []) (GC.now ?_) ?_
  · simp only [go_sem, nc_0, true_and, BEq.rfl]
  · rintro i f h J hi hA ⟨e5, rfl⟩ hJ
    simp only [go_sem, BEq.rfl] at hA
    simp only [go_sem, hA, e5, BEq.rfl]
    refine c_split (fun hb => ?_) (fun hb => ?_)
    rotate_left
    · simp only [go_sem, hb, hA, e5, BEq.rfl]
      obtain rfl := ge_len hb hi
      (try simp only [go_sem, hA, e5, BEq.rfl]); repeat' (first | (with_reducible first | refine c_split ?_ ?_ | refine w_split ?_ ?_ | refine tw_split ?_ ?_) <;> intro hb <;> try simp only [go_sem, hb, hA, e5, BEq.rfl] | with_reducible refine d85_0_LRec (by with_unfolding_all rfl) (by kernel_rfl) ?_ <;> try simp only [go_sem, hA, e5, BEq.rfl] | with_reducible refine hQ _ _ ?_ <;> simp only [Tryz.f85, go_sem, hA, e5, BEq.rfl])
      exact hk
    have hi := lt_len hb
    have hw := wrap_nat i (by omega)
    have hil : (i : Int) < ((xs.length : Nat) : Int) := Int.ofNat_lt.2 hi
    have hg0 : (xs)[i]? = some ((xs)[i]) := List.getElem?_eq_getElem (by omega)
    simp only [go_sem, hb, hA, e5, BEq.rfl, hg0]
    try simp only [go_sem, hA, e5, BEq.rfl, hil, hg0]
    (try simp only [go_sem, hA, e5, BEq.rfl, hil, hg0]); repeat' (first | (with_reducible first | refine c_split ?_ ?_ | refine w_split ?_ ?_ | refine tw_split ?_ ?_) <;> intro hb <;> try simp only [go_sem, hb, hA, e5, BEq.rfl, hil, hg0] | (first | with_reducible refine d85_0_LRec (by with_unfolding_all rfl) (by kernel_rfl) ?_ | refine call_c (c_eqBal _ _ ?_) | fail) <;> try simp only [go_sem, hA, e5, BEq.rfl, hil, hg0] | fail)
    refine GC.now (hJ _ _ hi (by simp only [go_sem, hA, e5, BEq.rfl]) ⟨?_, ?_⟩) <;> try simp only [go_sem, hA, e5, BEq.rfl, hw]
structure Lot where
  account : Int
  instr : Int
  no : Int
  qty : Int
  cost : Int
def lotC (x : Lot) : List CV := [.c (.int .i64 (x.account)), .c (.int .i64 (x.instr)), .c (.int .i64 (x.no)), .c (.int .i64 (x.qty)), .c (.int .i64 (x.cost))]
attribute [local go_sem] lotC
theorem lotC_snoc (xs : List (Lot)) (a0 a1 a2 a3 a4 : Int) : xs.map lotC ++ [[.c (.int .i64 (a0)), .c (.int .i64 (a1)), .c (.int .i64 (a2)), .c (.int .i64 (a3)), .c (.int .i64 (a4))]] = (xs ++ [(⟨a0, a1, a2, a3, a4⟩ : Lot)]).map lotC := by rw [List.map_append]; rfl
theorem lotC_set (xs : List (Lot)) (q : Nat) (a0 a1 a2 a3 a4 : Int) : (xs.map lotC).set q [.c (.int .i64 (a0)), .c (.int .i64 (a1)), .c (.int .i64 (a2)), .c (.int .i64 (a3)), .c (.int .i64 (a4))] = (xs.set q (⟨a0, a1, a2, a3, a4⟩ : Lot)).map lotC := by rw [List.map_set]; rfl
theorem lotC_rep (q : Nat) (a0 a1 a2 a3 a4 : Int) : List.replicate q [.c (.int .i64 (a0)), .c (.int .i64 (a1)), .c (.int .i64 (a2)), .c (.int .i64 (a3)), .c (.int .i64 (a4))] = (List.replicate q (⟨a0, a1, a2, a3, a4⟩ : Lot)).map lotC := map_rep _ _ _ _ rfl
theorem lotC_tk (xs : List (Lot)) : (xs.map lotC).take xs.length = xs.map lotC := List.take_of_length_le (by simp)
attribute [go_sem] lotC_snoc lotC_tk lotC_set lotC_rep
instance : Inhabited Lot := ⟨⟨0, 0, 0, 0, 0⟩⟩
theorem c_toLot (x : Lot) (K : AV → AH → Prop) (hk : K (.agg (lotC x)) []) : ACalls Tryz.prog 161 [.agg (lotC x)] [] K := by
  refine acall_c Tryz.f161.results.toList mixed Tryz.func161 rfl rfl (by kernel_rfl) ?_
  intro Q hQ hQO
  simp only [go_sem]
  (try simp only [go_sem]); repeat' (first | (with_reducible first | refine c_split ?_ ?_ | refine w_split ?_ ?_) <;> intro hb <;> try simp only [go_sem, hb] | with_reducible refine hQ _ _ ?_ <;> simp only [Tryz.f161, go_sem])
  exact hk
theorem c_toLotS (xs : List Lot) (hn : xs.length ≤ 1000000000) (K : AV → AH → Prop) (hk : K (.one (.sl 0 0 0 xs.length)) [.own 0 112 5 (some xs.length) (xs.map lotC)]) : ACalls Tryz.prog 79 [(.one (.im (xs.map lotC)))] [] K := by
  refine acall_c Tryz.f79.results.toList mixed Tryz.func79 rfl rfl (by kernel_rfl) ?_
  intro Q hQ hQO
  simp only [go_sem]
  refine ⟨by omega, Nat.le_trans hn (by decide), ?_⟩
  refine for_at (xs.length) [0, 3] (fun i f h => f 4 = (.one (.c (.int .i64 (i)))) ∧ h = [.own 0 112 5 (some xs.length) ((fillR (fun j => xs[j]?.getD ⟨0, 0, 0, 0, 0⟩) (List.replicate xs.length ⟨0, 0, 0, 0, 0⟩) i).map lotC)]) (GC.now ?_) ?_
  · simp only [go_sem, nc_0, true_and, fill_0]
  · rintro i f h J hi hA ⟨e4, rfl⟩ hJ
    simp only [go_sem, fill_0] at hA
    simp only [go_sem, hA, e4, fill_0]
    refine c_split (fun hb => ?_) (fun hb => ?_)
    rotate_left
    · simp only [go_sem, hb, hA, e4, fill_0]
      obtain rfl := ge_len hb hi
      (try simp only [go_sem, hA, e4, fill_0, fill_copy xs _ _ List.length_replicate]); repeat' (first | (with_reducible first | refine c_split ?_ ?_ | refine w_split ?_ ?_) <;> intro hb <;> try simp only [go_sem, hb, hA, e4, fill_0, fill_copy xs _ _ List.length_replicate] | fail)
      refine hQO [0] _ _ (GC.now ?_) <;> simp only [Tryz.f79, go_sem, List.nodup_cons, List.nodup_nil, List.mem_cons, List.not_mem_nil, or_false, not_false_eq_true, List.idxOf?_cons, List.idxOf?_nil, Option.map_none]
      exact hk
    have hi := lt_len hb
    have hw := wrap_nat i (by omega)
    have hil : (i : Int) < ((xs.length : Nat) : Int) := Int.ofNat_lt.2 hi
    have hg0 : (xs)[i]? = some ((xs)[i]) := List.getElem?_eq_getElem (by omega)
    simp only [go_sem, hb, hA, e4, fill_0, hg0]
    try simp only [go_sem, hA, e4, fill_0, hil, hg0]
    have hold := fill_get (fun j => xs[j]?.getD (⟨0, 0, 0, 0, 0⟩ : Lot)) (List.replicate xs.length ⟨0, 0, 0, 0, 0⟩) i
    rw [List.getElem?_replicate, if_pos hi] at hold
    have hset := fill_set (fun j => xs[j]?.getD (⟨0, 0, 0, 0, 0⟩ : Lot)) (List.replicate xs.length ⟨0, 0, 0, 0, 0⟩) i (by simpa using hi) xs[i] (by rw [hg0]; rfl)
    (try simp only [go_sem, hA, e4, fill_0, hil, hg0, hold]); repeat' (first | (with_reducible first | refine c_split ?_ ?_ | refine w_split ?_ ?_) <;> intro hb <;> try simp only [go_sem, hb, hA, e4, fill_0, hil, hg0, hold] | refine call_c (c_toLot _ _ ?_) <;> try simp only [go_sem, hA, e4, fill_0, hil, hg0, hold] | fail)
    refine gc_trim 1 (by decide) (by simp only [go_sem]) (by simp only [go_sem]) (hJ _ _ hi (by simp only [go_sem, hA, e4, fill_0]) ⟨?_, ?_⟩) <;> try simp only [go_sem, hA, e4, fill_0, hw, hset]
theorem c_szLotS (xs : List Lot) (left : Int) (hn : xs.length ≤ 1000000000000000) (h0 : 0 ≤ left) (h1 : left ≤ 1048576) (K : AV → AH → Prop) (hk : ∀ r, (0 ≤ r → r = left - xs.length) → K (.one (.c (.int .i64 (r)))) []) : ACalls Tryz.prog 71 [(.one (.im (xs.map lotC))), (.one (.c (.int .i64 (left))))] [] K := by
  refine acall_c Tryz.f71.results.toList mixed Tryz.func71 rfl rfl (by kernel_rfl) ?_
  intro Q hQ hQO
  simp only [go_sem]
  (try simp only [go_sem]); repeat' (first | (with_reducible first | refine c_split ?_ ?_ | refine w_split ?_ ?_) <;> intro hb <;> try simp only [go_sem, hb] | with_reducible refine hQ _ _ ?_ <;> simp only [Tryz.f71, go_sem])
  · exact hk _ (by intro q; omega)
  · exact hk _ (by intro q; unfold wrap64; omega)
theorem c_eqLot (x : Lot) (K : AV → AH → Prop) (hk : K (.one (.c (.bool (true)))) []) : ACalls Tryz.prog 181 [.agg (lotC x), .agg (lotC x)] [] K := by
  refine acall_c Tryz.f181.results.toList mixed Tryz.func181 rfl rfl (by kernel_rfl) ?_
  intro Q hQ hQO
  simp only [go_sem, BEq.rfl]
  (try simp only [go_sem, BEq.rfl]); repeat' (first | (with_reducible first | refine c_split ?_ ?_ | refine w_split ?_ ?_) <;> intro hb <;> try simp only [go_sem, hb, BEq.rfl] | with_reducible refine hQ _ _ ?_ <;> simp only [Tryz.f181, go_sem, BEq.rfl])
  exact hk
theorem c_eqLotS (xs : List Lot) (hn : xs.length ≤ 1000000000) (K : AV → AH → Prop) (hk : K (.one (.c (.bool (true)))) []) : ACalls Tryz.prog 86 [(.one (.im (xs.map lotC))), (.one (.im (xs.map lotC)))] [] K := by
  refine acall_c Tryz.f86.results.toList mixed Tryz.func86 rfl rfl (by kernel_rfl) ?_
  intro Q hQ hQO
  simp only [go_sem, BEq.rfl]
  refine for_at (xs.length) [0, 1] (fun i f h => f 5 = (.one (.c (.int .i64 (i)))) ∧ h = []) (GC.now ?_) ?_
  · simp only [go_sem, nc_0, true_and, BEq.rfl]
  · rintro i f h J hi hA ⟨e5, rfl⟩ hJ
    simp only [go_sem, BEq.rfl] at hA
    simp only [go_sem, hA, e5, BEq.rfl]
    refine c_split (fun hb => ?_) (fun hb => ?_)
    rotate_left
    · simp only [go_sem, hb, hA, e5, BEq.rfl]
      obtain rfl := ge_len hb hi
      (try simp only [go_sem, hA, e5, BEq.rfl]); repeat' (first | (with_reducible first | refine c_split ?_ ?_ | refine w_split ?_ ?_ | refine tw_split ?_ ?_) <;> intro hb <;> try simp only [go_sem, hb, hA, e5, BEq.rfl] | with_reducible refine d86_0_LRec (by with_unfolding_all rfl) (by kernel_rfl) ?_ <;> try simp only [go_sem, hA, e5, BEq.rfl] | with_reducible refine hQ _ _ ?_ <;> simp only [Tryz.f86, go_sem, hA, e5, BEq.rfl])
      exact hk
    have hi := lt_len hb
    have hw := wrap_nat i (by omega)
    have hil : (i : Int) < ((xs.length : Nat) : Int) := Int.ofNat_lt.2 hi
    have hg0 : (xs)[i]? = some ((xs)[i]) := List.getElem?_eq_getElem (by omega)
    simp only [go_sem, hb, hA, e5, BEq.rfl, hg0]
    try simp only [go_sem, hA, e5, BEq.rfl, hil, hg0]
    (try simp only [go_sem, hA, e5, BEq.rfl, hil, hg0]); repeat' (first | (with_reducible first | refine c_split ?_ ?_ | refine w_split ?_ ?_ | refine tw_split ?_ ?_) <;> intro hb <;> try simp only [go_sem, hb, hA, e5, BEq.rfl, hil, hg0] | (first | with_reducible refine d86_0_LRec (by with_unfolding_all rfl) (by kernel_rfl) ?_ | refine call_c (c_eqLot _ _ ?_) | fail) <;> try simp only [go_sem, hA, e5, BEq.rfl, hil, hg0] | fail)
    refine GC.now (hJ _ _ hi (by simp only [go_sem, hA, e5, BEq.rfl]) ⟨?_, ?_⟩) <;> try simp only [go_sem, hA, e5, BEq.rfl, hw]
structure Trade where
  no : Int
  buyer : Int
  seller : Int
  paper : Int
  qty : Int
  cash : Int
  price : Int
  state : Int
def tradeC (x : Trade) : List CV := [.c (.int .i64 (x.no)), .c (.int .i64 (x.buyer)), .c (.int .i64 (x.seller)), .c (.int .i64 (x.paper)), .c (.int .i64 (x.qty)), .c (.int .i64 (x.cash)), .c (.int .i64 (x.price)), .c (.int .i64 (x.state))]
attribute [local go_sem] tradeC
theorem tradeC_set (xs : List (Trade)) (q : Nat) (a0 a1 a2 a3 a4 a5 a6 a7 : Int) : (xs.map tradeC).set q [.c (.int .i64 (a0)), .c (.int .i64 (a1)), .c (.int .i64 (a2)), .c (.int .i64 (a3)), .c (.int .i64 (a4)), .c (.int .i64 (a5)), .c (.int .i64 (a6)), .c (.int .i64 (a7))] = (xs.set q (⟨a0, a1, a2, a3, a4, a5, a6, a7⟩ : Trade)).map tradeC := by rw [List.map_set]; rfl
theorem tradeC_rep (q : Nat) (a0 a1 a2 a3 a4 a5 a6 a7 : Int) : List.replicate q [.c (.int .i64 (a0)), .c (.int .i64 (a1)), .c (.int .i64 (a2)), .c (.int .i64 (a3)), .c (.int .i64 (a4)), .c (.int .i64 (a5)), .c (.int .i64 (a6)), .c (.int .i64 (a7))] = (List.replicate q (⟨a0, a1, a2, a3, a4, a5, a6, a7⟩ : Trade)).map tradeC := map_rep _ _ _ _ rfl
theorem tradeC_tk (xs : List (Trade)) : (xs.map tradeC).take xs.length = xs.map tradeC := List.take_of_length_le (by simp)
attribute [go_sem] tradeC_tk tradeC_set tradeC_rep
instance : Inhabited Trade := ⟨⟨0, 0, 0, 0, 0, 0, 0, 0⟩⟩
theorem c_toTrade (x : Trade) (K : AV → AH → Prop) (hk : K (.agg (tradeC x)) []) : ACalls Tryz.prog 162 [.agg (tradeC x)] [] K := by
  refine acall_c Tryz.f162.results.toList mixed Tryz.func162 rfl rfl (by kernel_rfl) ?_
  intro Q hQ hQO
  simp only [go_sem]
  (try simp only [go_sem]); repeat' (first | (with_reducible first | refine c_split ?_ ?_ | refine w_split ?_ ?_) <;> intro hb <;> try simp only [go_sem, hb] | with_reducible refine hQ _ _ ?_ <;> simp only [Tryz.f162, go_sem])
  exact hk
theorem c_toTradeS (xs : List Trade) (hn : xs.length ≤ 1000000000) (K : AV → AH → Prop) (hk : K (.one (.sl 0 0 0 xs.length)) [.own 0 115 8 (some xs.length) (xs.map tradeC)]) : ACalls Tryz.prog 80 [(.one (.im (xs.map tradeC)))] [] K := by
  refine acall_c Tryz.f80.results.toList mixed Tryz.func80 rfl rfl (by kernel_rfl) ?_
  intro Q hQ hQO
  simp only [go_sem]
  refine ⟨by omega, Nat.le_trans hn (by decide), ?_⟩
  refine for_at (xs.length) [0, 3] (fun i f h => f 4 = (.one (.c (.int .i64 (i)))) ∧ h = [.own 0 115 8 (some xs.length) ((fillR (fun j => xs[j]?.getD ⟨0, 0, 0, 0, 0, 0, 0, 0⟩) (List.replicate xs.length ⟨0, 0, 0, 0, 0, 0, 0, 0⟩) i).map tradeC)]) (GC.now ?_) ?_
  · simp only [go_sem, nc_0, true_and, fill_0]
  · rintro i f h J hi hA ⟨e4, rfl⟩ hJ
    simp only [go_sem, fill_0] at hA
    simp only [go_sem, hA, e4, fill_0]
    refine c_split (fun hb => ?_) (fun hb => ?_)
    rotate_left
    · simp only [go_sem, hb, hA, e4, fill_0]
      obtain rfl := ge_len hb hi
      (try simp only [go_sem, hA, e4, fill_0, fill_copy xs _ _ List.length_replicate]); repeat' (first | (with_reducible first | refine c_split ?_ ?_ | refine w_split ?_ ?_) <;> intro hb <;> try simp only [go_sem, hb, hA, e4, fill_0, fill_copy xs _ _ List.length_replicate] | fail)
      refine hQO [0] _ _ (GC.now ?_) <;> simp only [Tryz.f80, go_sem, List.nodup_cons, List.nodup_nil, List.mem_cons, List.not_mem_nil, or_false, not_false_eq_true, List.idxOf?_cons, List.idxOf?_nil, Option.map_none]
      exact hk
    have hi := lt_len hb
    have hw := wrap_nat i (by omega)
    have hil : (i : Int) < ((xs.length : Nat) : Int) := Int.ofNat_lt.2 hi
    have hg0 : (xs)[i]? = some ((xs)[i]) := List.getElem?_eq_getElem (by omega)
    simp only [go_sem, hb, hA, e4, fill_0, hg0]
    try simp only [go_sem, hA, e4, fill_0, hil, hg0]
    have hold := fill_get (fun j => xs[j]?.getD (⟨0, 0, 0, 0, 0, 0, 0, 0⟩ : Trade)) (List.replicate xs.length ⟨0, 0, 0, 0, 0, 0, 0, 0⟩) i
    rw [List.getElem?_replicate, if_pos hi] at hold
    have hset := fill_set (fun j => xs[j]?.getD (⟨0, 0, 0, 0, 0, 0, 0, 0⟩ : Trade)) (List.replicate xs.length ⟨0, 0, 0, 0, 0, 0, 0, 0⟩) i (by simpa using hi) xs[i] (by rw [hg0]; rfl)
    (try simp only [go_sem, hA, e4, fill_0, hil, hg0, hold]); repeat' (first | (with_reducible first | refine c_split ?_ ?_ | refine w_split ?_ ?_) <;> intro hb <;> try simp only [go_sem, hb, hA, e4, fill_0, hil, hg0, hold] | refine call_c (c_toTrade _ _ ?_) <;> try simp only [go_sem, hA, e4, fill_0, hil, hg0, hold] | fail)
    refine gc_trim 1 (by decide) (by simp only [go_sem]) (by simp only [go_sem]) (hJ _ _ hi (by simp only [go_sem, hA, e4, fill_0]) ⟨?_, ?_⟩) <;> try simp only [go_sem, hA, e4, fill_0, hw, hset]
theorem c_szTradeS (xs : List Trade) (left : Int) (hn : xs.length ≤ 1000000000000000) (h0 : 0 ≤ left) (h1 : left ≤ 1048576) (K : AV → AH → Prop) (hk : ∀ r, (0 ≤ r → r = left - xs.length) → K (.one (.c (.int .i64 (r)))) []) : ACalls Tryz.prog 72 [(.one (.im (xs.map tradeC))), (.one (.c (.int .i64 (left))))] [] K := by
  refine acall_c Tryz.f72.results.toList mixed Tryz.func72 rfl rfl (by kernel_rfl) ?_
  intro Q hQ hQO
  simp only [go_sem]
  (try simp only [go_sem]); repeat' (first | (with_reducible first | refine c_split ?_ ?_ | refine w_split ?_ ?_) <;> intro hb <;> try simp only [go_sem, hb] | with_reducible refine hQ _ _ ?_ <;> simp only [Tryz.f72, go_sem])
  · exact hk _ (by intro q; omega)
  · exact hk _ (by intro q; unfold wrap64; omega)
theorem c_eqTrade (x : Trade) (K : AV → AH → Prop) (hk : K (.one (.c (.bool (true)))) []) : ACalls Tryz.prog 182 [.agg (tradeC x), .agg (tradeC x)] [] K := by
  refine acall_c Tryz.f182.results.toList mixed Tryz.func182 rfl rfl (by kernel_rfl) ?_
  intro Q hQ hQO
  simp only [go_sem, BEq.rfl]
  (try simp only [go_sem, BEq.rfl]); repeat' (first | (with_reducible first | refine c_split ?_ ?_ | refine w_split ?_ ?_) <;> intro hb <;> try simp only [go_sem, hb, BEq.rfl] | with_reducible refine hQ _ _ ?_ <;> simp only [Tryz.f182, go_sem, BEq.rfl])
  exact hk
theorem c_eqTradeS (xs : List Trade) (hn : xs.length ≤ 1000000000) (K : AV → AH → Prop) (hk : K (.one (.c (.bool (true)))) []) : ACalls Tryz.prog 87 [(.one (.im (xs.map tradeC))), (.one (.im (xs.map tradeC)))] [] K := by
  refine acall_c Tryz.f87.results.toList mixed Tryz.func87 rfl rfl (by kernel_rfl) ?_
  intro Q hQ hQO
  simp only [go_sem, BEq.rfl]
  refine for_at (xs.length) [0, 1] (fun i f h => f 5 = (.one (.c (.int .i64 (i)))) ∧ h = []) (GC.now ?_) ?_
  · simp only [go_sem, nc_0, true_and, BEq.rfl]
  · rintro i f h J hi hA ⟨e5, rfl⟩ hJ
    simp only [go_sem, BEq.rfl] at hA
    simp only [go_sem, hA, e5, BEq.rfl]
    refine c_split (fun hb => ?_) (fun hb => ?_)
    rotate_left
    · simp only [go_sem, hb, hA, e5, BEq.rfl]
      obtain rfl := ge_len hb hi
      (try simp only [go_sem, hA, e5, BEq.rfl]); repeat' (first | (with_reducible first | refine c_split ?_ ?_ | refine w_split ?_ ?_ | refine tw_split ?_ ?_) <;> intro hb <;> try simp only [go_sem, hb, hA, e5, BEq.rfl] | with_reducible refine d87_0_LRec (by with_unfolding_all rfl) (by kernel_rfl) ?_ <;> try simp only [go_sem, hA, e5, BEq.rfl] | with_reducible refine hQ _ _ ?_ <;> simp only [Tryz.f87, go_sem, hA, e5, BEq.rfl])
      exact hk
    have hi := lt_len hb
    have hw := wrap_nat i (by omega)
    have hil : (i : Int) < ((xs.length : Nat) : Int) := Int.ofNat_lt.2 hi
    have hg0 : (xs)[i]? = some ((xs)[i]) := List.getElem?_eq_getElem (by omega)
    simp only [go_sem, hb, hA, e5, BEq.rfl, hg0]
    try simp only [go_sem, hA, e5, BEq.rfl, hil, hg0]
    (try simp only [go_sem, hA, e5, BEq.rfl, hil, hg0]); repeat' (first | (with_reducible first | refine c_split ?_ ?_ | refine w_split ?_ ?_ | refine tw_split ?_ ?_) <;> intro hb <;> try simp only [go_sem, hb, hA, e5, BEq.rfl, hil, hg0] | (first | with_reducible refine d87_0_LRec (by with_unfolding_all rfl) (by kernel_rfl) ?_ | refine call_c (c_eqTrade _ _ ?_) | fail) <;> try simp only [go_sem, hA, e5, BEq.rfl, hil, hg0] | fail)
    refine GC.now (hJ _ _ hi (by simp only [go_sem, hA, e5, BEq.rfl]) ⟨?_, ?_⟩) <;> try simp only [go_sem, hA, e5, BEq.rfl, hw]
structure Books where
  accounts : List Account
  instrs : List Account
  bals : List Bal
  lots : List Lot
  trades : List Trade
  lot : Int
def booksC (b : Books) : List CV := [.im (b.accounts.map accountC), .im (b.instrs.map accountC), .im (b.bals.map balC), .im (b.lots.map lotC), .im (b.trades.map tradeC), .c (.int .i64 (b.lot))]
end Go.Proofs.YtkndmncgohmjmaaGreat
end
