/- The weakest precondition of code over owned objects, and that the machine meets it; steps that only tell anew. Conditions: none. -/
import Derived.Test.YtedkpjaojdkpcaaGreatL7
namespace Go.BL
open Go.RowKit
set_option linter.unusedVariables false
set_option linter.unusedSimpArgs false

inductive AExit where
  | normal
  | exit (id : Nat)
  | ret
theorem Br.intro {b : Bool} {x y : Unit → Prop} (h1 : b = true → x ()) (h2 : b = false → y ()) : Br b x y := by cases b; exact h2 rfl; exact h1 rfl
theorem Br_true (x y : Unit → Prop) : Br true x y = x () := rfl
theorem Br_false (x y : Unit → Prop) : Br false x y = y () := rfl
def AExit.then (N : AF → AH → Prop) (Q : AExit → AF → AH → Prop) : AExit → AF → AH → Prop
  | .normal, f, h => N f h
  | e, f, h => Q e f h
def AExit.inBlock (id : Nat) (Q : AExit → AF → AH → Prop) : AExit → AF → AH → Prop
  | .exit id', f, h => if id' = id then Q .normal f h else Q (.exit id') f h
  | e, f, h => Q e f h

/-! ### Steps that only tell anew -/
theorem grow2 {p p' p'' : Pl} (h : p' = p ∨ p.g < p'.g) (h' : p'' = p' ∨ p'.g < p''.g) : p'' = p ∨ p.g < p''.g := by
  rcases h with rfl | h <;> rcases h' with rfl | h'
  · exact .inl rfl
  · exact .inr h'
  · exact .inr h
  · exact .inr (Nat.lt_trans h h')
/-- What is told of a world may be told so as well; objects below m keep their places. -/
def Ghost (m : Nat) (f : AF) (h : AH) (f' : AF) (h' : AH) : Prop :=
  ∀ G φ M w, Rep G φ M h w → ∃ φ' M', Rep G φ' M' h' w ∧ MLe M M' ∧ (∀ l p, l < m → φ l = some p → ∃ p', φ' l = some p' ∧ (p' = p ∨ p.g < p'.g)) ∧ ∀ r u, VA φ M (f r) u → VA φ' M' (f' r) u
theorem Ghost.refl (m : Nat) (f : AF) (h : AH) : Ghost m f h f h := fun G φ M w R => ⟨φ, M, R, MLe.refl _, fun _ p _ h => ⟨p, h, .inl rfl⟩, fun _ _ h => h⟩
theorem Ghost.trans {m : Nat} {f f' f'' : AF} {h h' h'' : AH} (H : Ghost m f h f' h') (H' : Ghost m f' h' f'' h'') : Ghost m f h f'' h'' := fun G φ M w R => by
  obtain ⟨φ', M', R', hM, hp, hv⟩ := H G φ M w R
  obtain ⟨φ'', M'', R'', hM', hp', hv'⟩ := H' G φ' M' w R'
  exact ⟨φ'', M'', R'', hM.trans hM', fun l p hl h => let ⟨p', h1, h2⟩ := hp l p hl h; let ⟨p'', h3, h4⟩ := hp' l p' hl h1; ⟨p'', h3, grow2 h2 h4⟩, fun r u h => hv' r u (hv r u h)⟩
def GC (m : Nat) (N : AF → AH → Prop) (f : AF) (h : AH) : Prop := ∃ f' h', Ghost m f h f' h' ∧ N f' h'
theorem GC.now {m : Nat} {N : AF → AH → Prop} {f : AF} {h : AH} (H : N f h) : GC m N f h := ⟨f, h, Ghost.refl _ _ _, H⟩
theorem GC.mono {m : Nat} {N N' : AF → AH → Prop} (hn : ∀ f h, N f h → N' f h) {f : AF} {h : AH} (H : GC m N f h) : GC m N' f h := let ⟨f', h', g, k⟩ := H; ⟨f', h', g, hn _ _ k⟩
theorem GC.step {m : Nat} {N : AF → AH → Prop} {f f' : AF} {h h' : AH} (g : Ghost m f h f' h') (H : GC m N f' h') : GC m N f h := let ⟨f2, h2, g2, k⟩ := H; ⟨f2, h2, g.trans g2, k⟩

abbrev DS := List (Option Nat)
def gslot (ds : DS) (f : AF) (j : Nat) : AV := match ds[j]? with | some (some d) => f d | _ => undefA
def wantB (v : AV) (t : Bool) (x y : Unit → Prop) : Prop := match v with | .one (.c (.bool b)) => Br (b == t) x y | .one (.c .nilFunc) => y () | _ => v = undefA ∧ y ()
def wantA (ds : DS) (f : AF) (g : Option (Nat × Bool)) (x y : Unit → Prop) : Prop :=
  match g with
  | none => x ()
  | some (j, t) => wantB (gslot ds f j) t x y
def aops (P : Program) (ds : DS) : List Oper → (AF → AH → Prop) → AF → AH → Prop
  | [], K, f, h => K f h
  | o :: r, K, f, h => wantA ds f o.guard (fun _ => aop P o.op f h fun v h' => aops P ds r K (put f o.dst v) h') (fun _ => aops P ds r K (put f o.dst undefA) h)
/-- What a load leaves to be kept. -/
def prAdd (v : AV × Option Nat) (h : AH) (pr : List (Nat × Option AO)) : List (Nat × Option AO) := match v.2 with
  | some l => (match h[l]? with | some (.own g t k cap es) => (l, if plainA v.1 = true then some (.own g t k cap es) else none) :: pr | _ => pr)
  | none => pr
def prOk (op : Op) (f : AF) (h' : AH) (p : Nat × Option AO) : Prop := match p.2 with
  | none => touchA op f p.1 = false
  | some ob => h'[p.1]? = some ob
/-- Where the operation isn't carried out. -/
def prOk0 (h' : AH) (p : Nat × Option AO) : Prop := match p.2 with
  | none => True
  | some ob => h'[p.1]? = some ob
/-- Behind an operation that leaves all objects but some. -/
def prOkF (q : List Nat) (h' : AH) (p : Nat × Option AO) : Prop := match p.2 with
  | none => (decide (p.1 ∈ q)) = false
  | some ob => h'[p.1]? = some ob
/-- All that are carried out yet wait for all that was taken. -/
def allSy (L : List (Nat × Bool × Bool)) : Bool := L.all fun e => e.2.1 || e.2.2
def adraw (P : Program) (ds : DS) (ops : Array Oper) : List (Nat × Bool × Bool) → (AF → AH → Prop) → AF → AH → List (Nat × Option AO) → Prop
  | [], K, f, h, _ => K f h
  | (i, tk, sy) :: r, K, f, h, pr => match ops[i]? with
    | none => False
    | some o => match tk with
      | true => wantA ds f o.guard
          (fun _ => On (takeA P o.op f h) fun v => adraw P ds ops r K (put f o.dst v.1) h (prAdd v h pr))
          (fun _ => adraw P ds ops r K (put f o.dst undefA) h pr)
      | false => wantA ds f o.guard
          (fun _ => aop2 P o.op f h (fun v h' => ((sy && allSy r) = true ∨ ∀ p ∈ pr, prOk o.op f h' p) ∧ adraw P ds ops r K (put f o.dst v) h' pr) (fun v h' => ((sy && allSy r) = true ∨ ∀ p ∈ pr, prOk0 h' p) ∧ adraw P ds ops r K (put f o.dst v) h' pr) (fun q v h' => ((sy && allSy r) = true ∨ ∀ p ∈ pr, prOkF q h' p) ∧ adraw P ds ops r K (put f o.dst v) h' pr))
          (fun _ => ((sy && allSy r) = true ∨ ∀ p ∈ pr, prOk0 h p) ∧ adraw P ds ops r K (put f o.dst undefA) h pr)
def dsts (ops : Array Oper) : DS := ops.toList.map (·.dst)
/-- Operation j waits for operation i. -/
def waits (ops : Array Oper) (j i : Nat) : Bool := match ops[j]? with | some o => o.after.any fun e => Region.binds .any e && e.on == i | none => false
/-- Operation j waits for operation i, itself or through others. -/
inductive Dep (ops : Array Oper) : Nat → Nat → Prop
  | d {j i : Nat} (h : waits ops j i = true) : Dep ops j i
  | t {j k i : Nat} (h : waits ops j k = true) (h' : Dep ops k i) : Dep ops j i
/-- Operation i reads what stands in the heap. -/
def isLoad (ops : Array Oper) (i : Nat) : Bool := match ops[i]? with | some o => loadOp o.op | none => false
def schedGo (T : Nat → Bool) (ops : Array Oper) : List (Nat × Bool × Bool) → Array Bool → List Nat → List Nat → Bool
  | [], listed, _, _ => (Region.ready .any ops listed).isEmpty
  | (i, tk, sy) :: r, listed, tks, sys => (Region.ready .any ops listed).contains i && (tk == T i) && (if tk then Region.free .any ops listed i else Region.ready .any ops listed == [i]) && (!sy || (tks.all (waits ops i) || sys.any (waits ops i))) &&
      schedGo T ops r (listed.setIfInBounds i true) (if tk && isLoad ops i then i :: tks else tks) (if tk && isLoad ops i then [] else if !tk && sy then i :: sys else sys)
def schedOk (ops : Array Oper) (L : List (Nat × Bool × Bool)) : Bool := Region.noSelect ops && L.length == ops.size && schedGo (fun i => L.any fun e => e.1 == i && e.2.1) ops L (Array.replicate ops.size false) [] []
/-- Whatever is listed, what it waits for is listed. -/
def closedL (ops : Array Oper) (listed : Array Bool) : Prop := ∀ k i, listed.getD k false = true → waits ops k i = true → listed.getD i false = true
theorem waits_ready {ops : Array Oper} {listed : Array Bool} {j i : Nat} (hj : j ∈ Region.ready .any ops listed) (hw : waits ops j i = true) : listed.getD i false = true := by
  obtain ⟨_, oj, hoj, hall⟩ := mem_ready.1 hj
  unfold waits at hw
  rw [hoj] at hw
  simp only [Array.any_eq_true] at hw
  obtain ⟨x, hx, he⟩ := hw
  simp only [Bool.and_eq_true, beq_iff_eq] at he
  rw [← he.2]
  exact hall _ (Array.getElem_mem hx) he.1
theorem closed_set {ops : Array Oper} {listed : Array Bool} {j : Nat} (hc : closedL ops listed) (hj : j ∈ Region.ready .any ops listed) : closedL ops (listed.setIfInBounds j true) := fun k i hk hw => by
  by_cases e : j = k
  · subst e; exact getD_set_true (waits_ready hj hw)
  · rw [getD_set_ne false e] at hk
    exact getD_set_true (hc k i hk hw)
theorem dep_listed {ops : Array Oper} {listed : Array Bool} (hc : closedL ops listed) {k i : Nat} (hd : Dep ops k i) (hk : listed.getD k false = true) : listed.getD i false = true := by
  induction hd with
  | d h => exact hc _ _ hk h
  | t h _ ih => exact ih (hc _ _ hk h)
theorem not_dep {ops : Array Oper} {listed : Array Bool} (hc : closedL ops listed) {j i : Nat} (hj : j ∈ Region.ready .any ops listed) (hi : i ∈ Region.ready .any ops listed) : ¬ Dep ops j i := fun hd => by
  have h1 : listed.getD i false = true := by
    cases hd with
    | d h => exact waits_ready hj h
    | t h h' => exact dep_listed hc h' (waits_ready hj h)
  have h0 := (mem_ready.1 hi).1
  rcases Nat.lt_or_ge i listed.size with h' | h'
  · simp [h'] at h0 h1; rw [h0] at h1; cases h1
  · simp [Array.getElem?_eq_none h'] at h1

def awp (P : Program) (m : Nat) : Code → (AExit → AF → AH → Prop) → AF → AH → Prop
  | .skip, Q, f, h => Q .normal f h
  | .region _ ops false, Q, f, h => aops P (dsts ops) ops.toList (Q .normal) f h
  | .region _ ops true, Q, f, h => ∃ L, schedOk ops L = true ∧ adraw P (dsts ops) ops L (Q .normal) f h []
  | .seq x y, Q, f, h => awp P m x (AExit.then (fun f h => awp P m y Q f h) Q) f h
  | .cond c x y, Q, f, h => (match ev f c with | .one (.c (.bool b)) => Br b (fun _ => awp P m x Q f h) (fun _ => awp P m y Q f h) | _ => False)
  | .block id b, Q, f, h => awp P m b (AExit.inBlock id Q) f h
  | .loop b, Q, f, h => ∃ (I : Nat → AF → AH → Prop) (k : Nat), GC m (I k) f h ∧ ∀ k f h, I k f h → awp P m b (AExit.then (GC m fun f' h' => ∃ k', k' < k ∧ I k' f' h') Q) f h
  | .exit id, Q, f, h => Q (.exit id) f h
  | .ret, Q, f, h => Q .ret f h
  | _, _, _, _ => False

def opndB (n : Nat) : Operand → Bool
  | .tmp t => t < n
  | _ => true
def operB (n : Nat) (o : Oper) : Bool := o.op.operands.all (opndB n) && (match o.dst with | some d => decide (d < n) | none => true)
def codeB (n : Nat) : Code → Bool
  | .region _ ops _ => ops.all (operB n)
  | .seq x y => codeB n x && codeB n y
  | .cond c x y => opndB n c && codeB n x && codeB n y
  | .block _ b => codeB n b
  | .loop b => codeB n b
  | _ => true

section
variable {P : Program} {G : Cx} {φ0 : Phi} {m n : Nat}
/-- What a state of the machine is told by. -/
def St (G : Cx) (φ0 : Phi) (n : Nat) (N : AF → AH → Prop) (a : Act) (w : World) : Prop :=
  ∃ f h φ M, N f h ∧ Rep G φ M h w ∧ FOk n φ M f a ∧ Le φ0 φ
theorem St.mono {N N' : AF → AH → Prop} {a : Act} {w : World} (H : St G φ0 n N a w) (hn : ∀ f h, N f h → N' f h) : St G φ0 n N' a w :=
  let ⟨f, h, φ, M, k, r⟩ := H; ⟨f, h, φ, M, hn f h k, r⟩
theorem St.ghost (h0 : ∀ l p, φ0 l = some p → l < m) {N : AF → AH → Prop} {a : Act} {w : World} (H : St G φ0 n (GC m N) a w) : St G φ0 n N a w := by
  obtain ⟨f, h, φ, M, ⟨f', h', g, k⟩, R, F, hle⟩ := H
  obtain ⟨φ', M', R', hM, hp, hv⟩ := g G φ M w R
  refine ⟨f', h', φ', M', k, R', ⟨F.size, fun i hi => ?_, F.defers⟩, fun l p hl => ?_⟩
  · obtain ⟨u, h1, h2⟩ := F.val i hi
    exact ⟨u, h1, hv _ _ h2⟩
  · obtain ⟨p', h1, h2⟩ := hle l p hl
    obtain ⟨p'', h3, h4⟩ := hp l p' (h0 l p hl) h1
    exact ⟨p'', h3, grow2 h2 h4⟩
def QQ (G : Cx) (φ0 : Phi) (n : Nat) (Q : AExit → AF → AH → Prop) : Exit → Act → World → Prop
  | .normal, a, w => St G φ0 n (Q .normal) a w
  | .exit id, a, w => St G φ0 n (Q (.exit id)) a w
  | .ret, a, w => St G φ0 n (Q .ret) a w
  | _, _, _ => False
theorem FOk.put {φ : Phi} {M : Im} {f : AF} {a : Act} (F : FOk n φ M f a) {dst : Option Nat} (hd : ∀ d, dst = some d → d < n) {v : AV} {u : Value} (hv : VA φ M v u) : FOk n φ M (put f dst v) (a.put dst u) := by
  cases dst with
  | none => exact F
  | some d =>
    have hd := hd d rfl
    refine ⟨by simp [Act.put, F.size], fun i hi => ?_, F.defers⟩
    simp only [Act.put, BL.put, upd]
    by_cases e : i = d
    · subst e; exact ⟨u, by simp [F.size, hi], by rw [if_pos rfl]; exact hv⟩
    · obtain ⟨u', h1, h2⟩ := F.val i hi
      exact ⟨u', by rw [Array.getElem?_setIfInBounds_ne (Ne.symm e)]; exact h1, by rw [if_neg e]; exact h2⟩
theorem want_spec {ops : Array Oper} {φ : Phi} {M : Im} {f : AF} {a : Act} (F : FOk n φ M f a) (hB : ops.all (operB n) = true) (o : Oper) {x y : Unit → Prop} (H : wantA (dsts ops) f o.guard x y) :
    (Region.wanted o (yielded ops a.tmps) = true ∧ x ()) ∨ (Region.wanted o (yielded ops a.tmps) = false ∧ y ()) := by
  unfold wantA at H
  unfold Region.wanted
  split at H
  · rename_i hg
    rw [hg]
    exact .inl ⟨rfl, H⟩
  · rename_i j t hg
    rw [hg]
    simp only [yielded]
    have hds : (dsts ops)[j]? = (ops[j]?).map (·.dst) := by unfold dsts; rw [List.getElem?_map, Array.getElem?_toList]
    unfold gslot at H
    rw [hds] at H
    have hu : ∀ x y : Unit → Prop, wantB undefA t x y → y () := fun x y hh => by
      unfold wantB undefA at hh
      first | exact hh | exact hh.2
    cases hoj : ops[j]? with
    | none =>
      rw [hoj] at H
      simp only [Option.map_none] at H
      exact .inr ⟨rfl, hu _ _ H⟩
    | some oj =>
      rw [hoj] at H
      simp only [Option.map_some] at H
      cases hd : oj.dst with
      | none =>
        rw [hd] at H
        simp only at H
        simp only [Option.bind_some, hd, Option.bind_none]
        exact .inr ⟨rfl, hu _ _ H⟩
      | some d =>
        rw [hd] at H
        simp only at H
        have hdn : d < n := by
          have := (Array.all_eq_true.1 hB) j (Array.getElem?_eq_some_iff.1 hoj).1
          rw [(Array.getElem?_eq_some_iff.1 hoj).2] at this
          simp only [operB, hd, Bool.and_eq_true, decide_eq_true_eq] at this
          exact this.2
        obtain ⟨u, hv, hu2⟩ := F.val d hdn
        simp only [Option.bind_some, hd, hv]
        unfold wantB at H
        split at H
        · rename_i b hfd
          rw [hfd] at hu2
          have := VA_c hu2
          subst this
          cases b <;> cases t <;> first | exact .inl ⟨rfl, H⟩ | exact .inr ⟨rfl, H⟩
        · rename_i hfd
          rw [hfd] at hu2
          have := VA_c hu2
          subst this
          exact .inr ⟨rfl, H⟩
        · obtain ⟨hfd, H⟩ := H
          rw [hfd] at hu2
          have := VA_c hu2
          subst this
          exact .inr ⟨rfl, H⟩
theorem oper_bnd {o : Oper} (h : operB n o = true) : (∀ t, Operand.tmp t ∈ o.op.operands → t < n) ∧ ∀ d, o.dst = some d → d < n := by
  unfold operB at h
  rw [Bool.and_eq_true] at h
  refine ⟨fun t ht => ?_, fun d hd => ?_⟩
  · have := (Array.all_eq_true_iff_forall_mem.1 h.1) _ ht
    simpa [opndB] using this
  · have := h.2
    rw [hd] at this
    simpa using this
/-- One operation, as the machine's region carries it out. -/
theorem wpOp_of {ops : Array Oper} (hB : ops.all (operB n) = true) {i : Nat} {o : Oper} (hi : ops[i]? = some o) {Q : Exit → Act → World → Prop} {Kc : Act → World → Prop} {K1 : AV → AH → Prop} {K2 : Prop} {f : AF} {h : AH} {φ : Phi} {M : Im} {a : Act} {w : World}
    (R : Rep G φ M h w) (F : FOk n φ M f a) (H : wantA (dsts ops) f o.guard (fun _ => aop P o.op f h K1) (fun _ => K2))
    (h1 : ∀ v u h' φ' M' w', K1 v h' → Rep G φ' M' h' w' → Le φ φ' → MLe M M' → FOk n φ' M' (put f o.dst v) (a.put o.dst u) → Kept (fun l => touchA o.op f l) φ φ' h h' w w' → Kc (a.put o.dst u) w')
    (h2 : K2 → FOk n φ M (put f o.dst undefA) (a.put o.dst undef) → Kc (a.put o.dst undef) w) : wpOp P ops Q i Kc a w := by
  have hob : operB n o = true := by
    have := (Array.all_eq_true.1 hB) i (Array.getElem?_eq_some_iff.1 hi).1
    rwa [(Array.getElem?_eq_some_iff.1 hi).2] at this
  obtain ⟨b1, b2⟩ := oper_bnd hob
  unfold wpOp
  simp only [hi]
  rcases want_spec F hB o H with ⟨hw, H⟩ | ⟨hw, H⟩
  · rw [if_pos hw]
    refine .inl (aop_sound (S := fun l => touchA o.op f l) o R F b1 H (fun l hl => hl) ?_)
    intro v u h' φ' M' w' hk R' hle hM hv hK
    exact h1 v u h' φ' M' w' hk R' hle hM ((F.mono hle hM).put b2 hv) hK
  · rw [hw]
    exact h2 H (F.put (v := undefA) b2 (mk_c _))
/-- The same with two ways on. -/
theorem wpOp_of2 {ops : Array Oper} (hB : ops.all (operB n) = true) {i : Nat} {o : Oper} (hi : ops[i]? = some o) {Q : Exit → Act → World → Prop} {Kc : Act → World → Prop} {K1 K1l : AV → AH → Prop} {K1f : List Nat → AV → AH → Prop} {K2 : Prop} {f : AF} {h : AH} {φ : Phi} {M : Im} {a : Act} {w : World}
    (R : Rep G φ M h w) (F : FOk n φ M f a) (H : wantA (dsts ops) f o.guard (fun _ => aop2 P o.op f h K1 K1l K1f) (fun _ => K2))
    (h1 : ∀ v u h' φ' M' w', K1 v h' → Rep G φ' M' h' w' → Le φ φ' → MLe M M' → FOk n φ' M' (put f o.dst v) (a.put o.dst u) → Kept (fun l => touchA o.op f l) φ φ' h h' w w' → Kc (a.put o.dst u) w')
    (h1l : ∀ v u h' φ' M' w', K1l v h' → Rep G φ' M' h' w' → Le φ φ' → MLe M M' → FOk n φ' M' (put f o.dst v) (a.put o.dst u) → Kept (fun _ => false) φ φ' h h' w w' → Kc (a.put o.dst u) w')
    (h1f : ∀ (q : List Nat) v u h' φ' M' w', K1f q v h' → Rep G φ' M' h' w' → Le φ φ' → MLe M M' → FOk n φ' M' (put f o.dst v) (a.put o.dst u) → Kept (fun l => decide (l ∈ q)) φ φ' h h' w w' → Kc (a.put o.dst u) w')
    (h2 : K2 → FOk n φ M (put f o.dst undefA) (a.put o.dst undef) → Kc (a.put o.dst undef) w) : wpOp P ops Q i Kc a w := by
  have hob : operB n o = true := by
    have := (Array.all_eq_true.1 hB) i (Array.getElem?_eq_some_iff.1 hi).1
    rwa [(Array.getElem?_eq_some_iff.1 hi).2] at this
  obtain ⟨b1, b2⟩ := oper_bnd hob
  unfold wpOp
  simp only [hi]
  rcases want_spec F hB o H with ⟨hw, H⟩ | ⟨hw, H⟩
  · rw [if_pos hw]
    refine .inl (aop2_sound (S := fun l => touchA o.op f l) o R F b1 H (fun l hl => hl) ?_ ?_ ?_)
    · intro v u h' φ' M' w' hk R' hle hM hv hK
      exact h1 v u h' φ' M' w' hk R' hle hM ((F.mono hle hM).put b2 hv) hK
    · intro v u h' φ' M' w' hk R' hle hM hv hK
      exact h1l v u h' φ' M' w' hk R' hle hM ((F.mono hle hM).put b2 hv) hK
    · intro q v u h' φ' M' w' hk R' hle hM hv hK
      exact h1f q v u h' φ' M' w' hk R' hle hM ((F.mono hle hM).put b2 hv) hK
  · rw [hw]
    exact h2 H (F.put (v := undefA) b2 (mk_c _))
theorem aops_sound {ops : Array Oper} (hB : ops.all (operB n) = true) {Q : Exit → Act → World → Prop} {N : AF → AH → Prop} (hQ : ∀ a w, St G φ0 n N a w → Q .normal a w) :
    ∀ (k : Nat) (l : List Oper), l = ops.toList.drop k → ∀ (f : AF) (h : AH) (φ : Phi) (M : Im) (a : Act) (w : World), aops P (dsts ops) l N f h → Rep G φ M h w → FOk n φ M f a → Le φ0 φ →
      wpOps P ops Q (List.range' k (ops.size - k)) a w := by
  intro k l
  induction l generalizing k with
  | nil =>
    intro hl f h φ M a w H R F hle
    have : ops.size ≤ k := by
      have := congrArg List.length hl
      simp at this
      omega
    rw [show ops.size - k = 0 by omega]
    exact hQ a w ⟨f, h, φ, M, H, R, F, hle⟩
  | cons o r ih =>
    intro hl f h φ M a w H R F hle
    have hk : k < ops.size := by
      have := congrArg List.length hl
      simp at this
      omega
    have hcons : ops.toList.drop k = ops[k] :: ops.toList.drop (k + 1) := by
      rw [List.drop_eq_getElem_cons (by simpa using hk)]
      simp
    rw [hcons] at hl
    injection hl with ho hr
    have hi : ops[k]? = some o := by rw [Array.getElem?_eq_getElem hk, ho]
    rw [show ops.size - k = (ops.size - (k + 1)) + 1 by omega, List.range'_succ, wpOps_cons]
    simp only [aops] at H
    refine wpOp_of hB hi R F H (fun v u h' φ' M' w' hk' R' hle' hM' F' _ => ?_) (fun hk2 F' => ?_)
    · exact ih (k + 1) hr _ _ _ _ _ _ hk' R' F' (hle.trans hle')
    · exact ih (k + 1) hr _ _ _ _ _ _ hk2 R F' hle

/-! ### A region whose order is open -/
def wpAnyS (P : Program) (T : Nat → Bool) (ops : Array Oper) (Q : Exit → Act → World → Prop) (S : Nat → World → Prop) : Nat → Array Bool → Act → World → Prop
  | 0, listed, a, w => Region.ready .any ops listed = [] ∧ Q .normal a w
  | fuel + 1, listed, a, w =>
    (Region.ready .any ops listed = [] → Q .normal a w) ∧
    ∀ i ∈ Region.ready .any ops listed, wpOp P ops Q i (fun a' w' => (if T i = true then w' = w else S i w') ∧ wpAnyS P T ops Q S fuel (listed.setIfInBounds i true) a' w') a w
theorem wpAny_of_S {T : Nat → Bool} {ops : Array Oper} {Q : Exit → Act → World → Prop} {S : Nat → World → Prop} : ∀ (fuel : Nat) (listed : Array Bool) (a : Act) (w : World), wpAnyS P T ops Q S fuel listed a w → wpAny P .any ops Q fuel listed a w
  | 0, _, _, _, h => h
  | fuel + 1, _, _, _, h => ⟨h.1, fun i hi => wpOp_mono (fun a' w' h' => wpAny_of_S fuel _ a' w' h'.2) (h.2 i hi)⟩
theorem wpAnyS_first {T : Nat → Bool} {ops : Array Oper} {Q : Exit → Act → World → Prop} {F : World → Prop} {i : Nat} {oi : Oper} {v : Value} (hi : ops[i]? = some oi) (hsel : ∀ (j : Nat) (o : Oper) cs b, ops[j]? = some o → o.op ≠ .select cs b)
    (hQ : ∀ c a w, Q (.panic c) (a.put oi.dst v) w → Q (.panic c) a w) (hT : T i = true) (S : Nat → World → Prop) :
    ∀ (fuel : Nat) (listed : Array Bool) (a : Act) (w : World),
      closedL ops listed → (∀ j oj, ops[j]? = some oj → j ≠ i → listed.getD j true = false → (∀ e ∈ oj.after, Region.binds .any e = true → e.on ≠ i) → oi.apart ops oj = true) →
      i ∈ Region.ready .any ops listed → YieldsIf P ops F oi v a → F w →
      wpAnyS P T ops Q (fun j w' => S j w' ∧ (¬ Dep ops j i → F w')) fuel (listed.setIfInBounds i true) (a.put oi.dst v) w → wpAnyS P T ops Q S (fuel + 1) listed a w := by
  have drop : ∀ (fuel : Nat) (listed : Array Bool) (a : Act) (w : World), wpAnyS P T ops Q (fun j w' => S j w' ∧ (¬ Dep ops j i → F w')) fuel listed a w → wpAnyS P T ops Q S fuel listed a w := by
    intro fuel
    induction fuel with
    | zero => intro _ _ _ h; exact h
    | succ fuel ih =>
      intro listed a w h
      refine ⟨h.1, fun k hk => wpOp_mono (fun a' w' h' => ⟨?_, ih _ _ _ h'.2⟩) (h.2 k hk)⟩
      have := h'.1
      split at this
      · rename_i ht; rw [if_pos ht]; exact this
      · rename_i ht; rw [if_neg ht]; exact this.1
  intro fuel
  induction fuel with
  | zero =>
    intro listed a w _ _ hr hy hF H
    refine ⟨fun h => (by rw [h] at hr; cases hr), fun j hj => ?_⟩
    by_cases hji : j = i
    · subst hji; exact hy.wpOp hi hF ⟨by rw [if_pos hT], ⟨H.1, H.2⟩⟩
    · have := ready_mono hj hji
      rw [H.1] at this
      cases this
  | succ fuel ih =>
    intro listed a w hcl hfree hr hy hF H
    refine ⟨fun h => (by rw [h] at hr; cases hr), fun j hj => ?_⟩
    by_cases hji : j = i
    · subst hji
      exact hy.wpOp hi hF ⟨by rw [if_pos hT], drop _ _ _ _ H⟩
    · have h1 := H.2 j (ready_mono hj hji)
      obtain ⟨hjun, oj, hoj, hall⟩ := mem_ready.1 hj
      have hnot : ∀ e ∈ oj.after, Region.binds .any e = true → e.on ≠ i := fun e he hb heq => by
        have h1 := hall e he hb
        have h0 := (mem_ready.1 hr).1
        rw [heq] at h1
        rcases Nat.lt_or_ge i listed.size with h' | h'
        · simp [h'] at h0 h1; rw [h0] at h1; cases h1
        · simp [Array.getElem?_eq_none h'] at h1
      have hwait : ¬ Dep ops j i := not_dep hcl hj hr
      have h2 := wpOp_putIf hoj (hfree j oj hoj hji hjun hnot) (fun cs b => hsel i oi cs b hi) (fun cs b => hsel j oj cs b hoj) hQ hy h1
      have hfree' : ∀ k ok, ops[k]? = some ok → k ≠ i → (listed.setIfInBounds j true).getD k true = false →
          (∀ e ∈ ok.after, Region.binds .any e = true → e.on ≠ i) → oi.apart ops ok = true := fun k ok hk hki hun hno => by
        refine hfree k ok hk hki ?_ hno
        by_cases hjk : j = k
        · subst hjk; exact hjun
        · rw [getD_set_ne true hjk] at hun; exact hun
      refine wpOp_mono (fun a' w' h3 => ?_) h2
      obtain ⟨hy', hc, hrec⟩ := h3
      have hFw : F w' := by
        split at hc
        · rw [hc]; exact hF
        · exact hc.2 hwait
      refine ⟨?_, ih (listed.setIfInBounds j true) a' w' (closed_set hcl hj) hfree' (ready_mono hr (Ne.symm hji)) hy' hFw ?_⟩
      · split at hc
        · rename_i ht; rw [if_pos ht]; exact hc
        · rename_i ht; rw [if_neg ht]; exact hc.1
      · rw [Array.setIfInBounds_comm _ _ hji]
        exact hrec
/-- What a kept load leans on, as things stand. -/
def Ent (φ : Phi) (h : AH) (w : World) (p : Nat × Option AO) (Hf : World → Prop) : Prop := match p.2 with
  | none => ∃ pl, Own φ h p.1 pl ∧ ∀ w' : World, w'.heap[pl.b]? = w.heap[pl.b]? → Hf w'
  | some ob => ∀ G' φ' M' h' w', Rep G' φ' M' h' w' → Le φ φ' → h'[p.1]? = some ob → Hf w'
def Ents (φ : Phi) (h : AH) (w : World) : List (Nat × Option AO) → List (World → Prop) → Prop
  | [], [] => True
  | p :: r, Hf :: s => Ent φ h w p Hf ∧ Ents φ h w r s
  | _, _ => False
theorem Ents.of {φ : Phi} {h : AH} {w : World} : ∀ {pr : List (Nat × Option AO)} {hs : List (World → Prop)}, Ents φ h w pr hs → ∀ Hf, Hf ∈ hs → ∃ p, p ∈ pr ∧ Ent φ h w p Hf
  | [], [], _, Hf, hm => by cases hm
  | p :: r, H :: s, E, Hf, hm => by
    rcases List.mem_cons.1 hm with rfl | hm
    · exact ⟨p, by simp, E.1⟩
    · obtain ⟨q, hq, e⟩ := Ents.of E.2 Hf hm
      exact ⟨q, by simp [hq], e⟩
  | [], _ :: _, E, _, _ => E.elim
  | _ :: _, [], E, _, _ => E.elim
theorem Ents.move {φ φ' : Phi} {h h' : AH} {w w' : World} : ∀ {pr : List (Nat × Option AO)} {hs : List (World → Prop)}, Ents φ h w pr hs → (∀ p, p ∈ pr → ∀ Hf, Ent φ h w p Hf → Ent φ' h' w' p Hf) → Ents φ' h' w' pr hs
  | [], [], _, _ => trivial
  | p :: r, H :: s, E, hm => ⟨hm p (by simp) H E.1, Ents.move E.2 fun q hq => hm q (by simp [hq])⟩
  | [], _ :: _, E, _ => E.elim
  | _ :: _, [], E, _ => E.elim
theorem adraw_sound {T : Nat → Bool} {ops : Array Oper} (hB : ops.all (operB n) = true) (hns : Region.noSelect ops = true) {Q : Exit → Act → World → Prop} (hQp : ∀ c a w, ¬ Q (.panic c) a w) {N : AF → AH → Prop} (hQ : ∀ a w, St G φ0 n N a w → Q .normal a w) :
    ∀ (L : List (Nat × Bool × Bool)) (listed : Array Bool) (tks sys : List Nat) (pr : List (Nat × Option AO)) (hs : List (World → Prop)) (f : AF) (h : AH) (φ : Phi) (M : Im) (a : Act) (w : World) (S : Nat → World → Prop) (fuel : Nat), schedGo T ops L listed tks sys = true → closedL ops listed → (∀ k ∈ sys, ∀ i ∈ tks, Dep ops k i) → L.length ≤ fuel →
      adraw P (dsts ops) ops L N f h pr → Rep G φ M h w → FOk n φ M f a → Le φ0 φ → (allSy L = true ∨ Ents φ h w pr hs) →
      (∀ j w', ((∀ i ∈ tks, Dep ops j i) ∨ (ImOk M w' ∧ ∀ Hf, Hf ∈ hs → Hf w')) → S j w') → wpAnyS P T ops Q S fuel listed a w
  | [], listed, tks, sys, pr, hs, f, h, φ, M, a, w, S, fuel, hsch, _, _, _, H, R, F, hle, hE, hS => by
    have hr : Region.ready .any ops listed = [] := by simpa [schedGo] using hsch
    have hq := hQ a w ⟨f, h, φ, M, H, R, F, hle⟩
    cases fuel with
    | zero => exact ⟨hr, hq⟩
    | succ fuel => exact ⟨fun _ => hq, by rw [hr]; simp⟩
  | (i, tk, sy) :: r, listed, tks, sys, pr, hs, f, h, φ, M, a, w, S, fuel, hsch, hcl, hss, hfuel, H, R, F, hle, hE, hS => by
    simp only [schedGo, Bool.and_eq_true] at hsch
    obtain ⟨⟨⟨⟨hr, ht⟩, hfr⟩, hsy⟩, hgo⟩ := hsch
    have hri : i ∈ Region.ready .any ops listed := by simpa using hr
    have htk : tk = T i := by simpa using ht
    obtain ⟨fuel, rfl⟩ : ∃ q, fuel = q + 1 := ⟨fuel - 1, by simp at hfuel; omega⟩
    have himok : ImOk M w := fun a v q => (R.imm a v q).1
    simp only [adraw] at H
    split at H
    · exact H.elim
    · rename_i o hi
      have hob : operB n o = true := by
        have := (Array.all_eq_true.1 hB) i (Array.getElem?_eq_some_iff.1 hi).1
        rwa [(Array.getElem?_eq_some_iff.1 hi).2] at this
      obtain ⟨b1, b2⟩ := oper_bnd hob
      cases tk with
      | true =>
        simp only [if_true] at hfr hgo
        have hsel := Region.noSelect_spec hns
        rcases want_spec F hB o H with ⟨hw, H⟩ | ⟨hw, H⟩
        · obtain ⟨⟨v, ol⟩, hv, H⟩ := H.elim
          obtain ⟨u, Hf, tk⟩ := takeA_run o R F b1 hv
          refine wpAnyS_first (F := Hf) (v := u) hi hsel (fun c a w hp => absurd hp (hQp c _ w)) htk.symm S fuel listed a w hcl (Region.free_spec hi hfr) hri (.inl ⟨hw, tk.run⟩) tk.now ?_
          -- with, or without, an entry of its own
          have go : ∀ hs', (allSy r = true ∨ Ents φ h w (prAdd (v, ol) h pr) hs') → (∀ w', ImOk M w' → (∀ H', H' ∈ hs' → H' w') → Hf w' ∧ ∀ H', H' ∈ hs → H' w') → wpAnyS P T ops Q (fun j w' => S j w' ∧ (¬ Dep ops j i → Hf w')) fuel (listed.setIfInBounds i true) (a.put o.dst u) w := by
            intro hs' hE' himp
            cases hld : isLoad ops i with
            | true =>
              simp only [hld, Bool.and_self, if_true] at hgo
              refine adraw_sound hB hns hQp hQ r _ (i :: tks) [] _ hs' _ _ φ M _ _ _ fuel hgo (closed_set hcl hri) (fun k hk => by cases hk) (by simp at hfuel; omega) H R (F.put b2 tk.val) hle hE' (fun j w' hc => ?_)
              rcases hc with hc | ⟨hc1, hc2⟩
              · exact ⟨hS j w' (.inl fun i' hi' => hc i' (List.mem_cons_of_mem _ hi')), fun hw' => absurd (hc i (by simp)) hw'⟩
              · obtain ⟨h1, h2⟩ := himp w' hc1 hc2
                exact ⟨hS j w' (.inr ⟨hc1, h2⟩), fun _ => h1⟩
            | false =>
              simp only [hld, Bool.and_false, Bool.false_eq_true, if_false, Bool.not_true, Bool.false_and] at hgo
              have hall : ∀ w', Hf w' := tk.free (by unfold isLoad at hld; rw [hi] at hld; exact hld)
              refine adraw_sound hB hns hQp hQ r _ tks sys _ hs' _ _ φ M _ _ _ fuel hgo (closed_set hcl hri) hss (by simp at hfuel; omega) H R (F.put b2 tk.val) hle hE' (fun j w' hc => ?_)
              rcases hc with hc | ⟨hc1, hc2⟩
              · exact ⟨hS j w' (.inl hc), fun _ => hall w'⟩
              · obtain ⟨h1, h2⟩ := himp w' hc1 hc2
                exact ⟨hS j w' (.inr ⟨hc1, h2⟩), fun _ => h1⟩
          have hE2 : allSy r = true ∨ Ents φ h w pr hs := hE.imp (fun q => by simpa [allSy] using q) id
          cases ol with
          | none => exact go hs hE2 (fun w' h1 h2 => ⟨tk.none rfl w' h1, h2⟩)
          | some l =>
            obtain ⟨ob, hl, t0, t1, t2, t3⟩ := tk.strong l rfl
            cases ob with
            | dead => exact go hs (by simp only [prAdd, hl]; exact hE2) (fun w' h1 h2 => ⟨t1 rfl w' h1, h2⟩)
            | ro _ _ _ _ => exact go hs (by simp only [prAdd, hl]; exact hE2) (fun w' h1 h2 => ⟨t1 rfl w' h1, h2⟩)
            | own g t k cap es =>
              obtain ⟨pl, hpl, hpg, _⟩ := R.own_p hl
              by_cases hpv : plainA v = true
              · refine go (Hf :: hs) ?_ (fun w' h1 h2 => ⟨h2 Hf (by simp), fun H' hm => h2 H' (by simp [hm])⟩)
                simp only [prAdd, hl, hpv, if_true]
                exact hE2.imp id fun q => ⟨t3 hpv, q⟩
              · cases hvir : pl.vir with
                | false =>
                  refine go (Hf :: hs) ?_ (fun w' h1 h2 => ⟨h2 Hf (by simp), fun H' hm => h2 H' (by simp [hm])⟩)
                  simp only [prAdd, hl, hpv]
                  have ho : Own φ h l pl := ⟨_, _, _, _, _, hl, hpl, hvir⟩
                  exact hE2.imp id fun q => ⟨⟨pl, ho, t2 pl ho⟩, q⟩
                | true => have := t0 pl hpl; rw [hvir] at this; cases this
        · refine wpAnyS_first (F := fun _ => True) (v := undef) hi hsel (fun c a w hp => absurd hp (hQp c _ w)) htk.symm S fuel listed a w hcl (Region.free_spec hi hfr) hri (.inr ⟨hw, rfl⟩) trivial ?_
          cases hld : isLoad ops i with
          | true =>
            simp only [hld, Bool.and_self, if_true] at hgo
            refine adraw_sound hB hns hQp hQ r _ (i :: tks) [] pr hs _ _ φ M _ _ _ fuel hgo (closed_set hcl hri) (fun k hk => by cases hk) (by simp at hfuel; omega) H R (F.put (v := undefA) b2 (mk_c _)) hle (hE.imp (fun q => by simpa [allSy] using q) id) (fun j w' hc => ⟨hS j w' ?_, fun _ => trivial⟩)
            rcases hc with hc | hc
            · exact .inl fun i' hi' => hc i' (List.mem_cons_of_mem _ hi')
            · exact .inr hc
          | false =>
            simp only [hld, Bool.and_false, Bool.false_eq_true, if_false, Bool.not_true, Bool.false_and] at hgo
            exact adraw_sound hB hns hQp hQ r _ tks sys pr hs _ _ φ M _ _ _ fuel hgo (closed_set hcl hri) hss (by simp at hfuel; omega) H R (F.put (v := undefA) b2 (mk_c _)) hle (hE.imp (fun q => by simpa [allSy] using q) id) (fun j w' hc => ⟨hS j w' hc, fun _ => trivial⟩)
      | false =>
        simp only [Bool.false_eq_true, if_false, Bool.false_and, Bool.not_false, Bool.true_and, false_and, true_and] at hfr hgo H
        have hre : Region.ready .any ops listed = [i] := by simpa using hfr
        refine ⟨fun h0 => (by rw [hre] at h0; cases h0), fun j hj => ?_⟩
        rw [hre] at hj
        obtain rfl := List.mem_singleton.1 hj
        have hdep : sy = true → ∀ i' ∈ tks, Dep ops j i' := fun e i' hi' => by
          subst e
          simp only [Bool.not_true, Bool.false_or, Bool.or_eq_true] at hsy
          rcases hsy with hsy | hsy
          · exact .d ((List.all_eq_true.1 hsy) i' hi')
          · obtain ⟨k, hk, hw⟩ := List.any_eq_true.1 hsy
            exact .t hw (hss k hk i' hi')
        have hss' : ∀ k ∈ (if sy = true then j :: sys else sys), ∀ i' ∈ tks, Dep ops k i' := fun k hk => by
          cases sy with
          | true =>
            rcases List.mem_cons.1 hk with rfl | hk
            · exact hdep rfl
            · exact hss k hk
          | false => exact hss k hk
        have hcl' := closed_set hcl hri
        refine wpOp_of2 hB hi R F H (fun v u h' φ' M' w' hk R' hle' hM F' hK => ?_) (fun v u h' φ' M' w' hk R' hle' hM F' hK => ?_) (fun qf v u h' φ' M' w' hk R' hle' hM F' hK => ?_) (fun hk F' => ?_)
        · obtain ⟨hp, hk⟩ := hk
          have hE2 : (sy && allSy r) = true ∨ Ents φ h w pr hs := hE.imp (fun q => by simpa [allSy] using q) id
          have syc : (sy && allSy r) = true → ((if T j = true then w' = w else S j w') ∧ wpAnyS P T ops Q S fuel (listed.setIfInBounds j true) (a.put o.dst u) w') := by
            intro hq
            rw [Bool.and_eq_true] at hq
            obtain ⟨hq1, hq2⟩ := hq
            subst hq1
            refine ⟨?_, adraw_sound hB hns hQp hQ r _ tks _ pr hs _ _ φ' M' _ _ S fuel hgo hcl' hss' (by simp at hfuel; omega) hk R' F' (hle.trans hle') (.inl hq2) (fun j w2 hc => hS j w2 (hc.imp id fun ⟨q1, q2⟩ => ⟨fun a v q => q1 a v (hM a v q), q2⟩))⟩
            rw [← htk]
            simp only [Bool.false_eq_true, if_false]
            exact hS _ _ (.inl (hdep rfl))
          rcases hp with hp | hp
          · exact syc hp
          rcases hE2 with hE2 | hE
          · exact syc hE2
          · have himok' : ImOk M' w' := fun a v q => (R'.imm a v q).1
            have hE' : Ents φ' h' w' pr hs := hE.move fun p hpm Hf e => by
              have hpp := hp p hpm
              unfold Ent at e ⊢
              unfold prOk at hpp
              split at e
              · rename_i e0
                simp only [e0] at hpp ⊢
                obtain ⟨pl, ho, hh⟩ := e
                obtain ⟨q1, q2⟩ := hK p.1 pl ho hpp
                exact ⟨pl, q2, fun w2 hw2 => hh w2 (hw2.trans q1)⟩
              · rename_i ob e0
                simp only [e0] at hpp ⊢
                exact fun G2 φ2 M2 h2 w2 R2 l2 => e G2 φ2 M2 h2 w2 R2 (hle'.trans l2)
            refine ⟨?_, adraw_sound hB hns hQp hQ r _ tks _ pr hs _ _ φ' M' _ _ S fuel hgo hcl' hss' (by simp at hfuel; omega) hk R' F' (hle.trans hle') (.inr hE') (fun j w2 hc => hS j w2 (hc.imp id fun ⟨q1, q2⟩ => ⟨fun a v q => q1 a v (hM a v q), q2⟩))⟩
            rw [← htk]
            simp only [Bool.false_eq_true, if_false]
            refine hS _ _ (.inr ⟨fun a v q => himok' a v (hM a v q), fun Hf hm => ?_⟩)
            obtain ⟨p, hpm, e⟩ := hE'.of Hf hm
            have hpp := hp p hpm
            unfold Ent at e
            unfold prOk at hpp
            split at e
            · obtain ⟨pl, _, hh⟩ := e
              exact hh w' rfl
            · rename_i ob e0
              simp only [e0] at hpp
              exact e G φ' M' h' w' R' (Le.refl _) hpp
        · obtain ⟨hp, hk⟩ := hk
          have hE2 : (sy && allSy r) = true ∨ Ents φ h w pr hs := hE.imp (fun q => by simpa [allSy] using q) id
          have syc : (sy && allSy r) = true → ((if T j = true then w' = w else S j w') ∧ wpAnyS P T ops Q S fuel (listed.setIfInBounds j true) (a.put o.dst u) w') := by
            intro hq
            rw [Bool.and_eq_true] at hq
            obtain ⟨hq1, hq2⟩ := hq
            subst hq1
            refine ⟨?_, adraw_sound hB hns hQp hQ r _ tks _ pr hs _ _ φ' M' _ _ S fuel hgo hcl' hss' (by simp at hfuel; omega) hk R' F' (hle.trans hle') (.inl hq2) (fun j w2 hc => hS j w2 (hc.imp id fun ⟨q1, q2⟩ => ⟨fun a v q => q1 a v (hM a v q), q2⟩))⟩
            rw [← htk]
            simp only [Bool.false_eq_true, if_false]
            exact hS _ _ (.inl (hdep rfl))
          rcases hp with hp | hp
          · exact syc hp
          rcases hE2 with hE2 | hE
          · exact syc hE2
          · have himok' : ImOk M' w' := fun a v q => (R'.imm a v q).1
            have hE' : Ents φ' h' w' pr hs := hE.move fun p hpm Hf e => by
              have hpp := hp p hpm
              unfold Ent at e ⊢
              unfold prOk0 at hpp
              split at e
              · rename_i e0
                simp only [e0] at hpp ⊢
                obtain ⟨pl, ho, hh⟩ := e
                obtain ⟨q1, q2⟩ := hK p.1 pl ho rfl
                exact ⟨pl, q2, fun w2 hw2 => hh w2 (hw2.trans q1)⟩
              · rename_i ob e0
                simp only [e0] at hpp ⊢
                exact fun G2 φ2 M2 h2 w2 R2 l2 => e G2 φ2 M2 h2 w2 R2 (hle'.trans l2)
            refine ⟨?_, adraw_sound hB hns hQp hQ r _ tks _ pr hs _ _ φ' M' _ _ S fuel hgo hcl' hss' (by simp at hfuel; omega) hk R' F' (hle.trans hle') (.inr hE') (fun j w2 hc => hS j w2 (hc.imp id fun ⟨q1, q2⟩ => ⟨fun a v q => q1 a v (hM a v q), q2⟩))⟩
            rw [← htk]
            simp only [Bool.false_eq_true, if_false]
            refine hS _ _ (.inr ⟨fun a v q => himok' a v (hM a v q), fun Hf hm => ?_⟩)
            obtain ⟨p, hpm, e⟩ := hE'.of Hf hm
            have hpp := hp p hpm
            unfold Ent at e
            unfold prOk0 at hpp
            split at e
            · obtain ⟨pl, _, hh⟩ := e
              exact hh w' rfl
            · rename_i ob e0
              simp only [e0] at hpp
              exact e G φ' M' h' w' R' (Le.refl _) hpp
        · obtain ⟨hp, hk⟩ := hk
          have hE2 : (sy && allSy r) = true ∨ Ents φ h w pr hs := hE.imp (fun q => by simpa [allSy] using q) id
          have syc : (sy && allSy r) = true → ((if T j = true then w' = w else S j w') ∧ wpAnyS P T ops Q S fuel (listed.setIfInBounds j true) (a.put o.dst u) w') := by
            intro hq
            rw [Bool.and_eq_true] at hq
            obtain ⟨hq1, hq2⟩ := hq
            subst hq1
            refine ⟨?_, adraw_sound hB hns hQp hQ r _ tks _ pr hs _ _ φ' M' _ _ S fuel hgo hcl' hss' (by simp at hfuel; omega) hk R' F' (hle.trans hle') (.inl hq2) (fun j w2 hc => hS j w2 (hc.imp id fun ⟨q1, q2⟩ => ⟨fun a v q => q1 a v (hM a v q), q2⟩))⟩
            rw [← htk]
            simp only [Bool.false_eq_true, if_false]
            exact hS _ _ (.inl (hdep rfl))
          rcases hp with hp | hp
          · exact syc hp
          rcases hE2 with hE2 | hE
          · exact syc hE2
          · have himok' : ImOk M' w' := fun a v q => (R'.imm a v q).1
            have hE' : Ents φ' h' w' pr hs := hE.move fun p hpm Hf e => by
              have hpp := hp p hpm
              unfold Ent at e ⊢
              unfold prOkF at hpp
              split at e
              · rename_i e0
                simp only [e0] at hpp ⊢
                obtain ⟨pl, ho, hh⟩ := e
                obtain ⟨q1, q2⟩ := hK p.1 pl ho hpp
                exact ⟨pl, q2, fun w2 hw2 => hh w2 (hw2.trans q1)⟩
              · rename_i ob e0
                simp only [e0] at hpp ⊢
                exact fun G2 φ2 M2 h2 w2 R2 l2 => e G2 φ2 M2 h2 w2 R2 (hle'.trans l2)
            refine ⟨?_, adraw_sound hB hns hQp hQ r _ tks _ pr hs _ _ φ' M' _ _ S fuel hgo hcl' hss' (by simp at hfuel; omega) hk R' F' (hle.trans hle') (.inr hE') (fun j w2 hc => hS j w2 (hc.imp id fun ⟨q1, q2⟩ => ⟨fun a v q => q1 a v (hM a v q), q2⟩))⟩
            rw [← htk]
            simp only [Bool.false_eq_true, if_false]
            refine hS _ _ (.inr ⟨fun a v q => himok' a v (hM a v q), fun Hf hm => ?_⟩)
            obtain ⟨p, hpm, e⟩ := hE'.of Hf hm
            have hpp := hp p hpm
            unfold Ent at e
            unfold prOkF at hpp
            split at e
            · obtain ⟨pl, _, hh⟩ := e
              exact hh w' rfl
            · rename_i ob e0
              simp only [e0] at hpp
              exact e G φ' M' h' w' R' (Le.refl _) hpp
        · obtain ⟨hp, hk⟩ := hk
          have hE2 : (sy && allSy r) = true ∨ Ents φ h w pr hs := hE.imp (fun q => by simpa [allSy] using q) id
          have hEr : allSy r = true ∨ Ents φ h w pr hs := hE2.imp (fun q => by rw [Bool.and_eq_true] at q; exact q.2) id
          refine ⟨?_, adraw_sound hB hns hQp hQ r _ tks _ pr hs _ _ φ M _ _ S fuel hgo hcl' hss' (by simp at hfuel; omega) hk R F' hle hEr hS⟩
          rw [← htk]
          simp only [Bool.false_eq_true, if_false]
          have syc : (sy && allSy r) = true → S j w := fun hq => by
            rw [Bool.and_eq_true] at hq
            obtain ⟨hq1, hq2⟩ := hq
            exact hS _ _ (.inl (hdep hq1))
          rcases hp with hp | hp
          · exact syc hp
          rcases hE2 with hE2 | hE
          · exact syc hE2
          refine hS _ _ (.inr ⟨himok, fun Hf hm => ?_⟩)
          obtain ⟨p, hpm, e⟩ := hE.of Hf hm
          have hpp := hp p hpm
          unfold Ent at e
          unfold prOk0 at hpp
          split at e
          · obtain ⟨pl, _, hh⟩ := e
            exact hh w rfl
          · rename_i ob e0
            simp only [e0] at hpp
            exact e G φ M h w R (Le.refl _) hpp
theorem QQ_noPanic {Q : AExit → AF → AH → Prop} (c : List PanicEntry) (a : Act) (w : World) : ¬ QQ G φ0 n Q (.panic c) a w := fun h => h
theorem awp_sound (hmo : P.follows .mixedOrders = true) (h0 : ∀ l p, φ0 l = some p → l < m) : ∀ (c : Code) (_ : codeB n c = true) (Q : AExit → AF → AH → Prop) (f : AF) (h : AH) (φ : Phi) (M : Im) (a : Act) (w : World), awp P m c Q f h → Rep G φ M h w → FOk n φ M f a → Le φ0 φ →
    c.wp P (QQ G φ0 n Q) a w := by
  intro c
  induction c with
  | skip => intro _ Q f h φ M a w H R F hle; exact wp_skip ⟨f, h, φ, M, H, R, F, hle⟩
  | region id ops draw =>
    intro hB Q f h φ M a w H R F hle
    simp only [codeB] at hB
    cases draw with
    | false =>
      simp only [awp] at H
      refine wp_region ?_
      have := aops_sound (Q := QQ G φ0 n Q) (N := Q .normal) hB (fun a w hs => hs) 0 ops.toList (by simp) f h φ M a w H R F hle
      rw [Nat.sub_zero, ← List.range_eq_range'] at this
      exact this
    | true =>
      simp only [awp] at H
      obtain ⟨L, hL, H⟩ := H
      simp only [schedOk, Bool.and_eq_true] at hL
      obtain ⟨⟨h1, h2⟩, h3⟩ := hL
      have hlen : L.length = ops.size := by simpa using h2
      refine wp_region_any hmo ?_
      refine wpAny_of_S (T := fun i => L.any fun e => e.1 == i && e.2.1) (S := fun _ _ => True) _ _ _ _ ?_
      exact adraw_sound hB h1 QQ_noPanic (N := Q .normal) (fun a w hs => hs) L _ [] [] [] [] f h φ M a _ _ ops.size h3 (fun k i hk => by simp [Array.getElem?_replicate] at hk; split at hk <;> cases hk) (fun k hk => by cases hk) (by omega) H R.drew F hle (.inr trivial) (fun _ _ _ => trivial)
  | seq x y ihx ihy =>
    intro hB Q f h φ M a w H R F hle
    simp only [codeB, Bool.and_eq_true] at hB
    simp only [awp] at H
    refine wp_seq (wp_mono (ihx hB.1 _ f h φ M a w H R F hle) ?_)
    intro e a' w' hq
    cases e with
    | normal =>
      obtain ⟨f', h', φ', M', H', R', F', hle'⟩ := hq
      exact ihy hB.2 Q f' h' φ' M' a' w' H' R' F' hle'
    | exit id => exact hq
    | ret => exact hq
    | _ => exact hq.elim
  | cond c x y ihx ihy =>
    intro hB Q f h φ M a w H R F hle
    simp only [codeB, Bool.and_eq_true] at hB
    simp only [awp] at H
    have ec := ev_V F (x := c) (fun t ht => by have := hB.1.1; rw [ht] at this; simpa [opndB] using this)
    split at H
    · rename_i b hb
      rw [hb] at ec
      have ec := VA_c ec
      cases b with
      | true => exact wp_cond_true ec (ihx hB.1.2 Q f h φ M a w H R F hle)
      | false => exact wp_cond_false ec (ihy hB.2 Q f h φ M a w H R F hle)
    · exact H.elim
  | block id b ih =>
    intro hB Q f h φ M a w H R F hle
    simp only [codeB] at hB
    simp only [awp] at H
    refine wp_block (wp_mono (ih hB _ f h φ M a w H R F hle) ?_)
    intro e a' w' hq
    cases e with
    | normal => exact hq
    | exit id' =>
      simp only [Exit.inBlock]
      by_cases e : id' = id
      · rw [if_pos e]; exact St.mono hq (fun f h hh => by simpa [AExit.inBlock, e] using hh)
      · rw [if_neg e]; exact St.mono hq (fun f h hh => by simpa [AExit.inBlock, e] using hh)
    | ret => exact hq
    | _ => exact hq.elim
  | loop b ih =>
    intro hB Q f h φ M a w H R F hle
    simp only [codeB] at hB
    simp only [awp] at H
    obtain ⟨I, k, hI0, hr⟩ := H
    refine wp_loop_ghost (fun k a w => St G φ0 n (I k) a w) k (St.ghost h0 ⟨f, h, φ, M, hI0, R, F, hle⟩) ?_
    rintro k a w ⟨f, h, φ, M, hI, R, F, hle⟩
    refine wp_mono (ih hB _ f h φ M a w (hr k f h hI) R F hle) ?_
    intro e a' w' hq
    cases e with
    | normal =>
      obtain ⟨f', h', φ', M', ⟨k', hk, hI'⟩, r⟩ := St.ghost h0 hq
      exact ⟨k', hk, f', h', φ', M', hI', r⟩
    | exit id => exact hq
    | ret => exact hq
    | _ => exact hq.elim
  | exit id => intro _ Q f h φ M a w H R F hle; exact wp_exit ⟨f, h, φ, M, H, R, F, hle⟩
  | ret => intro _ Q f h φ M a w H R F hle; exact wp_ret ⟨f, h, φ, M, H, R, F, hle⟩
  | _ => intro _ Q f h φ M a w H R F hle; exact H.elim
end
end Go.BL
