/- One operation over an abstract heap, and that the machine follows it. Conditions: none. -/
import Derived.Test.YtedkpjaojdkpcaaGreatL1
import Derived.Laws.Concat
import Derived.Laws.BytesString
import Derived.Lib.ConvBytes
import Derived.Laws.BytesArg
import Derived.Laws.Slices
import Derived.Laws.Build
import Derived.Laws.Tables
import Derived.Laws.Small
import Derived.Laws.MakeOwn
import Derived.Laws.StructEq
import Derived.Lib.SliceRun
namespace Go.BL
open Go.RowKit
set_option linter.unusedVariables false
set_option linter.unusedSimpArgs false

/-! ### 1. What a program says of its types -/
def aggA (P : Program) (t : TypeId) : Option Bool := (P.underlying t).map fun | .struct _ | .array _ _ => true | _ => false
def sizeA (P : Program) (t : TypeId) : Option Nat := (P.info? t).map (·.size)
def bytesA (P : Program) (t : TypeId) : Option Nat := (P.info? t).map (·.bytes)
def elemA (P : Program) (t : TypeId) : Option TypeId := match P.underlying t with | some (.slice e) => some e | _ => none
def strA (P : Program) (t : TypeId) : Bool := match P.underlying t with | some .string => true | _ => false
def boolA (P : Program) (t : TypeId) : Bool := match P.underlying t with | some .bool => true | _ => false
def kindA (P : Program) (t : TypeId) : Option IntKind := match P.underlying t with | some (.int k) => some k | _ => none
def offA (P : Program) (s : TypeId) (i : Nat) : Option (Nat × TypeId) := match P.underlying s with | some (.struct fs) => (fs[i]?).bind fun f => if ((P.info? f.type).map (·.size)).getD 0 = 0 then none else some (f.offset, f.type) | _ => none
def cvOf : Value → CV
  | .slice none 0 0 => .nl
  | v => .c v
def zeroA (P : Program) (t : TypeId) : Option (List CV) := ((P.info? t).bind (·.zero)).bind fun z => if z.cells.toList.all (·.oneCell') then some (z.cells.toList.map cvOf) else none
def placesA (P : Program) (t : TypeId) : Option (List (Nat × Nat)) := match P.underlying t with | some (.struct fs) => fs.toList.mapM (fun f => (P.info? f.type).map fun i => (f.offset, i.size)) | _ => none


/-! ### 2. The operations -/
def cellsA : AV → Option (List CV)
  | .one (.c v) => if v.oneCell' = true then some [.c v] else none
  | .one x => some [x]
  | .agg xs => some xs
  | _ => none
def partA (P : Program) (t : TypeId) (cs : List CV) (off : Nat) : Option AV :=
  match aggA P t with
  | some true => match sizeA P t with | some n => if off + n ≤ cs.length then some (.agg ((cs.drop off).take n)) else none | none => none
  | some false => (cs[off]?).map .one
  | none => none
def Br (b : Bool) (x y : Unit → Prop) : Prop := match b with | true => x () | false => y ()
def ofVal : Value → AV
  | .agg cs => if cs.toList.all (·.oneCell') = true then .agg (cs.toList.map cvOf) else .one (.c (.agg cs))
  | v => .one (cvOf v)
def ev (f : AF) : Operand → AV
  | .tmp t => f t
  | .const v => ofVal v
  | .global g => .one (.c (.pointer (some ⟨g, 0, none⟩)))
  | .func g => .one (.clo g [])
def On {α : Type} (x : Option α) (K : α → Prop) : Prop := match x with | some v => K v | none => False
theorem On.elim {α : Type} {x : Option α} {K : α → Prop} (h : On x K) : ∃ v, x = some v ∧ K v := by
  cases x with
  | none => exact False.elim h
  | some v => exact ⟨v, rfl, h⟩
def intA (op : BinOp) (k : IntKind) (a b : Int) : Option Value :=
  match op with
  | .add => some (.int k (k.wrap (a + b)))
  | .sub => some (.int k (k.wrap (a - b)))
  | .mul => some (.int k (k.wrap (a * b)))
  | .quo => if b = 0 then none else some (.int k (k.wrap (a.tdiv b)))
  | .rem => if b = 0 then none else some (.int k (a.tmod b))
  | .and => some (.int k (k.wrap (BitVec.ofInt k.bits a &&& BitVec.ofInt k.bits b).toNat))
  | .or => some (.int k (k.wrap (BitVec.ofInt k.bits a ||| BitVec.ofInt k.bits b).toNat))
  | .xor => some (.int k (k.wrap (BitVec.ofInt k.bits a ^^^ BitVec.ofInt k.bits b).toNat))
  | .eql => some (.bool (a == b))
  | .neq => some (.bool (a != b))
  | .lss => some (.bool (decide (a < b)))
  | .leq => some (.bool (decide (a ≤ b)))
  | .gtr => some (.bool (decide (a > b)))
  | .geq => some (.bool (decide (a ≥ b)))
  | _ => none
def strOpA (op : BinOp) (a b : ByteArray) : Option Value :=
  match op with
  | .add => if a.size + b.size ≤ 9223372036854775807 then some (.string (a ++ b)) else none
  | .eql => some (.bool (a.toList == b.toList))
  | .neq => some (.bool (!(a.toList == b.toList)))
  | _ => none
/-- Both operands are plain values. -/
def binA (P : Program) (op : BinOp) (t : TypeId) (x y : Value) : Option Value :=
  match x, y with
  | .int k a, .int k' b => match op with
    | .shl => if b < 0 then none else some (.int k (k.wrap (a * 2 ^ min b.toNat k.bits)))
    | .shr => if b < 0 then none else some (.int k (a.fdiv (2 ^ min b.toNat k.bits)))
    | _ => if k = k' then intA op k a b else none
  | .string a, .string b => strOpA op a b
  | .bool a, .bool b => if boolA P t = true then match op with
    | .eql => some (.bool (a == b))
    | .neq => some (.bool (!(a == b)))
    | _ => none
    else none
  | _, _ => none
def eqVA (P : Program) (t : TypeId) : Value → Value → Option Bool
  | .int k a, .int k' b => if (kindA P t).isSome = true ∧ k = k' then some (a == b) else none
  | .string a, .string b => if strA P t = true then some (a.toList == b.toList) else none
  | .bool a, .bool b => if boolA P t = true then some (a == b) else none
  | _, _ => none
def eqFA (P : Program) (xs ys : List CV) : List (TypeId × Nat) → Option Bool
  | [] => some true
  | (t, off) :: r => match aggA P t, xs[off]?, ys[off]? with
    | some false, some (.c a), some (.c b) => (eqVA P t a b).bind fun e => (eqFA P xs ys r).map (e && ·)
    | _, _, _ => none
def eqTA (P : Program) (t : TypeId) : Option (List (TypeId × Nat)) := match P.underlying t with
  | some (.struct fs) => if P.stoodInHeld t = false ∧ P.eqGuardType P.depth t = false ∧ fs.toList.all (fun f => f.name != "_") = true then some (fs.toList.map fun f => (f.type, f.offset)) else none
  | _ => none
def unA (op : UnOp) (x : Value) : Option Value :=
  match op, x with
  | .neg, .int k n => some (.int k (k.wrap (0 - n)))
  | .not, .bool b => some (.bool (!b))
  | _, _ => none

/-- A slice held against nil. -/
def nilQ : CV → Option Bool
  | .nl => some true
  | .emp => none
  | .im es => if es = [] then none else some false
  | .sl _ _ _ len => if len = 0 then none else some false
  | _ => some false
def isSl : CV → Bool
  | .nl => true
  | .emp => true
  | .im _ => true
  | .sl _ _ _ _ => true
  | _ => false
/-- What an operation may write to. -/
def toVal : AV → Nat → Bool
  | .one (.pt l _ _ _), i => i == l
  | .one (.sl l _ _ _), i => i == l
  | .one .nl, i => false
  | .one .emp, i => false
  | _, _ => true
/-- An owned object that is as this value says. -/
def objA (h : AH) (l g : Nat) : Option (TypeId × Nat × Option Nat × List (List CV)) := match h[l]? with
  | some (.own g' t k cap es) => if g' = g then some (t, k, cap, es) else none
  | _ => none
theorem objA_spec {h : AH} {l g : Nat} {q : TypeId × Nat × Option Nat × List (List CV)} (hq : objA h l g = some q) : h[l]? = some (.own g q.1 q.2.1 q.2.2.1 q.2.2.2) := by
  unfold objA at hq
  split at hq
  · split at hq
    · rename_i e; subst e; cases hq; assumption
    · cases hq
  · cases hq

/-- An object, owned or standing for good, that is as this value says. -/
def objR (h : AH) (l g : Nat) : Option (TypeId × Nat × List (List CV)) := match h[l]? with
  | some (.own g' t k cap es) => if g' = g then some (t, k, es) else none
  | some (.ro g' t k es) => if g' = g then some (t, k, es) else none
  | _ => none

/-- Nothing stale. -/
def fresh (h : AH) : CV → Bool
  | .sl l g _ _ => (objR h l g).isSome
  | _ => true

def aop1 (P : Program) (op : Op) (f : AF) (h : AH) (K : AV → AH → Prop) : Prop :=
  match op with
  | .move x => K (ev f x) h
  | .assign x => K (ev f x) h
  | .pick c a b => (match ev f c with | .one (.c (.bool t)) => K (if t = true then ev f a else ev f b) h | _ => False)
  | .alloc t => On (zeroA P t) fun cs => On (sizeA P t) fun n => n = cs.length ∧ 0 < n ∧ K (.one (.pt h.length 0 0 0)) (h ++ [.own 0 t n (some 1) [cs]])
  | .box t x => On (cellsA (ev f x)) fun cs => 0 < cs.length ∧ K (.one (.pt h.length 0 0 0)) (h ++ [.own 0 t cs.length (some 1) [cs]])
  | .load t a => (match ev f a with
    | .one (.pt l g i off) => On (objR h l g) fun q => On (q.2.2[i]?) fun e => On (partA P t e off) fun v => K v h
    | .one (.pel e off) => On (partA P t e off) fun v => K v h
    | _ => False)
  | .store t a x => (match ev f a with
    | .one (.pt l g i off) => On (objA h l g) fun q => On (q.2.2.2[i]?) fun e => On (cellsA (ev f x)) fun vs => sizeA P t = some vs.length ∧ off + vs.length ≤ e.length ∧ K undefA (h.set l (.own g q.1 q.2.1 q.2.2.1 (q.2.2.2.set i (cset e off vs))))
    | _ => False)
  | .fieldAddr s x i => (match ev f x with
    | .one (.pt l g j off) => On (offA P s i) fun q => (objR h l g).isSome = true ∧ K (.one (.pt l g j (off + q.1))) h
    | .one (.pel e off) => On (offA P s i) fun q => K (.one (.pel e (off + q.1))) h
    | _ => False)
  | .field s x i => (match ev f x with
    | .agg cs => On (offA P s i) fun q => On (partA P q.2 cs q.1) fun v => K v h
    | _ => False)
  | .indexAddr t x ix => On (elemA P t) fun e => On (sizeA P e) fun n => (match ev f x, ev f ix with
    | .one (.sl l g off len), .one (.c (.int _ i)) => On (objR h l g) fun q => q.2.1 = n ∧ 0 ≤ i ∧ i < len ∧ K (.one (.pt l g (off + i.toNat) 0)) h
    | .one (.im es), .one (.c (.int _ i)) => 0 ≤ i ∧ On (es[i.toNat]?) fun e => e.length = n ∧ K (.one (.pel e 0)) h
    | _, _ => False)
  | .index t x ix => strA P t = true ∧ (match ev f x, ev f ix with
    | .one (.c (.string s)), .one (.c (.int _ i)) => 0 ≤ i ∧ ∃ hi : i.toNat < s.size, K (.one (.c (.int .u8 (s[i.toNat]'hi).toNat))) h
    | _, _ => False)
  | .binOp op t x y _ => (match ev f x, ev f y with
    | .one (.c a), .one (.c b) => On (binA P op t a b) fun v => K (.one (.c v)) h
    | .one a, .one .nl => (elemA P t).isSome = true ∧ isSl a = true ∧ fresh h a = true ∧ (match op, nilQ a with
      | .eql, some b => K (.one (.c (.bool b))) h
      | .neq, some b => K (.one (.c (.bool (!b)))) h
      | .eql, none => ∀ b, K (.one (.c (.bool b))) h
      | .neq, none => ∀ b, K (.one (.c (.bool b))) h
      | _, _ => False)
    | .agg xs, .agg ys => On (eqTA P t) fun fs => On (eqFA P xs ys fs) fun b => (match op with
      | .eql => K (.one (.c (.bool b))) h
      | .neq => K (.one (.c (.bool (!b)))) h
      | _ => False)
    | _, _ => False)
  | .unOp op _ x => (match ev f x with
    | .one (.c a) => On (unA op a) fun v => K (.one (.c v)) h
    | _ => False)
  | .extract x i => (match ev f x with
    | .tup xs => On (xs[i]?) fun v => K v h
    | _ => False)
  | .nilCheck x => (match ev f x with
    | .one (.pt l g i off) => (objR h l g).isSome = true ∧ K (.one (.pt l g i off)) h
    | .one (.pel e off) => K (.one (.pel e off)) h
    | _ => False)
  | .convert src dst x => (match kindA P dst, ev f x with
    | some k, .one (.c (.int _ n)) => (P.underlying src).isSome = true ∧ K (.one (.c (.int k (k.wrap n)))) h
    | _, _ => False)
  | _ => False

section
variable {P : Program} {G : Cx} {φ : Phi} {M : Im} {h : AH} {w : World} {f : AF} {n : Nat} {a : Act}
theorem V_cvOf (v : Value) (hv : v.oneCell' = true) : V φ M (cvOf v) v := by
  unfold cvOf
  split
  · exact V0.nl
  · exact V0.c v hv
theorem V_c {v u : Value} (hv : V φ M (.c v) u) : u = v := by cases (show V0 M (.c v) u from hv); rfl
theorem VA_c {v u : Value} (hv : VA φ M (.one (.c v)) u) : u = v := hv
theorem mk_c (v : Value) : VA φ M (.one (.c v)) v := rfl
theorem VA_cvOf (v : Value) : VA φ M (.one (cvOf v)) v := by
  unfold cvOf
  split
  · exact V0.nl
  · rfl
theorem Vs_cvOf (vs : List Value) (hv : ∀ u, u ∈ vs → u.oneCell' = true) : Vs φ M (vs.map cvOf) vs := by
  refine ⟨by simp, fun j x hj => ?_⟩
  rw [List.getElem?_map] at hj
  obtain ⟨u, hu, rfl⟩ := Option.map_eq_some_iff.1 hj
  exact ⟨u, hu, V_cvOf u (hv u (List.mem_of_getElem? hu))⟩
theorem VA_ofVal (v : Value) : VA φ M (ofVal v) v := by
  unfold ofVal
  split
  · rename_i cs
    split
    · rename_i hall
      exact ⟨cs.toList, by simp, Vs_cvOf _ (fun u hu => (List.all_eq_true.1 hall) u hu)⟩
    · rfl
  · exact VA_cvOf v
theorem ev_V (F : FOk n φ M f a) {x : Operand} (hx : ∀ t, x = .tmp t → t < n) : VA φ M (ev f x) (a.eval x) := by
  cases x with
  | tmp t =>
    obtain ⟨u, h1, h2⟩ := F.val t (hx t rfl)
    simpa [Act.eval, ev, h1] using h2
  | const v => exact VA_ofVal v
  | global g => rfl
  | func g => exact ⟨[], rfl, rfl, fun j l hj => by simp at hj⟩
theorem one_cells {u : Value} (hu : u.oneCell' = true) : u.cells = [u].toArray := by
  cases u <;> first | rfl | (simp [Value.oneCell'] at hu)
theorem cellsA_V {x : AV} {cs : List CV} {u : Value} (hx : cellsA x = some cs) (hv : VA φ M x u) : ∃ us, u.cells = us.toArray ∧ Vs φ M cs us := by
  have one : ∀ (y : CV) (u : Value), V φ M y u → ∃ us : List Value, u.cells = us.toArray ∧ Vs φ M [y] us := fun y u hy =>
    ⟨[u], one_cells hy.one, rfl, fun j x hj => by
      rcases j with _ | j
      · simp at hj; subst hj; exact ⟨u, rfl, hy⟩
      · simp at hj⟩
  unfold cellsA at hx
  split at hx
  · split at hx
    · rename_i v h1
      cases hx
      exact one _ _ (by rw [VA_c hv]; exact V0.c v h1)
    · cases hx
  · rename_i y hne
    cases hx
    rcases VA_V hv with hv | ⟨v, rfl, rfl⟩
    · exact one _ _ hv
    · exact absurd rfl (hne _)
  · cases hx
    obtain ⟨us, rfl, h2⟩ := hv
    exact ⟨us, rfl, h2⟩
  · cases hx
theorem add_lit (b o i : Nat) : (⟨b, o, none⟩ : Addr).add i = ⟨b, o + i, none⟩ := by unfold Addr.add; split <;> simp_all
theorem run_isAggA {t : TypeId} {b : Bool} (ht : aggA P t = some b) (w : World) : (isAgg t).run P w = .ok b w := by
  unfold aggA at ht
  obtain ⟨d, hd, rfl⟩ := Option.map_eq_some_iff.1 ht
  simp only [isAgg, underlying, Sem.run_bind, run_program, Result.andThen_ok, hd, Sem.run_pure]
  cases d <;> rfl
theorem run_sizeA {t : TypeId} {m : Nat} (ht : sizeA P t = some m) (w : World) : (sizeOf t).run P w = .ok m w := by
  unfold sizeA at ht
  obtain ⟨i, hi, rfl⟩ := Option.map_eq_some_iff.1 ht
  simp [sizeOf, typeInfo, hi]
/-- What a load yields, in every world that holds these cells. -/
theorem run_loadVarA {t : TypeId} {v : AV} {cs : List CV} {off : Nat} {b o : Nat} (hv : partA P t cs off = some v) (C : Nat → Value) (hV : ∀ (j : Nat) (x : CV), cs[j]? = some x → V φ M x (C j)) :
    ∃ u, VA φ M v u ∧ ∀ w : World, (∀ (j : Nat) (x : CV), cs[j]? = some x → w.cell? ⟨b, o + j, none⟩ = some (C j)) → (loadVar t ⟨b, o + off, none⟩).run P w = .ok u w := by
  unfold partA at hv
  split at hv
  · rename_i hag
    split at hv
    · rename_i m hm
      split at hv
      · rename_i hle
        cases hv
        refine ⟨.agg ((List.range m).map fun j => C (off + j)).toArray, ⟨_, rfl, by simp; omega, fun j x hj => ?_⟩, fun w hc => ?_⟩
        · rw [List.getElem?_take] at hj
          split at hj
          · rename_i hjm
            rw [List.getElem?_drop] at hj
            exact ⟨C (off + j), by simp [hjm], hV _ x hj⟩
          · cases hj
        · have hlen : ((List.range m).map fun j => C (off + j)).length = m := by simp
          have := run_loadCells_list (P := P) (w := w) ⟨b, o + off, none⟩ ((List.range m).map fun j => C (off + j)) (fun j u hj => by
            rw [add_lit]
            rw [List.getElem?_map] at hj
            obtain ⟨j', hj', rfl⟩ := Option.map_eq_some_iff.1 hj
            have hjm : j < m := by
              have := (List.getElem?_eq_some_iff.1 hj').1
              simpa using this
            rw [List.getElem?_range hjm] at hj'
            cases hj'
            rw [Nat.add_assoc]
            exact hc (off + j) _ (List.getElem?_eq_getElem (by omega)))
          rw [hlen] at this
          simp [loadVar, run_isAggA hag, run_sizeA hm, this]
      · cases hv
    · cases hv
  · rename_i hag
    obtain ⟨x, hx, rfl⟩ := Option.map_eq_some_iff.1 hv
    exact ⟨C off, V_VA (hV off x hx), fun w hc => by simp [loadVar, run_isAggA hag, hc off x hx]⟩
  · cases hv
/-- Cells chosen. -/
theorem choose_cells {cs : List CV} {A : Nat → Addr} (hc : ∀ (j : Nat) (x : CV), cs[j]? = some x → ∃ v, w.cell? (A j) = some v ∧ V φ M x v) :
    ∃ C : Nat → Value, ∀ (j : Nat) (x : CV), cs[j]? = some x → w.cell? (A j) = some (C j) ∧ V φ M x (C j) := by
  have : ∀ j : Nat, ∃ v : Value, ∀ x, cs[j]? = some x → w.cell? (A j) = some v ∧ V φ M x v := fun j => by
    cases hj : cs[j]? with
    | none => exact ⟨undef, fun x hx => by cases hx⟩
    | some x =>
      obtain ⟨v, h1, h2⟩ := hc j x hj
      exact ⟨v, fun y hy => by cases hy; exact ⟨h1, h2⟩⟩
  obtain ⟨C, hC⟩ := Classical.axiomOfChoice this
  exact ⟨C, hC⟩
theorem V0_V {x : CV} {u : Value} (h : V0 M x u) : V φ M x u := by
  cases x with
  | pt l g i off => cases h
  | sl l g off len => cases h
  | clo g caps => cases h; exact ⟨[], rfl, rfl, fun j l hj => by simp at hj⟩
  | _ => exact h
/-- A pointer to an owned object that is as told. -/
theorem Rep.own_cells (R : Rep G φ M h w) {l g k : Nat} {t : TypeId} {cap : Option Nat} {es : List (List CV)} (hl : h[l]? = some (.own g t k cap es)) :
    ∃ p, φ l = some p ∧ p.g = g ∧ p.k = k ∧ (∀ e, e ∈ es → e.length = k) ∧ es.length ≤ p.cap ∧ (p.vir = true → es = []) ∧ ∀ (i : Nat) (e : List CV), es[i]? = some e → p.vir = false ∧ ∀ (j : Nat) (x : CV), e[j]? = some x → ∃ v, w.cell? ⟨p.b, i * k + j, none⟩ = some v ∧ V φ M x v := by
  obtain ⟨p, h1, h2, h3, h4, h5, h6, h7, h8⟩ := R.obj l _ hl
  refine ⟨p, h1, h2, h3, h6, h4, fun hv => List.length_eq_zero_iff.1 (by have := h7 hv; omega), fun i e hi => ?_⟩
  obtain ⟨p', q1, q2, q3, q4, q5⟩ := R.cell hl hi
  rw [h1] at q1
  cases q1
  exact ⟨q4, q5⟩
/-- What is read through a value of an object. -/
theorem Rep.readR (R : Rep G φ M h w) {l g : Nat} {q : TypeId × Nat × List (List CV)} (hq : objR h l g = some q) :
    ∃ p, φ l = some p ∧ p.g = g ∧ p.k = q.2.1 ∧ (∀ e, e ∈ q.2.2 → e.length = q.2.1) ∧ q.2.2.length ≤ p.cap ∧ (p.vir = true → q.2.2 = []) ∧ ∀ (i : Nat) (e : List CV), q.2.2[i]? = some e → p.vir = false ∧ ∀ (j : Nat) (x : CV), e[j]? = some x → ∃ v, w.cell? ⟨p.b, i * q.2.1 + j, none⟩ = some v ∧ V φ M x v := by
  unfold objR at hq
  split at hq
  · rename_i g' t k cap es hl
    split at hq
    · rename_i e
      subst e
      cases hq
      exact R.own_cells hl
    · cases hq
  · rename_i g' t k es hl
    split at hq
    · rename_i e
      subst e
      cases hq
      obtain ⟨p, h1, h2, h3, h4, h5, h6, h7⟩ := R.obj l _ hl
      have hnil : p.vir = true → es = [] := fun hv => List.length_eq_zero_iff.1 (by have := h6 hv; omega)
      refine ⟨p, h1, h2, h3, h4, h5, hnil, fun i e hi => ?_⟩
      have hv : p.vir = false := by
        cases hv : p.vir with
        | false => rfl
        | true => rw [hnil hv] at hi; simp at hi
      obtain ⟨h8, C, h9⟩ := h7 hv
      refine ⟨hv, fun j x hj => ?_⟩
      obtain ⟨h10, h11⟩ := h9 i e j x hi hj
      rw [h3] at h10
      exact ⟨C i j, (R.imm _ _ h10).1, V0_V h11⟩
    · cases hq
  · cases hq
theorem objA_R {l g : Nat} {q : TypeId × Nat × Option Nat × List (List CV)} (hq : objA h l g = some q) : objR h l g = some (q.1, q.2.1, q.2.2.2) := by
  have := objA_spec hq
  unfold objR
  rw [this]
  simp
theorem pt_at (R : Rep G φ M h w) {l g i off : Nat} {q : TypeId × Nat × List (List CV)} (hq : objR h l g = some q) {u : Value} (hu : VA φ M (.one (.pt l g i off)) u) :
    ∃ p, φ l = some p ∧ p.g = g ∧ p.k = q.2.1 ∧ p.vir = false ∧ u = .pointer (some ⟨p.b, i * p.k + off, none⟩) := by
  obtain ⟨h1, p, h2, h3, h4⟩ := hu
  obtain ⟨p', h5, h6, h7, _⟩ := R.readR hq
  rw [h2] at h5
  cases h5
  obtain ⟨h8, h9⟩ := h4 h6
  exact ⟨p, h2, h6, h7, h8, h9⟩
end

/-- Objects that are not touched stand as they stood. -/
def Kept (S : Nat → Bool) (φ φ' : Phi) (h h' : AH) (w w' : World) : Prop := ∀ l p, Own φ h l p → S l = false → w'.heap[p.b]? = w.heap[p.b]? ∧ Own φ' h' l p
theorem Kept.refl (S : Nat → Bool) (φ : Phi) (h : AH) (w : World) : Kept S φ φ h h w w := fun _ _ ho _ => ⟨rfl, ho⟩
theorem Own.app {φ : Phi} {h : AH} {l : Nat} {p : Pl} (ho : Own φ h l p) (q : Pl) (o : AO) : Own (phiAt φ h.length q) (h ++ [o]) l p := by
  obtain ⟨g, t, k, cap, es, hl, hp, hv⟩ := ho
  have := hlt hl
  exact ⟨g, t, k, cap, es, by rw [List.getElem?_append_left this]; exact hl, by rw [phiAt_ne φ _ (by omega)]; exact hp, hv⟩
theorem Own.set {φ : Phi} {h : AH} {l l0 : Nat} {p : Pl} (ho : Own φ h l p) (hne : l ≠ l0) (q : Pl) (o : AO) : Own (phiAt φ l0 q) (h.set l0 o) l p := by
  obtain ⟨g, t, k, cap, es, hl, hp, hv⟩ := ho
  exact ⟨g, t, k, cap, es, by rw [List.getElem?_set_ne (Ne.symm hne)]; exact hl, by rw [phiAt_ne φ _ hne]; exact hp, hv⟩
theorem Own.set0 {φ : Phi} {h : AH} {l l0 : Nat} {p : Pl} (ho : Own φ h l p) (hne : l ≠ l0) (o : AO) : Own φ (h.set l0 o) l p := by
  obtain ⟨g, t, k, cap, es, hl, hp, hv⟩ := ho
  exact ⟨g, t, k, cap, es, by rw [List.getElem?_set_ne (Ne.symm hne)]; exact hl, hp, hv⟩
/-- What stands behind an operation. -/
def After (G : Cx) (φ : Phi) (M : Im) (h : AH) (w : World) (a : Act) (S : Nat → Bool) (dst : Option Nat) (K : AV → AH → Prop) (next : Act → World → Prop) : Prop :=
  ∀ v u h' φ' M' w', K v h' → Rep G φ' M' h' w' → Le φ φ' → MLe M M' → VA φ' M' v u → Kept S φ φ' h h' w w' → next (a.put dst u) w'

section
variable {P : Program} {G : Cx} {φ : Phi} {M : Im} {h : AH} {w : World} {f : AF} {n : Nat} {a : Act} {S : Nat → Bool} {K : AV → AH → Prop} {next : Act → World → Prop} {Q : Exit → Act → World → Prop}
theorem After.val {dst : Option Nat} {v : AV} {u : Value} (A : After G φ M h w a S dst K next) (R : Rep G φ M h w) (hk : K v h) (hu : VA φ M v u) : next (a.put dst u) w :=
  A v u h φ M w hk R (Le.refl _) (MLe.refl _) hu (Kept.refl _ _ _ _)
theorem run_guard_int (op : BinOp) (t : TypeId) (x y : Operand) (k k' : IntKind) (p q : Int) : (eqGuard op t x y (.int k p) (.int k' q)).run P w = .ok () w := by
  unfold eqGuard; cases op <;> simp
theorem run_guard_string (op : BinOp) (t : TypeId) (x y : Operand) (p q : ByteArray) : (eqGuard op t x y (.string p) (.string q)).run P w = .ok () w := by
  unfold eqGuard; cases op <;> simp
theorem run_guard_bool (op : BinOp) (t : TypeId) (x y : Operand) (p q : Bool) : (eqGuard op t x y (.bool p) (.bool q)).run P w = .ok () w := by
  unfold eqGuard; cases op <;> simp
theorem run_guard_slice (op : BinOp) (t : TypeId) (x y : Operand) (p q : Option Addr) (a b c d : Nat) : (eqGuard op t x y (.slice p a b) (.slice q c d)).run P w = .ok () w := by
  unfold eqGuard; cases op <;> simp
theorem run_intA {op : BinOp} {k : IntKind} {p q : Int} {v : Value} (t : TypeId) (hv : intA op k p q = some v) : (binOp op t (.int k p) (.int k q)).run P w = .ok v w := by
  cases op <;> simp only [intA] at hv
  case quo =>
    split at hv
    · cases hv
    · rename_i hq; cases hv; simp [binOp, Op.intDiv, hq]
  case rem =>
    split at hv
    · cases hv
    · rename_i hq; cases hv; simp [binOp, Op.intDiv, hq]
  all_goals (cases hv)
  all_goals (simp [binOp, Op.intArith, Op.intBits, Op.intCmp])
theorem run_strA {op : BinOp} {p q : ByteArray} {v : Value} (t : TypeId) (hv : strOpA op p q = some v) : (binOp op t (.string p) (.string q)).run P w = .ok v w := by
  cases op <;> simp only [strOpA] at hv
  case add =>
    split at hv
    · rename_i hle
      cases hv
      simp only [binOp, Op.stringOp]
      rw [if_neg (by simp [IntKind.max, IntKind.signed, IntKind.bits]; omega)]
      rfl
    · cases hv
  all_goals (cases hv)
  all_goals (simp [binOp, Op.stringOp])
theorem run_binA {op : BinOp} {x y v : Value} (t : TypeId) (hv : binA P op t x y = some v) : (binOp op t x y).run P w = .ok v w := by
  unfold binA at hv
  split at hv
  · rename_i k p k' q
    split at hv
    · split at hv
      · cases hv
      · rename_i hq; cases hv; simp [binOp, Op.shift, hq]
    · split at hv
      · cases hv
      · rename_i hq; cases hv; simp [binOp, Op.shift, hq]
    · split at hv
      · rename_i hk; subst hk; exact run_intA t hv
      · cases hv
  · exact run_strA t hv
  · rename_i p q
    split at hv
    · rename_i hb
      have hu : P.underlying t = some .bool := by
        unfold boolA at hb
        split at hb
        · assumption
        · cases hb
      split at hv
      · cases hv; exact run_eql_bool _ _ _ _ hu
      · cases hv; exact run_neq_bool _ _ _ _ hu
      · cases hv
    · cases hv
  · cases hv
theorem run_eqVA {d : Nat} {t : TypeId} {x y : Value} {b : Bool} (hv : eqVA P t x y = some b) : (Op.equalIn (d + 1) t x y).run P w = .ok b w := by
  unfold eqVA at hv
  split at hv
  · split at hv
    · rename_i h
      cases hv
      obtain ⟨h1, rfl⟩ := h
      obtain ⟨k, hk⟩ := Option.isSome_iff_exists.1 h1
      have hu : P.underlying t = some (.int k) := by
        unfold kindA at hk
        split at hk
        · rename_i k' hk'; cases hk; exact hk'
        · cases hk
      exact Go.run_equalIn_int w d t _ _ _ _ hu
    · cases hv
  · split at hv
    · rename_i h
      cases hv
      have hu : P.underlying t = some .string := by
        unfold strA at h
        split at h
        · assumption
        · cases h
      exact Go.run_equalIn_string w d t _ _ hu
    · cases hv
  · split at hv
    · rename_i h
      cases hv
      have hu : P.underlying t = some .bool := by
        unfold boolA at h
        split at h
        · assumption
        · cases h
      exact Go.run_equalIn_bool' w d t _ _ hu
    · cases hv
  · cases hv
theorem run_eqFA {d : Nat} {xs ys : List CV} {us vs : List Value} (hxs : Vs φ M xs us) (hys : Vs φ M ys vs) : ∀ (fs : List Field) (b : Bool), fs.all (fun f => f.name != "_") = true → eqFA P xs ys (fs.map fun f => (f.type, f.offset)) = some b →
    (Op.eqFields (d + 1) us.toArray vs.toArray fs).run P w = .ok b w
  | [], b, _, hv => by simp only [List.map_nil, eqFA, Option.some.injEq] at hv; subst hv; simp [Op.eqFields]
  | f :: fs, b, hn, hv => by
    rw [List.all_cons, Bool.and_eq_true] at hn
    rw [List.map_cons, eqFA] at hv
    split at hv
    · rename_i a c hag hx hy
      obtain ⟨e, he, hv⟩ := Option.bind_eq_some_iff.1 hv
      obtain ⟨r, hr, rfl⟩ := Option.map_eq_some_iff.1 hv
      have ih := run_eqFA (d := d) hxs hys fs r hn.2 hr
      have hn' : f.name ≠ "_" := by simpa using hn.1
      obtain ⟨a', ha1, ha2⟩ := hxs.2 _ _ hx
      obtain ⟨c', hc1, hc2⟩ := hys.2 _ _ hy
      rw [V_c ha2] at ha1
      rw [V_c hc2] at hc1
      have p1 : (part f.type us.toArray f.offset).run P w = .ok a w := by simp [part, run_isAggA hag, ha1]
      have p2 : (part f.type vs.toArray f.offset).run P w = .ok c w := by simp [part, run_isAggA hag, hc1]
      rw [Op.eqFields]
      simp only [if_pos hn', Sem.run_bind, p1, p2, run_eqVA he, Result.andThen_ok]
      cases e
      · simp
      · simpa using ih
    · cases hv
theorem isSl_val (R : Rep G φ M h w) {x : CV} {u : Value} (hx : isSl x = true) (hf : fresh h x = true) (hv : V φ M x u) : ∃ p n c, u = .slice p n c ∧ ∀ b, nilQ x = some b → p.isNone = b := by
  cases x with
  | nl => cases (show V0 M .nl u from hv); exact ⟨_, _, _, rfl, fun b hb => by cases hb; rfl⟩
  | emp => cases (show V0 M .emp u from hv); exact ⟨_, _, _, rfl, fun b hb => by cases hb⟩
  | im es =>
    cases (show V0 M (.im es) u from hv) with
    | im0 a cap => exact ⟨_, _, _, rfl, fun b hb => by cases hb⟩
    | im _ k b o cap g hk hc hm hv => exact ⟨_, _, _, rfl, fun b hb => by simp only [nilQ] at hb; split at hb <;> cases hb; rfl⟩
  | sl l g off len =>
    obtain ⟨h1, p, h2, h3, h4⟩ := hv
    obtain ⟨q, hq⟩ := Option.isSome_iff_exists.1 (show (objR h l g).isSome = true from hf)
    obtain ⟨p', h5, h6, _⟩ := R.readR hq
    rw [h2] at h5
    cases h5
    rcases h4 h6 with ⟨_, _, hz, a, rfl⟩ | ⟨_, rfl⟩
    · exact ⟨_, _, _, rfl, fun b hb => by simp only [nilQ, hz, if_true] at hb; cases hb⟩
    · exact ⟨_, _, _, rfl, fun b hb => by simp only [nilQ] at hb; split at hb <;> cases hb; rfl⟩
  | _ => cases hx
theorem run_nilB {op : BinOp} {t : TypeId} (he : (elemA P t).isSome = true) (p : Option Addr) (n c : Nat) :
    (binOp .eql t (.slice p n c) (.slice none 0 0)).run P w = .ok (.bool p.isNone) w ∧ (binOp .neq t (.slice p n c) (.slice none 0 0)).run P w = .ok (.bool (!p.isNone)) w := by
  obtain ⟨e, he⟩ := Option.isSome_iff_exists.1 he
  have hu : P.underlying t = some (.slice e) := by
    unfold elemA at he
    split at he
    · rename_i e' he'; cases he; exact he'
    · cases he
  refine ⟨?_, ?_⟩
  · simp only [binOp]
    simp [Op.equal, Op.maxDepth, Lib.run_equalIn_slice_nil w 9999 t e p n c 0 0 hu]
  · simp only [binOp]
    simp [Op.equal, Op.maxDepth, Lib.run_equalIn_slice_nil w 9999 t e p n c 0 0 hu]
theorem zeroA_spec {t : TypeId} {z : List CV} (hz : zeroA P t = some z) : ∃ i v, P.info? t = some i ∧ i.zero = some v ∧ z = v.cells.toList.map cvOf ∧ ∀ u ∈ v.cells.toList, u.oneCell' = true := by
  unfold zeroA at hz
  obtain ⟨v, h1, h2⟩ := Option.bind_eq_some_iff.1 hz
  obtain ⟨i, hi, hv⟩ := Option.bind_eq_some_iff.1 h1
  split at h2
  · rename_i hall
    cases h2
    exact ⟨i, v, hi, hv, rfl, fun u hu => (List.all_eq_true.1 hall) u hu⟩
  · cases h2
theorem elemA_spec {t e : TypeId} (he : elemA P t = some e) : P.underlying t = some (.slice e) := by
  unfold elemA at he
  split at he
  · rename_i e' he'; cases he; exact he'
  · cases he
theorem kindA_spec {t : TypeId} {k : IntKind} (hk : kindA P t = some k) : P.underlying t = some (.int k) := by
  unfold kindA at hk
  split at hk
  · rename_i k' hk'; cases hk; exact hk'
  · cases hk
theorem strA_spec {t : TypeId} (hs : strA P t = true) : P.underlying t = some .string := by
  unfold strA at hs
  split at hs
  · assumption
  · cases hs
theorem Kept.alloc (R : Rep G φ M h w) {S : Nat → Bool} (q : Pl) (o : AO) (ob : Obj) : Kept S φ (phiAt φ h.length q) h (h ++ [o]) w (w.alloc ob) := fun l p ho _ => ⟨Below.heap_alloc w _ _ (R.own_blk ho), ho.app q o⟩
/-- One element in a new block. -/
theorem new_box (R : Rep G φ M h w) (t : TypeId) (cs : List CV) (us : List Value) (hus : Vs φ M cs us) (h0 : 0 < cs.length) :
    Rep G (phiAt φ h.length ⟨w.heap.size, cs.length, 1, 0, false⟩) M (h ++ [.own 0 t cs.length (some 1) [cs]]) (w.alloc (.cells us.toArray t (0, 0))) ∧ Le φ (phiAt φ h.length ⟨w.heap.size, cs.length, 1, 0, false⟩) :=
  R.alloc t cs.length 1 (some 1) [cs] us.toArray (0, 0) h0 (by simp [hus.1]) (okFr_mem (Vs_one hus)) (by simp) (fun c hc => by cases hc; rfl) (fun e he => by rw [List.mem_singleton.1 he]) (fun i e j x hi hj => by
    rcases i with _ | i
    · simp at hi
      subst hi
      obtain ⟨u, h1, h2⟩ := hus.2 j x hj
      exact ⟨u, by simpa using h1, h2⟩
    · simp at hi)
theorem V_new_pt {φ : Phi} {M : Im} (n : Nat) (p : Pl) (hg : p.g = 0) (hv : p.vir = false) : V (phiAt φ n p) M (.pt n 0 0 0) (.pointer (some ⟨p.b, 0, none⟩)) :=
  ⟨rfl, p, phiAt_at φ n p, Nat.zero_le _, fun _ => ⟨hv, by simp⟩⟩
set_option maxHeartbeats 2000000 in
theorem aop1_sound (o : Oper) (R : Rep G φ M h w) (F : FOk n φ M f a) (hb : ∀ t, Operand.tmp t ∈ o.op.operands → t < n) (H : aop1 P o.op f h K) (hS : ∀ t x y l g i off, o.op = .store t x y → ev f x = .one (.pt l g i off) → ∀ j, S j = false → j ≠ l) (A : After G φ M h w a S o.dst K next) : o.wp P a w next Q := by
  have E : ∀ x, x ∈ o.op.operands → VA φ M (ev f x) (a.eval x) := fun x hx => ev_V F (fun t ht => hb t (ht ▸ hx))
  clear hb F
  obtain ⟨dst, op, ty, pos, aft, guard⟩ := o
  simp only at *
  cases op <;> simp only [Op.operands] at E <;> simp only [aop1] at H <;> try exact H.elim
  case move x =>
    have e := E x (by simp)
    simp only [Oper.wp, execOp, Sem.run_pure, Oper.upon]
    exact A.val R H e
  case assign x =>
    have e := E x (by simp)
    simp only [Oper.wp, execOp, Sem.run_pure, Oper.upon]
    exact A.val R H e
  case pick c x y =>
    split at H
    · rename_i t hc
      have ec := E c (by simp)
      have ex := E x (by simp)
      have ey := E y (by simp)
      rw [hc] at ec
      have ec := VA_c ec
      simp only [Oper.wp, execOp, ec, asBool, Sem.run_bind, Sem.run_pure, Result.andThen_ok, Oper.upon]
      cases t
      · exact A.val R H ey
      · exact A.val R H ex
    · exact H.elim
  case alloc t =>
    obtain ⟨cs, hz, H⟩ := H.elim
    obtain ⟨m, hm, rfl, h0, H⟩ := H.elim
    obtain ⟨i, z, hi, hiz, rfl, hz1⟩ := zeroA_spec hz
    have R' := new_box R t (z.cells.toList.map cvOf) z.cells.toList (Vs_cvOf _ hz1) h0
    simp only [Oper.wp, execOp, Instr.alloc, zeroValue, typeInfo, Sem.run_bind, run_program, Result.andThen_ok, hi, Sem.run_pure, hiz, newVar, newRow, run_newObj_alloc, Oper.upon]
    refine A _ _ _ _ _ _ H (by simpa using R'.1) R'.2 (MLe.refl _) ?_ (Kept.alloc R _ _ _)
    exact V_new_pt (M := M) _ _ rfl rfl
  case box t x =>
    obtain ⟨cs, hx, h0, H⟩ := H.elim
    have e := E x (by simp)
    obtain ⟨us, hc, hus⟩ := cellsA_V hx e
    have R' := new_box R t cs us hus h0
    simp only [Oper.wp, execOp, Instr.box, Sem.run_bind, Sem.run_pure, Result.andThen_ok, newVar, newRow, run_newObj_alloc, Oper.upon, hc]
    refine A _ _ _ _ _ _ H R'.1 R'.2 (MLe.refl _) ?_ (Kept.alloc R _ _ _)
    exact V_new_pt (M := M) _ _ rfl rfl
  case load t x =>
    have e := E x (by simp)
    split at H
    · rename_i l g i off hx
      obtain ⟨q, hq, H⟩ := H.elim
      obtain ⟨el, hel, H⟩ := H.elim
      obtain ⟨v, hv, H⟩ := H.elim
      rw [hx] at e
      obtain ⟨p, hp, hg, hk, hvir, eu⟩ := pt_at R hq e
      obtain ⟨p', hp', _, _, _, _, _, hcc⟩ := R.readR hq
      rw [hp] at hp'
      cases hp'
      have hc := (hcc i el hel).2
      obtain ⟨C, hC⟩ := choose_cells hc
      obtain ⟨u, hu, hr⟩ := run_loadVarA (P := P) (b := p.b) (o := i * q.2.1) hv C (fun j y hj => (hC j y hj).2)
      have hr := hr w (fun j y hj => (hC j y hj).1)
      rw [← hk] at hr
      simp only [Oper.wp, execOp, Instr.loadAt, Instr.sureAddr, eu, Sem.run_bind, Sem.run_pure, Result.andThen_ok, hr, Oper.upon]
      exact A.val R H hu
    · rename_i el off hx
      obtain ⟨v, hv, H⟩ := H.elim
      rw [hx] at e
      generalize hax : a.eval x = ux at e
      cases (show V0 M (.pel el off) ux from e) with
      | pel _ _ b o C hm hV =>
        have eu := hax.symm
        obtain ⟨u, hu, hr⟩ := run_loadVarA (P := P) (φ := φ) (M := M) (b := b) (o := o) hv C (fun j y hj => V0_V (hV j y hj))
        have hr := hr w (fun j y hj => (R.imm _ _ (hm j y hj)).1)
        simp only [Oper.wp, execOp, Instr.loadAt, Instr.sureAddr, ← eu, Sem.run_bind, Sem.run_pure, Result.andThen_ok, hr, Oper.upon]
        exact A.val R H hu
    · exact H.elim
  case store t x y =>
    have e := E x (by simp)
    have ey := E y (by simp)
    split at H
    · rename_i l g i off hx
      obtain ⟨q, hq, H⟩ := H.elim
      obtain ⟨el, hel, H⟩ := H.elim
      obtain ⟨vs, hv, H⟩ := H.elim
      obtain ⟨hs, hfit, H⟩ := H
      rw [hx] at e
      obtain ⟨p, hp, hg, hk, hvir, eu⟩ := pt_at R (objA_R hq) e
      simp only at hk
      obtain ⟨us, hc, hus⟩ := cellsA_V hv ey
      have hne : q.2.2.2 ≠ [] := by intro e; rw [e] at hel; simp at hel
      obtain ⟨p', h1, h2, h3, h4, h5, h6, h7, h8, C, fr, h9, h10, h11, h12⟩ := R.own (objA_spec hq) hne
      rw [hp] at h1
      cases h1
      have hil := (List.getElem?_eq_some_iff.1 hel).1
      have hek : el.length = q.2.1 := h7 el (List.mem_of_getElem? hel)
      have hul := hus.1
      have hst := run_storeCells_cells (P := P) p.b (i * q.2.1 + off) us 0 w (fun j hj => by
          have hin : i * q.2.1 + off + (0 + j) < C.size := by
            have : (i + 1) * q.2.1 ≤ p.cap * q.2.1 := Nat.mul_le_mul_right _ (by omega)
            rw [h10, h3]
            rw [Nat.succ_mul] at this
            omega
          rw [Nat.zero_add] at hin
          rw [Nat.add_zero, Joins.cell_of_block h9, Array.getElem?_eq_getElem hin]; rfl) (fun j hj => by
          have hin : i * q.2.1 + off + j < C.size := by
            have : (i + 1) * q.2.1 ≤ p.cap * q.2.1 := Nat.mul_le_mul_right _ (by omega)
            rw [h10, h3]
            rw [Nat.succ_mul] at this
            omega
          rw [Nat.add_zero]
          exact okFr_free h9 h11 hin) (fun v hv => by
          obtain ⟨j, hj⟩ := List.mem_iff_getElem?.1 hv
          have hjl : j < vs.length := by rw [← hul]; exact (List.getElem?_eq_some_iff.1 hj).1
          obtain ⟨u, h13, h14⟩ := hus.2 j _ (List.getElem?_eq_getElem hjl)
          rw [hj] at h13
          cases h13
          exact h14.one)
      have R' := R.setCells (objA_spec hq) hel hp off vs us hus hfit
      rw [hk] at eu
      simp only [Oper.wp, execOp, Instr.storeAt, Instr.sureAddr, eu, Sem.run_bind, Sem.run_pure, Result.andThen_ok, storeVar, run_sizeA hs, hc]
      rw [if_neg (by simp [hul]), hst]
      simp only [Result.andThen_ok, Nat.add_zero, Oper.upon]
      refine A undefA _ _ _ _ _ H R' (Le.refl _) (MLe.refl _) rfl (fun l' p' ho' hs' => ?_)
      obtain ⟨_, _, _, _, s5⟩ := setCells_other p.b us (i * q.2.1 + off) w
      have hne := hS t x y l g i off rfl hx l' hs'
      exact ⟨s5 _ (R.inj l' l p' p ho' ⟨g, _, _, _, _, objA_spec hq, hp, hvir⟩ hne), ho'.set0 hne _⟩
    · exact H.elim
  case fieldAddr s x i =>
    have e := E x (by simp)
    have key : ∀ (b o : Nat) (q : Nat × TypeId), offA P s i = some q → a.eval x = .pointer (some ⟨b, o, none⟩) → (∀ (u : Value), u = .pointer (some ⟨b, o + q.1, none⟩) → next (a.put dst u) w) → Oper.wp P ⟨dst, .fieldAddr s x i, ty, pos, aft, guard⟩ a w next Q := by
      intro b o q hq eu hn
      unfold offA at hq
      split at hq
      · rename_i fs hfs
        obtain ⟨fd, hfd, hq⟩ := Option.bind_eq_some_iff.1 hq
        split at hq
        · cases hq
        · rename_i hne
          cases hq
          cases hi : P.info? fd.type with
          | none => simp [hi] at hne
          | some inf =>
            simp [hi] at hne
            have := hn _ rfl
            simp only [Oper.wp, execOp, Instr.fieldAt, Instr.sureAddr, eu, Sem.run_bind, Sem.run_pure, Result.andThen_ok, underlying, run_program, hfs, hfd, fieldPlace, sizeOf, typeInfo, hi, hne, if_false, add_lit, Nat.add_assoc, Oper.upon]
            simpa [hne, add_lit, Nat.add_assoc, Oper.upon] using this
      · cases hq
    split at H
    · rename_i l g j off hx
      obtain ⟨q, hq, ho, H⟩ := H.elim
      obtain ⟨qo, hqo⟩ := Option.isSome_iff_exists.1 ho
      rw [hx] at e
      obtain ⟨p, hp, hg, hk, hvir, eu⟩ := pt_at R hqo e
      refine key _ _ _ hq eu (fun u hu => A.val R H ?_)
      exact ⟨by rw [hu]; rfl, p, hp, by omega, fun _ => ⟨hvir, by rw [hu, Nat.add_assoc]⟩⟩
    · rename_i el off hx
      obtain ⟨q, hq, H⟩ := H.elim
      rw [hx] at e
      generalize hax : a.eval x = ux at e
      cases (show V0 M (.pel el off) ux from e) with
      | pel _ _ b o C hm hV =>
        have eu := hax.symm
        refine key _ _ _ hq eu.symm (fun u hu => A.val R H ?_)
        rw [hu, Nat.add_assoc]
        exact V0.pel el (off + q.1) b o C hm hV
    · exact H.elim
  case field s x i =>
    have e := E x (by simp)
    split at H
    · rename_i cs hx
      obtain ⟨q, hq, H⟩ := H.elim
      rw [hx] at e
      obtain ⟨us, eu, hus⟩ := e
      unfold offA at hq
      split at hq
      · rename_i fs hfs
        obtain ⟨fd, hfd, hq⟩ := Option.bind_eq_some_iff.1 hq
        split at hq
        · cases hq
        · cases hq
          obtain ⟨v, hv, H⟩ := H.elim
          have hp : ∃ u, (part fd.type us.toArray fd.offset).run P w = .ok u w ∧ VA φ M v u := by
            unfold partA at hv
            split at hv
            · rename_i hag
              split at hv
              · rename_i m hm
                split at hv
                · rename_i hle
                  cases hv
                  refine ⟨.agg ((us.drop fd.offset).take m).toArray, by simp [part, run_isAggA hag, run_sizeA hm, List.map_take, List.map_drop], _, rfl, by have := hus.1; simp; omega, fun j x hj => ?_⟩
                  rw [List.getElem?_take] at hj
                  split at hj
                  · rename_i hjm
                    rw [List.getElem?_drop] at hj
                    obtain ⟨u, h1, h2⟩ := hus.2 _ x hj
                    exact ⟨u, by rw [List.getElem?_take, if_pos hjm, List.getElem?_drop]; exact h1, h2⟩
                  · cases hj
                · cases hv
              · cases hv
            · rename_i hag
              obtain ⟨y, hy, rfl⟩ := Option.map_eq_some_iff.1 hv
              obtain ⟨u, h1, h2⟩ := hus.2 _ y hy
              exact ⟨u, by simp [part, run_isAggA hag, h1], V_VA h2⟩
            · cases hv
          obtain ⟨u, hp, hu⟩ := hp
          simp only [Oper.wp, execOp, Instr.field, asAgg, eu, Sem.run_bind, Sem.run_pure, Result.andThen_ok, underlying, run_program, hfs, hfd, hp, Oper.upon]
          exact A.val R H hu
      · cases hq
    · exact H.elim
  case indexAddr t x ix =>
    have e := E x (by simp)
    have ei := E ix (by simp)
    obtain ⟨el, hel, H⟩ := H.elim
    obtain ⟨m, hm, H⟩ := H.elim
    have hu := elemA_spec hel
    have key : ∀ (b o len cap : Nat) (kk : IntKind) (i : Int), a.eval x = .slice (some ⟨b, o, none⟩) len cap → a.eval ix = .int kk i → 0 ≤ i → i < len → (∀ (u : Value), u = .pointer (some ⟨b, o + i.toNat * m, none⟩) → next (a.put dst u) w) → Oper.wp P ⟨dst, .indexAddr t x ix, ty, pos, aft, guard⟩ a w next Q := by
      intro b o len cap kk i eu eu2 h0 h1 hn
      have := hn _ rfl
      simp only [Oper.wp, execOp, Instr.indexAt, asIntOf, eu, eu2, Sem.run_bind, Sem.run_pure, Result.andThen_ok, underlying, run_program, hu]
      rw [if_pos ⟨h0, h1⟩]
      simp only [Sem.run_bind, Sem.run_pure, Result.andThen_ok, run_sizeA hm, add_lit, Nat.add_assoc, Oper.upon]
      simpa [hu, run_sizeA hm, add_lit, Nat.add_assoc, Oper.upon] using this
    split at H
    · rename_i l g off len kk i hx hix
      obtain ⟨q, hq, hkm, h0, h1, H⟩ := H.elim
      rw [hx] at e
      rw [hix] at ei
      obtain ⟨g1, p, g2, g3, g4⟩ := e
      obtain ⟨p', h5, h6, h7, _⟩ := R.readR hq
      rw [g2] at h5
      cases h5
      rcases g4 h6 with ⟨_, _, hl0, _⟩ | ⟨hvir, eu⟩
      · omega
      · refine key _ _ _ _ _ _ eu (VA_c ei) h0 h1 (fun u hu => A.val R H ?_)
        refine ⟨by rw [hu]; rfl, p, g2, by omega, fun _ => ⟨hvir, ?_⟩⟩
        rw [hu, h7, hkm, Nat.add_zero, Nat.add_mul]
    · rename_i es kk i hx hix
      obtain ⟨h0, H⟩ := H
      obtain ⟨ee, hee, hkn, H2⟩ := H.elim
      clear H
      rw [hx] at e
      rw [hix] at ei
      have hil := (List.getElem?_eq_some_iff.1 hee).1
      generalize hax : a.eval x = ux at e
      cases (show V0 M (.im es) ux from e) with
      | im0 _ _ => simp at hee
      | im _ k b o cap C hk hc hm' hV =>
        have hkk : k = m := by rw [← hkn]; exact (hk ee (List.mem_of_getElem? hee)).symm
        subst hkk
        refine key _ _ _ _ _ _ hax (VA_c ei) h0 (by omega) (fun u hu => A.val R H2 ?_)
        rw [hu]
        have := V0.pel (M := M) ee 0 b (o + i.toNat * k) (C i.toNat) (fun j x hj => by rw [Nat.add_assoc]; exact hm' i.toNat ee j x hee hj) (fun j x hj => hV i.toNat ee j x hee hj)
        exact this
    · exact H.elim
  case index t x ix =>
    have e := E x (by simp)
    have ei := E ix (by simp)
    obtain ⟨hs, H⟩ := H
    have hu := strA_spec hs
    split at H
    · rename_i s kk i hx hix
      obtain ⟨h0, hi, H⟩ := H
      rw [hx] at e
      rw [hix] at ei
      have e := VA_c e
      have ei := VA_c ei
      have hr := run_index_string (P := P) (w := w) t s kk i hu
      rw [dif_pos ⟨h0, by omega⟩] at hr
      simp only [Oper.wp, execOp, e, ei, Sem.run_bind, hr, Sem.run_pure, Result.andThen_ok, Oper.upon]
      exact A.val R H rfl
    · exact H.elim
  case binOp op t x y ty2 =>
    have e := E x (by simp)
    have ey := E y (by simp)
    split at H
    · rename_i p q hx hy
      obtain ⟨v, hv, H⟩ := H.elim
      rw [hx] at e
      rw [hy] at ey
      have e := VA_c e
      have ey := VA_c ey
      have hg : (eqGuard op t x y p q).run P w = .ok () w := by
        unfold binA at hv
        split at hv
        · exact run_guard_int _ _ _ _ _ _ _ _
        · exact run_guard_string _ _ _ _ _ _
        · exact run_guard_bool _ _ _ _ _ _
        · cases hv
      simp only [Oper.wp, execOp, e, ey, Sem.run_bind, hg, run_binA t hv, Sem.run_pure, Result.andThen_ok, Oper.upon]
      exact A.val R H rfl
    · rename_i _ x' hx hy
      obtain ⟨he, hsl, hfr, H⟩ := H
      rw [hx] at e
      rw [hy] at ey
      generalize hax : a.eval x = ux at e
      generalize hay : a.eval y = uy at ey
      cases (show V0 M .nl uy from ey)
      have e : V φ M x' ux := by
        rcases VA_V e with e | ⟨v, rfl, _⟩
        · exact e
        · cases hsl
      obtain ⟨p, n1, c1, rfl, hnq⟩ := isSl_val R hsl hfr e
      obtain ⟨r1, r2⟩ := run_nilB (P := P) (w := w) (op := op) he p n1 c1
      have fin1 : (∀ b, nilQ x' = some b → K (.one (.c (.bool b))) h) → (nilQ x' = none → ∀ b, K (.one (.c (.bool b))) h) → op = .eql → Oper.wp P ⟨dst, .binOp op t x y ty2, ty, pos, aft, guard⟩ a w next Q := by
        intro k1 k2 hop
        subst hop
        simp only [Oper.wp, execOp, hax, hay, Sem.run_bind, run_guard_slice, r1, Sem.run_pure, Result.andThen_ok, Oper.upon]
        refine A.val R (v := .one (.c (.bool p.isNone))) ?_ rfl
        cases hq : nilQ x' with
        | none => exact k2 hq _
        | some b => rw [hnq b hq]; exact k1 b hq
      have fin2 : (∀ b, nilQ x' = some b → K (.one (.c (.bool (!b)))) h) → (nilQ x' = none → ∀ b, K (.one (.c (.bool b))) h) → op = .neq → Oper.wp P ⟨dst, .binOp op t x y ty2, ty, pos, aft, guard⟩ a w next Q := by
        intro k1 k2 hop
        subst hop
        simp only [Oper.wp, execOp, hax, hay, Sem.run_bind, run_guard_slice, r2, Sem.run_pure, Result.andThen_ok, Oper.upon]
        refine A.val R (v := .one (.c (.bool (!p.isNone)))) ?_ rfl
        cases hq : nilQ x' with
        | none => exact k2 hq _
        | some b => rw [hnq b hq]; exact k1 b hq
      split at H
      · rename_i b hq; exact fin1 (fun b' hb' => by rw [hq] at hb'; cases hb'; exact H) (fun hn => by rw [hq] at hn; cases hn) rfl
      · rename_i b hq; exact fin2 (fun b' hb' => by rw [hq] at hb'; cases hb'; exact H) (fun hn => by rw [hq] at hn; cases hn) rfl
      · rename_i hq; exact fin1 (fun b' hb' => by rw [hq] at hb'; cases hb') (fun _ => H) rfl
      · rename_i hq; exact fin2 (fun b' hb' => by rw [hq] at hb'; cases hb') (fun _ => H) rfl
      · exact H.elim
    · rename_i xs ys hx hy
      obtain ⟨fs, ht, H1⟩ := H.elim
      obtain ⟨b, hv, H2⟩ := H1.elim
      clear H H1
      rw [hx] at e
      rw [hy] at ey
      obtain ⟨us, e, hus⟩ := e
      obtain ⟨vs, ey, hvs⟩ := ey
      unfold eqTA at ht
      split at ht
      · rename_i fs0 hu
        split at ht
        · rename_i hc
          cases ht
          have hf : P.fieldsOf t = fs0 := by simp [Program.fieldsOf, hu]
          have hq := run_eqFA (P := P) (w := w) (d := 9998) hus hvs fs0.toList b hc.2.2 hv
          have hq' : (Op.equalIn 10000 t (.agg us.toArray) (.agg vs.toArray)).run P w = .ok b w := by
            rw [Go.run_equalIn_struct (P := P) w 9999 t _ _ (by rw [hf]; exact hu) hc.1, hf]
            exact hq
          cases op <;> simp only at H2
          · simp only [Oper.wp, execOp, e, ey, Sem.run_bind, Go.run_eqGuard_agg (P := P) w _ t x y _ _ hc.2.1, Go.run_eql_struct, hq', Result.andThen_ok, Sem.run_pure, Oper.upon]
            exact A.val R H2 rfl
          · simp only [Oper.wp, execOp, e, ey, Sem.run_bind, Go.run_eqGuard_agg (P := P) w _ t x y _ _ hc.2.1, Go.run_neq_struct, hq', Result.andThen_ok, Sem.run_pure, Oper.upon]
            exact A.val R H2 rfl
        · cases ht
      · cases ht
    · exact H.elim
  case unOp op t x =>
    have e := E x (by simp)
    split at H
    · rename_i p hx
      obtain ⟨v, hv, H⟩ := H.elim
      rw [hx] at e
      have e := VA_c e
      have hr : (Op.unary op p).run P w = .ok v w := by
        unfold unA at hv
        split at hv <;> cases hv <;> simp [Op.unary, Op.intArith]
      simp only [Oper.wp, execOp, e, Sem.run_bind, hr, Sem.run_pure, Result.andThen_ok, Oper.upon]
      exact A.val R H rfl
    · exact H.elim
  case extract x i =>
    have e := E x (by simp)
    split at H
    · rename_i xs hx
      obtain ⟨v, hv, H⟩ := H.elim
      rw [hx] at e
      obtain ⟨us, eu, h1, h2⟩ := e
      obtain ⟨u, h3, h4⟩ := h2 i v hv
      simp only [Oper.wp, execOp, Instr.extract, eu, Sem.run_bind, List.getElem?_toArray, h3, Sem.run_pure, Result.andThen_ok, Oper.upon]
      exact A.val R H (VA1_VA h4)
    · exact H.elim
  case nilCheck x =>
    have e := E x (by simp)
    split at H
    · rename_i l g i off hx
      obtain ⟨ho, H⟩ := H
      obtain ⟨qo, hqo⟩ := Option.isSome_iff_exists.1 ho
      rw [hx] at e
      obtain ⟨p, hp, hg, hk, hvir, eu⟩ := pt_at R hqo e
      have e2 := e
      rw [eu] at e2
      simp only [Oper.wp, execOp, eu, Sem.run_pure, Oper.upon]
      exact A.val R H e2
    · rename_i el off hx
      rw [hx] at e
      generalize hax : a.eval x = ux at e
      cases (show V0 M (.pel el off) ux from e) with
      | pel _ _ b o C hm hV =>
        simp only [Oper.wp, execOp, hax, Sem.run_pure, Oper.upon]
        exact A.val R H e
    · exact H.elim
  case convert src dst x =>
    have e := E x (by simp)
    split at H
    · rename_i k kk m hk hx
      obtain ⟨hsrc, H⟩ := H
      rw [hx] at e
      have e := VA_c e
      have hu := kindA_spec hk
      have hr : (convert src dst (.int kk m)).run P w = .ok (.int k (k.wrap m)) w := by
        obtain ⟨d, hd⟩ := Option.isSome_iff_exists.1 hsrc
        simp [convert, run_underlying hd, run_underlying hu, Conv.intToInt]
      simp only [Oper.wp, execOp, e, Sem.run_bind, hr, Sem.run_pure, Result.andThen_ok, Oper.upon]
      exact A.val R H rfl
    · exact H.elim
end
end Go.BL
