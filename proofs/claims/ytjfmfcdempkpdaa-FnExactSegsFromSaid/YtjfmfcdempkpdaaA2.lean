/- One operation over an abstract heap, and that the machine follows it. Conditions: none. -/
import Derived.Test.YtjfmfcdempkpdaaA1
import Derived.Laws.Concat
import Derived.Laws.BytesString
import Derived.Lib.ConvBytes
import Derived.Laws.BytesArg
import Derived.Laws.Slices
import Derived.Laws.Build
import Derived.Laws.Tables
import Derived.Laws.Small
import Derived.Laws.MakeOwn
import Derived.Laws.StructEq
import Derived.Lib.SliceRun
namespace Go.AL
open Go.RowKit
set_option linter.unusedVariables false
set_option linter.unusedSimpArgs false

/-! ### 1. What a program says of its types -/
def aggA (P : Program) (t : TypeId) : Option Bool := (P.underlying t).map fun | .struct _ | .array _ _ => true | _ => false
def sizeA (P : Program) (t : TypeId) : Option Nat := (P.info? t).map (·.size)
def bytesA (P : Program) (t : TypeId) : Option Nat := (P.info? t).map (·.bytes)
def elemA (P : Program) (t : TypeId) : Option TypeId := match P.underlying t with | some (.slice e) => some e | _ => none
def strA (P : Program) (t : TypeId) : Bool := match P.underlying t with | some .string => true | _ => false
def boolA (P : Program) (t : TypeId) : Bool := match P.underlying t with | some .bool => true | _ => false
def kindA (P : Program) (t : TypeId) : Option IntKind := match P.underlying t with | some (.int k) => some k | _ => none
def offA (P : Program) (s : TypeId) (i : Nat) : Option (Nat × TypeId) := match P.underlying s with | some (.struct fs) => (fs[i]?).bind fun f => if ((P.info? f.type).map (·.size)).getD 0 = 0 then none else some (f.offset, f.type) | _ => none
def zeroA (P : Program) (t : TypeId) : Option (List CV) := ((P.info? t).bind (·.zero)).bind fun z => if z.cells.toList.all (·.oneCell') then some (z.cells.toList.map CV.c) else none
def placesA (P : Program) (t : TypeId) : Option (List (Nat × Nat)) := match P.underlying t with | some (.struct fs) => fs.toList.mapM (fun f => (P.info? f.type).map fun i => (f.offset, i.size)) | _ => none

/-! ### 2. The operations -/
def cellsA : AV → Option (List CV)
  | .one (.c v) => if v.oneCell' = true then some [.c v] else none
  | .one x => some [x]
  | .agg xs => some xs
  | .tup _ => none
def partA (P : Program) (t : TypeId) (cs : List CV) (off : Nat) : Option AV :=
  match aggA P t with
  | some true => match sizeA P t with | some n => if off + n ≤ cs.length then some (.agg ((cs.drop off).take n)) else none | none => none
  | some false => (cs[off]?).map .one
  | none => none
def On {α : Type} (x : Option α) (K : α → Prop) : Prop := match x with | some v => K v | none => False
theorem On.elim {α : Type} {x : Option α} {K : α → Prop} (h : On x K) : ∃ v, x = some v ∧ K v := by
  cases x with
  | none => exact False.elim h
  | some v => exact ⟨v, rfl, h⟩
def fillA (place : Nat → Option (Nat × Nat)) (cs : List CV) : List (Nat × List CV) → Option (List CV)
  | [] => some cs
  | (i, v) :: rest => match place i with
    | none => none
    | some (off, size) => if v.length = size ∧ off + size ≤ cs.length then fillA place (cset cs off v) rest else none

def intA (op : BinOp) (k : IntKind) (a b : Int) : Option Value :=
  match op with
  | .add => some (.int k (k.wrap (a + b)))
  | .sub => some (.int k (k.wrap (a - b)))
  | .mul => some (.int k (k.wrap (a * b)))
  | .quo => if b = 0 then none else some (.int k (k.wrap (a.tdiv b)))
  | .rem => if b = 0 then none else some (.int k (a.tmod b))
  | .and => some (.int k (k.wrap (BitVec.ofInt k.bits a &&& BitVec.ofInt k.bits b).toNat))
  | .or => some (.int k (k.wrap (BitVec.ofInt k.bits a ||| BitVec.ofInt k.bits b).toNat))
  | .xor => some (.int k (k.wrap (BitVec.ofInt k.bits a ^^^ BitVec.ofInt k.bits b).toNat))
  | .eql => some (.bool (a == b))
  | .neq => some (.bool (a != b))
  | .lss => some (.bool (decide (a < b)))
  | .leq => some (.bool (decide (a ≤ b)))
  | .gtr => some (.bool (decide (a > b)))
  | .geq => some (.bool (decide (a ≥ b)))
  | _ => none
def strOpA (op : BinOp) (a b : ByteArray) : Option Value :=
  match op with
  | .add => if a.size + b.size ≤ 9223372036854775807 then some (.string (a ++ b)) else none
  | .eql => some (.bool (a.toList == b.toList))
  | .neq => some (.bool (!(a.toList == b.toList)))
  | _ => none
/-- Both operands are plain values. -/
def binA (P : Program) (op : BinOp) (t : TypeId) (x y : Value) : Option Value :=
  match x, y with
  | .int k a, .int k' b => match op with
    | .shl => if b < 0 then none else some (.int k (k.wrap (a * 2 ^ min b.toNat k.bits)))
    | .shr => if b < 0 then none else some (.int k (a.fdiv (2 ^ min b.toNat k.bits)))
    | _ => if k = k' then intA op k a b else none
  | .string a, .string b => strOpA op a b
  | .bool a, .bool b => if boolA P t = true then match op with
    | .eql => some (.bool (a == b))
    | .neq => some (.bool (!(a == b)))
    | _ => none
    else none
  | _, _ => none
/-- A slice held against nil. -/
def nilA (P : Program) (op : BinOp) (t : TypeId) (x y : CV) : Option Bool :=
  if (elemA P t).isSome then
    match op, x, y with
    | .eql, .c (.slice none _ _), .c (.slice none _ _) => some true
    | .neq, .c (.slice none _ _), .c (.slice none _ _) => some false
    | .eql, .sl .., .c (.slice none _ _) => some false
    | .neq, .sl .., .c (.slice none _ _) => some true
    | .eql, .slc .., .c (.slice none _ _) => some false
    | .neq, .slc .., .c (.slice none _ _) => some true
    | _, _, _ => none
  else none
def eqVA (P : Program) (t : TypeId) : Value → Value → Option Bool
  | .int k a, .int k' b => if (kindA P t).isSome = true ∧ k = k' then some (a == b) else none
  | .string a, .string b => if strA P t = true then some (a.toList == b.toList) else none
  | .bool a, .bool b => if boolA P t = true then some (a == b) else none
  | _, _ => none
def eqFA (P : Program) (xs ys : List CV) : List (TypeId × Nat) → Option Bool
  | [] => some true
  | (t, off) :: r => match aggA P t, xs[off]?, ys[off]? with
    | some false, some (.c a), some (.c b) => (eqVA P t a b).bind fun e => (eqFA P xs ys r).map (e && ·)
    | _, _, _ => none
def eqTA (P : Program) (t : TypeId) : Option (List (TypeId × Nat)) := match P.underlying t with
  | some (.struct fs) => if P.stoodInHeld t = false ∧ P.eqGuardType P.depth t = false ∧ fs.toList.all (fun f => f.name != "_") = true then some (fs.toList.map fun f => (f.type, f.offset)) else none
  | _ => none
def unA (op : UnOp) (x : Value) : Option Value :=
  match op, x with
  | .neg, .int k n => some (.int k (k.wrap (0 - n)))
  | .not, .bool b => some (.bool (!b))
  | _, _ => none
def natOf : AV → Option Int
  | .one (.c (.int _ n)) => some n
  | _ => none

def aop1 (P : Program) (op : Op) (f : AF) (h : AH) (K : AV → AH → Prop) : Prop :=
  match op with
  | .move x => K (ev f x) h
  | .assign x => K (ev f x) h
  | .pick c a b => (match ev f c with | .one (.c (.bool t)) => K (if t = true then ev f a else ev f b) h | _ => False)
  | .alloc t => On (zeroA P t) fun cs => On (sizeA P t) fun n => n = cs.length ∧ K (.one (.ptr h.length 0)) (h ++ [.own t n true cs])
  | .box t x => On (cellsA (ev f x)) fun cs => K (.one (.ptr h.length 0)) (h ++ [.own t cs.length true cs])
  | .load t a => (match ev f a with
    | .one (.ptr l off) => On (h[l]?) fun o => On (partA P t o.cs off) fun v => K v h
    | _ => False)
  | .store t a x => (match ev f a with
    | .one (.ptr l off) => On (h[l]?) fun o => (match o with
      | .own ty u full cs => On (cellsA (ev f x)) fun vs => sizeA P t = some vs.length ∧ off + vs.length ≤ cs.length ∧ K undefA (h.set l (.own ty u full (cset cs off vs)))
      | _ => False)
    | _ => False)
  | .fieldAddr s x i => (match ev f x with
    | .one (.ptr l off) => On (offA P s i) fun q => K (.one (.ptr l (off + q.1))) h
    | _ => False)
  | .field s x i => (match ev f x with
    | .agg cs => On (offA P s i) fun q => On (partA P q.2 cs q.1) fun v => K v h
    | _ => False)
  | .indexAddr t x ix => On (elemA P t) fun e => On (sizeA P e) fun n => (match ev f x, ev f ix with
    | .one (.sl l k off len), .one (.c (.int _ i)) => 0 ≤ i ∧ i < len ∧ K (.one (.ptr l (off + i.toNat * n))) h
    | .one (.slc l off len cap), .one (.c (.int _ i)) => 0 ≤ i ∧ i < len ∧ K (.one (.ptr l (off + i.toNat * n))) h
    | _, _ => False)
  | .index t x ix => strA P t = true ∧ (match ev f x, ev f ix with
    | .one (.c (.string s)), .one (.c (.int _ i)) => 0 ≤ i ∧ ∃ hi : i.toNat < s.size, K (.one (.c (.int .u8 (s[i.toNat]'hi).toNat))) h
    | _, _ => False)
  | .binOp op t x y _ => (match ev f x, ev f y with
    | .one (.c a), .one (.c b) => (match binA P op t a b with
      | some v => K (.one (.c v)) h
      | none => On (nilA P op t (.c a) (.c b)) fun b => K (.one (.c (.bool b))) h)
    | .one a, .one b => On (nilA P op t a b) fun b => K (.one (.c (.bool b))) h
    | .agg xs, .agg ys => On (eqTA P t) fun fs => On (eqFA P xs ys fs) fun b => (match op with
      | .eql => K (.one (.c (.bool b))) h
      | .neq => K (.one (.c (.bool (!b)))) h
      | _ => False)
    | _, _ => False)
  | .unOp op _ x => (match ev f x with
    | .one (.c a) => On (unA op a) fun v => K (.one (.c v)) h
    | _ => False)
  | .extract x i => (match ev f x with
    | .tup xs => On (xs[i]?) fun v => K v h
    | _ => False)
  | .nilCheck x => (match ev f x with
    | .one (.ptr l off) => K (.one (.ptr l off)) h
    | _ => False)
  | .convert src dst x => (match kindA P dst, ev f x with
    | some k, .one (.c (.int _ n)) => (P.underlying src).isSome = true ∧ K (.one (.c (.int k (k.wrap n)))) h
    | _, _ => False)
  | _ => False

section
variable {P : Program} {base : Nat} {w0 : World} {φ : Phi} {h : AH} {w : World} {f : AF} {n : Nat} {a : Act}
theorem ev_conc (F : FOk n φ f h.length a) {x : Operand} (hx : ∀ t, x = .tmp t → t < n) : a.eval x = (ev f x).conc φ := by
  cases x with
  | tmp t =>
    have := F.val t (hx t rfl)
    simp [Act.eval, ev, this]
  | const v => simp [Act.eval, ev, conc_ofVal]
  | global g => simp [Act.eval, ev, AV.conc, CV.conc]
  | func g => simp [Act.eval, ev, AV.conc, CV.conc]
theorem ev_wf (F : FOk n φ f h.length a) {x : Operand} (hx : ∀ t, x = .tmp t → t < n) : (ev f x).wf h.length := by
  cases x with
  | tmp t => exact F.wf t (hx t rfl)
  | const v => exact ofVal_wf _ v
  | global g => unfold ev AV.wf; exact .inr ⟨_, rfl⟩
  | func g => unfold ev AV.wf; exact .inl (by unfold CV.wf; intro l hl; cases hl)

theorem cellsA_conc {x : AV} {cs : List CV} (hx : cellsA x = some cs) : (x.conc φ).cells = (cs.map (CV.conc φ)).toArray := by
  unfold cellsA at hx
  split at hx
  · rename_i v
    split at hx
    · rename_i h1
      cases hx
      cases v <;> first | (simp [AV.conc, CV.conc, Value.cells]; done) | (simp [Value.oneCell'] at h1)
    · cases hx
  · rename_i x hne
    cases hx
    cases x <;> first | (simp [AV.conc, CV.conc, Value.cells]; done) | exact absurd rfl (hne _)
  · cases hx
    simp [AV.conc, Value.cells]
  · cases hx
theorem cellsA_wf {x : AV} {cs : List CV} {m : Nat} (hx : cellsA x = some cs) (hw : x.wf m) : ∀ c ∈ cs, c.wf m := by
  unfold cellsA at hx
  split at hx
  · split at hx
    · rename_i h1
      cases hx
      intro c hc
      rw [List.mem_singleton.1 hc]
      exact h1
    · cases hx
  · rename_i x hne
    cases hx
    intro c hc
    rw [List.mem_singleton.1 hc]
    unfold AV.wf at hw
    rcases hw with hw | ⟨v, rfl⟩
    · exact hw
    · exact absurd rfl (hne _)
  · cases hx
    unfold AV.wf at hw
    exact hw
  · cases hx
theorem add_lit (b o i : Nat) : (⟨b, o, none⟩ : Addr).add i = ⟨b, o + i, none⟩ := by unfold Addr.add; split <;> simp_all
theorem run_isAggA {t : TypeId} {b : Bool} (ht : aggA P t = some b) (w : World) : (isAgg t).run P w = .ok b w := by
  unfold aggA at ht
  obtain ⟨d, hd, rfl⟩ := Option.map_eq_some_iff.1 ht
  simp only [isAgg, underlying, Sem.run_bind, run_program, Result.andThen_ok, hd, Sem.run_pure]
  cases d <;> rfl
theorem run_sizeA {t : TypeId} {m : Nat} (ht : sizeA P t = some m) (w : World) : (sizeOf t).run P w = .ok m w := by
  unfold sizeA at ht
  obtain ⟨i, hi, rfl⟩ := Option.map_eq_some_iff.1 ht
  simp [sizeOf, typeInfo, hi]
theorem run_loadVarA {t : TypeId} {v : AV} {cs : List CV} {off : Nat} {b o : Nat} (hv : partA P t cs off = some v) (hc : ∀ (j : Nat) (x : CV), cs[j]? = some x → w.cell? ⟨b, o + j, none⟩ = some (x.conc φ)) :
    (loadVar t ⟨b, o + off, none⟩).run P w = .ok (v.conc φ) w := by
  unfold partA at hv
  split at hv
  · rename_i hag
    split at hv
    · rename_i m hm
      split at hv
      · rename_i hle
        cases hv
        have hlen : (((cs.drop off).take m).map (CV.conc φ)).length = m := by simp; omega
        have := run_loadCells_list (P := P) (w := w) ⟨b, o + off, none⟩ (((cs.drop off).take m).map (CV.conc φ)) (fun j u hj => by
          rw [add_lit]
          rw [List.getElem?_map, List.getElem?_take] at hj
          split at hj
          · rw [List.getElem?_drop] at hj
            obtain ⟨x, hx, rfl⟩ := Option.map_eq_some_iff.1 hj
            rw [Nat.add_assoc]
            exact hc _ x hx
          · cases hj)
        rw [hlen] at this
        simp [loadVar, run_isAggA hag, run_sizeA hm, this, AV.conc]
      · cases hv
    · cases hv
  · rename_i hag
    obtain ⟨x, hx, rfl⟩ := Option.map_eq_some_iff.1 hv
    simp [loadVar, run_isAggA hag, hc off x hx, AV.conc]
  · cases hv
theorem partA_wf {t : TypeId} {v : AV} {cs : List CV} {off m : Nat} (hv : partA P t cs off = some v) (hw : ∀ x ∈ cs, x.wf m) : v.wf m := by
  unfold partA at hv
  split at hv
  · split at hv
    · split at hv
      · cases hv
        unfold AV.wf
        exact fun x hx => hw x (List.mem_of_mem_drop (List.mem_of_mem_take hx))
      · cases hv
    · cases hv
  · obtain ⟨x, hx, rfl⟩ := Option.map_eq_some_iff.1 hv
    unfold AV.wf
    exact .inl (hw x (List.mem_of_getElem? hx))
  · cases hv

theorem concs_get (φ : Phi) : ∀ (xs : List AV) (i : Nat) (v : AV), xs[i]? = some v → (AV.concs φ xs)[i]? = some (v.conc φ)
  | [], i, v, h => by simp at h
  | x :: r, 0, v, h => by simp at h; subst h; simp [AV.concs]
  | x :: r, i + 1, v, h => by
    rw [List.getElem?_cons_succ] at h
    rw [AV.concs, List.getElem?_cons_succ]
    exact concs_get φ r i v h
theorem wfs_get {m : Nat} : ∀ (xs : List AV) (i : Nat) (v : AV), AV.wfs m xs → xs[i]? = some v → v.wf m
  | [], i, v, _, h => by simp at h
  | x :: r, 0, v, hw, h => by simp at h; subst h; unfold AV.wfs at hw; exact hw.1
  | x :: r, i + 1, v, hw, h => by
    unfold AV.wfs at hw
    rw [List.getElem?_cons_succ] at h
    exact wfs_get r i v hw.2 h
theorem Rep.len_app (h : AH) (o : AO) : h.length ≤ (h ++ [o]).length := by simp
end

/-- What stands behind an operation. -/
def After (base : Nat) (w0 : World) (φ : Phi) (h : AH) (a : Act) (dst : Option Nat) (K : AV → AH → Prop) (next : Act → World → Prop) : Prop :=
  ∀ v h' φ' w', K v h' → Rep base w0 φ' h' w' → h.length ≤ h'.length → (∀ l, l < h.length → φ' l = φ l) → v.wf h'.length → next (a.put dst (v.conc φ')) w'

section
variable {P : Program} {base : Nat} {w0 : World} {φ : Phi} {h : AH} {w : World} {f : AF} {n : Nat} {a : Act} {K : AV → AH → Prop} {next : Act → World → Prop} {Q : Exit → Act → World → Prop}
theorem After.val {dst : Option Nat} {v : AV} (A : After base w0 φ h a dst K next) (R : Rep base w0 φ h w) (hk : K v h) (hw : v.wf h.length) : next (a.put dst (v.conc φ)) w :=
  A v h φ w hk R (Nat.le_refl _) (fun _ _ => rfl) hw
theorem run_guard_int (op : BinOp) (t : TypeId) (x y : Operand) (k k' : IntKind) (p q : Int) : (eqGuard op t x y (.int k p) (.int k' q)).run P w = .ok () w := by
  unfold eqGuard; cases op <;> simp
theorem run_guard_string (op : BinOp) (t : TypeId) (x y : Operand) (p q : ByteArray) : (eqGuard op t x y (.string p) (.string q)).run P w = .ok () w := by
  unfold eqGuard; cases op <;> simp
theorem run_guard_bool (op : BinOp) (t : TypeId) (x y : Operand) (p q : Bool) : (eqGuard op t x y (.bool p) (.bool q)).run P w = .ok () w := by
  unfold eqGuard; cases op <;> simp
theorem run_guard_slice (op : BinOp) (t : TypeId) (x y : Operand) (p q : Option Addr) (a b c d : Nat) : (eqGuard op t x y (.slice p a b) (.slice q c d)).run P w = .ok () w := by
  unfold eqGuard; cases op <;> simp
theorem run_intA {op : BinOp} {k : IntKind} {p q : Int} {v : Value} (t : TypeId) (hv : intA op k p q = some v) : (binOp op t (.int k p) (.int k q)).run P w = .ok v w := by
  cases op <;> simp only [intA] at hv
  case quo =>
    split at hv
    · cases hv
    · rename_i hq; cases hv; simp [binOp, Op.intDiv, hq]
  case rem =>
    split at hv
    · cases hv
    · rename_i hq; cases hv; simp [binOp, Op.intDiv, hq]
  all_goals (cases hv)
  all_goals (simp [binOp, Op.intArith, Op.intBits, Op.intCmp])
theorem run_strA {op : BinOp} {p q : ByteArray} {v : Value} (t : TypeId) (hv : strOpA op p q = some v) : (binOp op t (.string p) (.string q)).run P w = .ok v w := by
  cases op <;> simp only [strOpA] at hv
  case add =>
    split at hv
    · rename_i hle
      cases hv
      simp only [binOp, Op.stringOp]
      rw [if_neg (by simp [IntKind.max, IntKind.signed, IntKind.bits]; omega)]
      rfl
    · cases hv
  all_goals (cases hv)
  all_goals (simp [binOp, Op.stringOp])
theorem run_binA {op : BinOp} {x y v : Value} (t : TypeId) (hv : binA P op t x y = some v) : (binOp op t x y).run P w = .ok v w := by
  unfold binA at hv
  split at hv
  · rename_i k p k' q
    split at hv
    · split at hv
      · cases hv
      · rename_i hq; cases hv; simp [binOp, Op.shift, hq]
    · split at hv
      · cases hv
      · rename_i hq; cases hv; simp [binOp, Op.shift, hq]
    · split at hv
      · rename_i hk; subst hk; exact run_intA t hv
      · cases hv
  · exact run_strA t hv
  · rename_i p q
    split at hv
    · rename_i hb
      have hu : P.underlying t = some .bool := by
        unfold boolA at hb
        split at hb
        · assumption
        · cases hb
      split at hv
      · cases hv; exact run_eql_bool _ _ _ _ hu
      · cases hv; exact run_neq_bool _ _ _ _ hu
      · cases hv
    · cases hv
  · cases hv
theorem run_nilA {op : BinOp} {t : TypeId} {x y : CV} {b : Bool} (hv : nilA P op t x y = some b) : ∃ p q a1 b1 a2 b2, x.conc φ = .slice p a1 b1 ∧ y.conc φ = .slice q a2 b2 ∧ (binOp op t (.slice p a1 b1) (.slice q a2 b2)).run P w = .ok (.bool b) w := by
  unfold nilA at hv
  split at hv
  · rename_i hs
    obtain ⟨e, he⟩ := Option.isSome_iff_exists.1 hs
    have hu : P.underlying t = some (.slice e) := by
      unfold elemA at he
      split at he
      · rename_i e' he'; cases he; exact he'
      · cases he
    have h1 : ∀ (p : Option Addr) (n c n' c' : Nat), (binOp .eql t (.slice p n c) (.slice none n' c')).run P w = .ok (.bool p.isNone) w := fun p n c n' c' => by
      simp only [binOp]
      simp [Op.equal, Op.maxDepth, Lib.run_equalIn_slice_nil w 9999 t e p n c n' c' hu]
    have h2 : ∀ (p : Option Addr) (n c n' c' : Nat), (binOp .neq t (.slice p n c) (.slice none n' c')).run P w = .ok (.bool (!p.isNone)) w := fun p n c n' c' => by
      simp only [binOp]
      simp [Op.equal, Op.maxDepth, Lib.run_equalIn_slice_nil w 9999 t e p n c n' c' hu]
    split at hv <;> cases hv <;> first
      | exact ⟨_, _, _, _, _, _, rfl, rfl, h1 _ _ _ _ _⟩
      | exact ⟨_, _, _, _, _, _, rfl, rfl, h2 _ _ _ _ _⟩
  · cases hv
theorem run_eqVA {d : Nat} {t : TypeId} {x y : Value} {b : Bool} (hv : eqVA P t x y = some b) : (Op.equalIn (d + 1) t x y).run P w = .ok b w := by
  unfold eqVA at hv
  split at hv
  · split at hv
    · rename_i h
      cases hv
      obtain ⟨h1, rfl⟩ := h
      obtain ⟨k, hk⟩ := Option.isSome_iff_exists.1 h1
      have hu : P.underlying t = some (.int k) := by
        unfold kindA at hk
        split at hk
        · rename_i k' hk'; cases hk; exact hk'
        · cases hk
      exact Go.run_equalIn_int w d t _ _ _ _ hu
    · cases hv
  · split at hv
    · rename_i h
      cases hv
      have hu : P.underlying t = some .string := by
        unfold strA at h
        split at h
        · assumption
        · cases h
      exact Go.run_equalIn_string w d t _ _ hu
    · cases hv
  · split at hv
    · rename_i h
      cases hv
      have hu : P.underlying t = some .bool := by
        unfold boolA at h
        split at h
        · assumption
        · cases h
      exact Go.run_equalIn_bool' w d t _ _ hu
    · cases hv
  · cases hv
theorem run_eqFA {d : Nat} {xs ys : List CV} : ∀ (fs : List Field) (b : Bool), fs.all (fun f => f.name != "_") = true → eqFA P xs ys (fs.map fun f => (f.type, f.offset)) = some b →
    (Op.eqFields (d + 1) (xs.map (CV.conc φ)).toArray (ys.map (CV.conc φ)).toArray fs).run P w = .ok b w
  | [], b, _, hv => by simp only [List.map_nil, eqFA, Option.some.injEq] at hv; subst hv; simp [Op.eqFields]
  | f :: fs, b, hn, hv => by
    rw [List.all_cons, Bool.and_eq_true] at hn
    rw [List.map_cons, eqFA] at hv
    split at hv
    · rename_i a c hag hx hy
      obtain ⟨e, he, hv⟩ := Option.bind_eq_some_iff.1 hv
      obtain ⟨r, hr, rfl⟩ := Option.map_eq_some_iff.1 hv
      have ih := run_eqFA (d := d) fs r hn.2 hr
      have hn' : f.name ≠ "_" := by simpa using hn.1
      have p1 : (part f.type (xs.map (CV.conc φ)).toArray f.offset).run P w = .ok a w := by simp [part, run_isAggA hag, hx, CV.conc]
      have p2 : (part f.type (ys.map (CV.conc φ)).toArray f.offset).run P w = .ok c w := by simp [part, run_isAggA hag, hy, CV.conc]
      rw [Op.eqFields]
      simp only [if_pos hn', Sem.run_bind, p1, p2, run_eqVA he, Result.andThen_ok]
      cases e
      · simp
      · simpa using ih
    · cases hv
set_option maxHeartbeats 2000000 in
theorem aop1_sound (o : Oper) (R : Rep base w0 φ h w) (F : FOk n φ f h.length a) (hb : ∀ t, Operand.tmp t ∈ o.op.operands → t < n) (H : aop1 P o.op f h K) (A : After base w0 φ h a o.dst K next) : o.wp P a w next Q := by
  have E : ∀ x, x ∈ o.op.operands → a.eval x = (ev f x).conc φ := fun x hx => ev_conc F (fun t ht => hb t (ht ▸ hx))
  have W : ∀ x, x ∈ o.op.operands → (ev f x).wf h.length := fun x hx => ev_wf F (fun t ht => hb t (ht ▸ hx))
  clear hb F
  obtain ⟨dst, op, ty, pos, aft, guard⟩ := o
  simp only at *
  cases op <;> simp only [Op.operands] at E W <;> simp only [aop1] at H <;> try exact H.elim
  case move x =>
    have e := E x (by simp)
    simp only [Oper.wp, execOp, e, Sem.run_pure, Oper.upon]
    exact A.val R H (W x (by simp))
  case assign x =>
    have e := E x (by simp)
    simp only [Oper.wp, execOp, e, Sem.run_pure, Oper.upon]
    exact A.val R H (W x (by simp))
  case pick c x y =>
    split at H
    · rename_i t hc
      have ec := E c (by simp)
      have ex := E x (by simp)
      have ey := E y (by simp)
      rw [hc] at ec
      simp only [AV.conc, CV.conc] at ec
      simp only [Oper.wp, execOp, ec, ex, ey, asBool, Sem.run_bind, Sem.run_pure, Result.andThen_ok, Oper.upon]
      cases t
      · exact A.val R H (W y (by simp))
      · exact A.val R H (W x (by simp))
    · exact H.elim
  case alloc t =>
    obtain ⟨cs, hz, H⟩ := H.elim
    obtain ⟨m, hm, rfl, H⟩ := H.elim
    unfold zeroA at hz
    obtain ⟨z, hz1, hz2⟩ := Option.bind_eq_some_iff.1 hz
    split at hz2
    · rename_i hall
      cases hz2
      obtain ⟨i, hi, hiz⟩ := Option.bind_eq_some_iff.1 hz1
      have R' := R.alloc t z.cells.size true (z.cells.toList.map CV.c) z.cells (0, 0) (.inl (Nat.le_refl _)) (by simp) (fun _ => by simp) (fun _ => ⟨rfl, 1, by simp, by decide⟩)
        (fun x hx => by obtain ⟨v, hv, rfl⟩ := List.mem_map.1 hx; exact (List.all_eq_true.1 hall) v hv) (fun j x hj => by
          rw [List.getElem?_map] at hj
          obtain ⟨v, hv, rfl⟩ := Option.map_eq_some_iff.1 hj
          simpa [CV.conc] using hv)
      simp only [Oper.wp, execOp, Instr.alloc, zeroValue, typeInfo, Sem.run_bind, run_program, Result.andThen_ok, hi, Sem.run_pure, hiz, newVar, newRow, run_newObj_alloc, Oper.upon]
      have := A (.one (.ptr h.length 0)) _ _ _ (by simpa using H) R' (Rep.len_app h _) (fun l hl => phiAt_lt φ _ hl) (by unfold AV.wf CV.wf; exact .inl (by simp))
      simpa [AV.conc, CV.conc, adr, phiAt_at] using this
    · cases hz2
  case box t x =>
    obtain ⟨cs, hx, H⟩ := H.elim
    have e := E x (by simp)
    have hc := cellsA_conc (φ := φ) hx
    have hw := cellsA_wf hx (W x (by simp))
    have R' := R.alloc t cs.length true cs (cs.map (CV.conc φ)).toArray (0, 0) (.inl (Nat.le_refl _)) (by simp) (fun _ => by simp) (fun _ => ⟨rfl, 1, by simp, by decide⟩) hw (fun j x hj => by simp [hj])
    simp only [Oper.wp, execOp, Instr.box, e, Sem.run_bind, Sem.run_pure, Result.andThen_ok, newVar, newRow, run_newObj_alloc, Oper.upon, hc]
    have := A (.one (.ptr h.length 0)) _ _ _ H R' (Rep.len_app h _) (fun l hl => phiAt_lt φ _ hl) (by unfold AV.wf CV.wf; exact .inl (by simp))
    simpa [AV.conc, CV.conc, adr, phiAt_at] using this
  case load t x =>
    have e := E x (by simp)
    split at H
    · rename_i l off hx
      obtain ⟨ob, hl, H⟩ := H.elim
      obtain ⟨v, hv, H⟩ := H.elim
      rw [hx] at e
      have hr := run_loadVarA (P := P) (w := w) (φ := φ) (b := (φ l).b) (o := (φ l).o) hv (fun j y hj => R.cell hl hj)
      simp only [AV.conc, CV.conc, adr] at e
      simp only [Oper.wp, execOp, Instr.loadAt, Instr.sureAddr, e, Sem.run_bind, Sem.run_pure, Result.andThen_ok, hr, Oper.upon]
      exact A.val R H (partA_wf hv (R.wf l _ hl))
    · exact H.elim
  case store t x y =>
    have e := E x (by simp)
    have ey := E y (by simp)
    split at H
    · rename_i l off hx
      obtain ⟨ob, hl, H⟩ := H.elim
      split at H
      · rename_i ty2 u full cs
        obtain ⟨vs, hv, H⟩ := H.elim
        obtain ⟨hs, hfit, H⟩ := H
        rw [hx] at e
        have hc := cellsA_conc (φ := φ) hv
        have hw := cellsA_wf hv (W y (by simp))
        obtain ⟨g1, g2, C, fr, g3, g4, g5, g6, g7, g8, g9⟩ := R.obj l _ hl
        have hst := run_storeCells_cells (P := P) (φ l).b off (vs.map (CV.conc φ)) 0 w (fun j hj => by
            simp only [List.length_map] at hj
            have := R.cell hl (j := off + j) (x := cs[off + j]'(by omega)) (show cs[off + j]? = _ from List.getElem?_eq_getElem (by omega))
            simp only [adr, g2, Nat.zero_add] at this
            rw [Nat.add_zero, this]; rfl) (fun j hj => by
            simp only [List.length_map] at hj
            have := R.free hl (j := off + j) (by omega)
            simp only [adr, g2, Nat.zero_add] at this
            rw [Nat.add_zero]; exact this) (fun v hv => by
            obtain ⟨c, hc, rfl⟩ := List.mem_map.1 hv
            exact CV.one_wf φ (hw c hc))
        have R' := R.setCells hl off vs hfit hw
        simp only [AV.conc, CV.conc, adr, g2, Nat.zero_add] at e
        simp only [Oper.wp, execOp, Instr.storeAt, Instr.sureAddr, e, ey, Sem.run_bind, Sem.run_pure, Result.andThen_ok, storeVar, run_sizeA hs, hc]
        rw [if_neg (by simp), hst]
        simp only [Result.andThen_ok, Nat.add_zero, Oper.upon]
        have := A undefA _ _ _ H R' (by simp) (fun _ _ => rfl) (by unfold AV.wf; exact .inr ⟨_, rfl⟩)
        simpa [AV.conc, CV.conc] using this
      · exact H.elim
    · exact H.elim
  case fieldAddr s x i =>
    have e := E x (by simp)
    split at H
    · rename_i l off hx
      obtain ⟨q, hq, H⟩ := H.elim
      rw [hx] at e
      have hw := W x (by simp)
      rw [hx] at hw
      unfold offA at hq
      split at hq
      · rename_i fs hfs
        obtain ⟨fd, hfd, hq⟩ := Option.bind_eq_some_iff.1 hq
        split at hq
        · cases hq
        · rename_i hne
          cases hq
          cases hi : P.info? fd.type with
          | none => simp [hi] at hne
          | some inf =>
            simp [hi] at hne
            simp only [AV.conc, CV.conc, adr] at e
            have := A.val (v := .one (.ptr l (off + fd.offset))) R H (by unfold AV.wf CV.wf at hw ⊢; exact .inl (by rcases hw with hw | ⟨v, hw⟩; exact hw; cases hw))
            simp only [AV.conc, CV.conc, adr] at this
            simp only [Oper.wp, execOp, Instr.fieldAt, Instr.sureAddr, e, Sem.run_bind, Sem.run_pure, Result.andThen_ok, underlying, run_program, hfs, hfd, fieldPlace, sizeOf, typeInfo, hi, hne, if_false, add_lit, Nat.add_assoc, Oper.upon]
            simpa [hne, add_lit, Nat.add_assoc, Oper.upon] using this
      · cases hq
    · exact H.elim
  case field s x i =>
    have e := E x (by simp)
    split at H
    · rename_i cs hx
      obtain ⟨q, hq, H⟩ := H.elim
      rw [hx] at e
      have hw := W x (by simp)
      rw [hx] at hw
      unfold offA at hq
      split at hq
      · rename_i fs hfs
        obtain ⟨fd, hfd, hq⟩ := Option.bind_eq_some_iff.1 hq
        split at hq
        · cases hq
        · cases hq
          obtain ⟨v, hv, H⟩ := H.elim
          have hp : (part fd.type (cs.map (CV.conc φ)).toArray fd.offset).run P w = .ok (v.conc φ) w := by
            unfold partA at hv
            split at hv
            · rename_i hag
              split at hv
              · rename_i m hm
                split at hv
                · rename_i hle
                  cases hv
                  simp [part, run_isAggA hag, run_sizeA hm, AV.conc, List.map_take, List.map_drop]
                · cases hv
              · cases hv
            · rename_i hag
              obtain ⟨y, hy, rfl⟩ := Option.map_eq_some_iff.1 hv
              simp [part, run_isAggA hag, hy, AV.conc]
            · cases hv
          simp only [AV.conc] at e
          simp only [Oper.wp, execOp, Instr.field, asAgg, e, Sem.run_bind, Sem.run_pure, Result.andThen_ok, underlying, run_program, hfs, hfd, hp, Oper.upon]
          exact A.val R H (partA_wf hv (by unfold AV.wf at hw; exact hw))
      · cases hq
    · exact H.elim
  case indexAddr t x ix =>
    have e := E x (by simp)
    have ei := E ix (by simp)
    have hw := W x (by simp)
    obtain ⟨el, hel, H⟩ := H.elim
    obtain ⟨m, hm, H⟩ := H.elim
    have hu : P.underlying t = some (.slice el) := by
      unfold elemA at hel
      split at hel
      · rename_i e' he'; cases hel; exact he'
      · cases hel
    split at H
    · rename_i l k off len kk i hx hix
      obtain ⟨h0, h1, H⟩ := H
      rw [hx] at e hw
      rw [hix] at ei
      simp only [AV.conc, CV.conc, adr] at e ei
      have := A.val (v := .one (.ptr l (off + i.toNat * m))) R H (by unfold AV.wf CV.wf at hw ⊢; exact .inl (by rcases hw with hw | ⟨v, hw⟩; exact hw; cases hw))
      simp only [AV.conc, CV.conc, adr] at this
      simp only [Oper.wp, execOp, Instr.indexAt, asIntOf, e, ei, Sem.run_bind, Sem.run_pure, Result.andThen_ok, underlying, run_program, hu]
      rw [if_pos ⟨h0, h1⟩]
      simp only [Sem.run_bind, Sem.run_pure, Result.andThen_ok, run_sizeA hm, add_lit, Nat.add_assoc, Oper.upon]
      simpa [hu, run_sizeA hm, add_lit, Nat.add_assoc, Oper.upon] using this
    · rename_i l off len cap kk i hx hix
      obtain ⟨h0, h1, H⟩ := H
      rw [hx] at e hw
      rw [hix] at ei
      simp only [AV.conc, CV.conc, adr] at e ei
      have := A.val (v := .one (.ptr l (off + i.toNat * m))) R H (by unfold AV.wf CV.wf at hw ⊢; exact .inl (by rcases hw with hw | ⟨v, hw⟩; exact hw; cases hw))
      simp only [AV.conc, CV.conc, adr] at this
      simp only [Oper.wp, execOp, Instr.indexAt, asIntOf, e, ei, Sem.run_bind, Sem.run_pure, Result.andThen_ok, underlying, run_program, hu]
      rw [if_pos ⟨h0, h1⟩]
      simp only [Sem.run_bind, Sem.run_pure, Result.andThen_ok, run_sizeA hm, add_lit, Nat.add_assoc, Oper.upon]
      simpa [hu, run_sizeA hm, add_lit, Nat.add_assoc, Oper.upon] using this
    · exact H.elim
  case index t x ix =>
    have e := E x (by simp)
    have ei := E ix (by simp)
    obtain ⟨hs, H⟩ := H
    have hu : P.underlying t = some .string := by
      unfold strA at hs
      split at hs
      · assumption
      · cases hs
    split at H
    · rename_i s kk i hx hix
      obtain ⟨h0, hi, H⟩ := H
      rw [hx] at e
      rw [hix] at ei
      simp only [AV.conc, CV.conc] at e ei
      have := A.val (v := .one (.c (.int .u8 (s[i.toNat]'hi).toNat))) R H (by unfold AV.wf; exact .inr ⟨_, rfl⟩)
      simp only [AV.conc, CV.conc] at this
      have hr := run_index_string (P := P) (w := w) t s kk i hu
      rw [dif_pos ⟨h0, by omega⟩] at hr
      simp only [Oper.wp, execOp, e, ei, Sem.run_bind, hr, Sem.run_pure, Result.andThen_ok, Oper.upon]
      exact this
    · exact H.elim
  case binOp op t x y ty2 =>
    have e := E x (by simp)
    have ey := E y (by simp)
    have fin : ∀ (p q : CV) (b : Bool), ev f x = .one p → ev f y = .one q → nilA P op t p q = some b → K (.one (.c (.bool b))) h → (Oper.wp P ⟨dst, .binOp op t x y ty2, ty, pos, aft, guard⟩ a w next Q) := by
      intro p q b hx hy hv hk
      rw [hx] at e
      rw [hy] at ey
      obtain ⟨p1, q1, a1, b1, a2, b2, c1, c2, hr⟩ := run_nilA (P := P) (w := w) (φ := φ) hv
      simp only [AV.conc, c1] at e
      simp only [AV.conc, c2] at ey
      simp only [Oper.wp, execOp, e, ey, Sem.run_bind, run_guard_slice, hr, Sem.run_pure, Result.andThen_ok, Oper.upon]
      exact A.val (v := .one (.c (.bool b))) R hk (by unfold AV.wf; exact .inr ⟨_, rfl⟩)
    split at H
    · rename_i p q hx hy
      split at H
      · rename_i v hv
        rw [hx] at e
        rw [hy] at ey
        simp only [AV.conc, CV.conc] at e ey
        have hg : (eqGuard op t x y p q).run P w = .ok () w := by
          unfold binA at hv
          split at hv
          · exact run_guard_int _ _ _ _ _ _ _ _
          · exact run_guard_string _ _ _ _ _ _
          · exact run_guard_bool _ _ _ _ _ _
          · cases hv
        simp only [Oper.wp, execOp, e, ey, Sem.run_bind, hg, run_binA t hv, Sem.run_pure, Result.andThen_ok, Oper.upon]
        exact A.val (v := .one (.c v)) R H (by unfold AV.wf; exact .inr ⟨_, rfl⟩)
      · obtain ⟨b, hv, H⟩ := H.elim
        exact fin _ _ b hx hy hv H
    · rename_i p q _ hx hy
      obtain ⟨b, hv, H⟩ := H.elim
      exact fin _ _ b hx hy hv H
    · rename_i xs ys hx hy
      obtain ⟨fs, ht, H1⟩ := H.elim
      obtain ⟨b, hv, H2⟩ := H1.elim
      clear H H1
      rw [hx] at e
      rw [hy] at ey
      unfold eqTA at ht
      split at ht
      · rename_i fs0 hu
        split at ht
        · rename_i hc
          cases ht
          have hf : P.fieldsOf t = fs0 := by simp [Program.fieldsOf, hu]
          have hq := run_eqFA (P := P) (w := w) (φ := φ) (d := 9998) fs0.toList b hc.2.2 hv
          have hq' : (Op.equalIn 10000 t (.agg (xs.map (CV.conc φ)).toArray) (.agg (ys.map (CV.conc φ)).toArray)).run P w = .ok b w := by
            rw [Go.run_equalIn_struct (P := P) w 9999 t _ _ (by rw [hf]; exact hu) hc.1, hf]
            exact hq
          simp only [AV.conc] at e ey
          cases op <;> simp only at H2
          · simp only [Oper.wp, execOp, e, ey, Sem.run_bind, Go.run_eqGuard_agg (P := P) w _ t x y _ _ hc.2.1, Go.run_eql_struct, hq', Result.andThen_ok, Sem.run_pure, Oper.upon]
            exact A.val (v := .one (.c (.bool b))) R H2 (by unfold AV.wf; exact .inr ⟨_, rfl⟩)
          · simp only [Oper.wp, execOp, e, ey, Sem.run_bind, Go.run_eqGuard_agg (P := P) w _ t x y _ _ hc.2.1, Go.run_neq_struct, hq', Result.andThen_ok, Sem.run_pure, Oper.upon]
            exact A.val (v := .one (.c (.bool (!b)))) R H2 (by unfold AV.wf; exact .inr ⟨_, rfl⟩)
        · cases ht
      · cases ht
    · exact H.elim
  case unOp op t x =>
    have e := E x (by simp)
    split at H
    · rename_i p hx
      obtain ⟨v, hv, H⟩ := H.elim
      rw [hx] at e
      simp only [AV.conc, CV.conc] at e
      have hr : (Op.unary op p).run P w = .ok v w := by
        unfold unA at hv
        split at hv <;> cases hv <;> simp [Op.unary, Op.intArith]
      simp only [Oper.wp, execOp, e, Sem.run_bind, hr, Sem.run_pure, Result.andThen_ok, Oper.upon]
      exact A.val (v := .one (.c v)) R H (by unfold AV.wf; exact .inr ⟨_, rfl⟩)
    · exact H.elim
  case extract x i =>
    have e := E x (by simp)
    have hw := W x (by simp)
    split at H
    · rename_i xs hx
      obtain ⟨v, hv, H⟩ := H.elim
      rw [hx] at e hw
      simp only [AV.conc] at e
      unfold AV.wf at hw
      have hg := concs_get φ xs i v hv
      simp only [Oper.wp, execOp, Instr.extract, e, Sem.run_bind, List.getElem?_toArray, hg, Sem.run_pure, Result.andThen_ok, Oper.upon]
      exact A.val R H (wfs_get xs i v hw hv)
    · exact H.elim
  case nilCheck x =>
    have e := E x (by simp)
    have hw := W x (by simp)
    split at H
    · rename_i l off hx
      rw [hx] at e hw
      simp only [AV.conc, CV.conc] at e
      simp only [Oper.wp, execOp, e, Sem.run_pure, Oper.upon]
      exact A.val (v := .one (.ptr l off)) R H hw
    · exact H.elim
  case convert src dst x =>
    have e := E x (by simp)
    split at H
    · rename_i k kk m hk hx
      obtain ⟨hsrc, H⟩ := H
      rw [hx] at e
      simp only [AV.conc, CV.conc] at e
      have hu : P.underlying dst = some (.int k) := by
        unfold kindA at hk
        split at hk
        · rename_i k' hk'; cases hk; exact hk'
        · cases hk
      have hr : (convert src dst (.int kk m)).run P w = .ok (.int k (k.wrap m)) w := by
        obtain ⟨d, hd⟩ := Option.isSome_iff_exists.1 hsrc
        simp [convert, run_underlying hd, run_underlying hu, Conv.intToInt]
      simp only [Oper.wp, execOp, e, Sem.run_bind, hr, Sem.run_pure, Result.andThen_ok, Oper.upon]
      exact A.val (v := .one (.c (.int k (k.wrap m)))) R H (by unfold AV.wf; exact .inr ⟨_, rfl⟩)
    · exact H.elim
end
end Go.AL
