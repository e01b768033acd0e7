/- An abstract heap and a weakest precondition over it: what a Go function of a translated program does, told without worlds, draws and orders. Conditions: none; plain definitions and theorems over any program. -/
import Derived.Orders
import Derived.OrdersHeld
import Derived.Below
import Derived.WalkKit
import Derived.Deep.LoopGhost
import Derived.KernelRfl
namespace Go.AL
open Go.RowKit
set_option linter.unusedVariables false
set_option linter.unusedSimpArgs false

/-! ### 1. Values and objects -/
inductive CV where
  | c (v : Value)
  | ptr (l off : Nat)
  | sl (l k off len : Nat)
  | slc (l off len cap : Nat)
  | clo (g : Nat) (caps : List Nat)

structure Pl where
  b : Nat
  o : Nat
  cap : Nat
abbrev Phi := Nat → Pl
def adr (φ : Phi) (l off : Nat) : Addr := ⟨(φ l).b, (φ l).o + off, none⟩

def CV.conc (φ : Phi) : CV → Value
  | .c v => v
  | .ptr l off => .pointer (some (adr φ l off))
  | .sl l k off len => .slice (some (adr φ l off)) len (((φ l).cap - off) / k)
  | .slc l off len cap => .slice (some (adr φ l off)) len cap
  | .clo g caps => .func (.func g) #[] (caps.map fun l => Value.pointer (some (adr φ l 0))).toArray

def CV.wf (n : Nat) : CV → Prop
  | .c v => v.oneCell' = true
  | .ptr l _ => l < n
  | .sl l _ _ _ => l < n
  | .slc l _ _ _ => l < n
  | .clo _ caps => ∀ l ∈ caps, l < n

inductive AV where
  | one (x : CV)
  | agg (xs : List CV)
  | tup (xs : List AV)

mutual
def AV.conc (φ : Phi) : AV → Value
  | .one x => x.conc φ
  | .agg xs => .agg (xs.map (CV.conc φ)).toArray
  | .tup xs => .tuple (AV.concs φ xs).toArray
def AV.concs (φ : Phi) : List AV → List Value
  | [] => []
  | x :: r => x.conc φ :: AV.concs φ r
end
mutual
def AV.wf (n : Nat) : AV → Prop
  | .one x => x.wf n ∨ ∃ v, x = .c v
  | .agg xs => ∀ x ∈ xs, x.wf n
  | .tup xs => AV.wfs n xs
def AV.wfs (n : Nat) : List AV → Prop
  | [] => True
  | x :: r => x.wf n ∧ AV.wfs n r
end

inductive AO where
  | dead
  | ro (cs : List CV)
  | own (t u : Nat) (full : Bool) (cs : List CV)
def AO.cs : AO → List CV
  | .dead => []
  | .ro cs => cs
  | .own _ _ _ cs => cs
def AO.isOwn : AO → Bool
  | .own .. => true
  | _ => false
abbrev AH := List AO
abbrev AF := Nat → AV
@[reducible] def undefA : AV := .one (.c undef)
def upd (f : AF) (d : Nat) (v : AV) : AF := fun i => if i = d then v else f i
def put (f : AF) (dst : Option Nat) (v : AV) : AF := match dst with | some d => upd f d v | none => f

/-! ### 2. What an abstract state says of a world -/
def okFr (fr : Nat × Nat) (n : Nat) : Prop := fr.2 ≤ fr.1 ∨ n ≤ fr.1
def RepO (base : Nat) (φ : Phi) (w : World) (l : Nat) : AO → Prop
  | .dead => True
  | .ro cs => ((φ l).b < base ∧ cs.length ≤ (φ l).cap) ∧ ∀ (j : Nat) (x : CV), cs[j]? = some x → w.cell? (adr φ l j) = some (x.conc φ)
  | .own t u full cs => base ≤ (φ l).b ∧ (φ l).o = 0 ∧ ∃ C fr, w.heap[(φ l).b]? = some (.cells C t fr) ∧ C.size = (φ l).cap ∧ okFr fr C.size ∧ cs.length ≤ C.size ∧
      (full = true → cs.length = C.size) ∧ (u ≠ 0 → fr = (0, 0) ∧ ∃ q, C.size = q * u ∧ q ≤ maxLen) ∧ ∀ (j : Nat) (x : CV), cs[j]? = some x → C[j]? = some (x.conc φ)

structure Rep (base : Nat) (w0 : World) (φ : Phi) (h : AH) (w : World) : Prop where
  below : Below base w0 w
  hb : base ≤ w.heap.size
  obj : ∀ (l : Nat) (o : AO), h[l]? = some o → RepO base φ w l o
  wf : ∀ (l : Nat) (o : AO), h[l]? = some o → ∀ x ∈ o.cs, x.wf h.length
  inj : ∀ (i j : Nat) (oi oj : AO), h[i]? = some oi → h[j]? = some oj → oi.isOwn = true → oj.isOwn = true → i ≠ j → (φ i).b ≠ (φ j).b

/-- The frame: slots below n are what the abstract ones say. -/
structure FOk (n : Nat) (φ : Phi) (f : AF) (m : Nat) (a : Act) : Prop where
  size : a.tmps.size = n
  val : ∀ i, i < n → a.tmps[i]? = some ((f i).conc φ)
  wf : ∀ i, i < n → (f i).wf m
  defers : a.defers = []

def ACall (P : Program) (g : Nat) (args : List AV) (h : AH) (K : AV → AH → Prop) : Prop :=
  ∀ base w0 φ w, Rep base w0 φ h w → (∀ x ∈ args, x.wf h.length) →
    Calls P g (args.map (AV.conc φ)).toArray w fun e w' => ∃ r h' φ', e = .returned (r.conc φ') ∧ K r h' ∧ Rep base w0 φ' h' w' ∧ h.length ≤ h'.length ∧ (∀ l, l < h.length → φ' l = φ l) ∧ r.wf h'.length
theorem ACall.mono {P : Program} {g : Nat} {args : List AV} {h : AH} {K K' : AV → AH → Prop} (H : ACall P g args h K) (hk : ∀ r h', K r h' → K' r h') : ACall P g args h K' :=
  fun base w0 φ w hr ha => (H base w0 φ w hr ha).mono fun e w' ⟨r, h', φ', he, k, rest⟩ => ⟨r, h', φ', he, hk _ _ k, rest⟩

/-! ### 3. The weakest precondition -/
inductive AExit where
  | normal
  | exit (id : Nat)
  | ret
def Br (b : Bool) (x y : Unit → Prop) : Prop := match b with | true => x () | false => y ()
theorem Br.intro {b : Bool} {x y : Unit → Prop} (h1 : b = true → x ()) (h2 : b = false → y ()) : Br b x y := by cases b; exact h2 rfl; exact h1 rfl
theorem Br_true (x y : Unit → Prop) : Br true x y = x () := rfl
theorem Br_false (x y : Unit → Prop) : Br false x y = y () := rfl

def ofVal : Value → AV
  | .agg cs => if cs.toList.all (·.oneCell') = true then .agg (cs.toList.map .c) else .one (.c (.agg cs))
  | v => .one (.c v)
def ev (f : AF) : Operand → AV
  | .tmp t => f t
  | .const v => ofVal v
  | .global g => .one (.c (.pointer (some ⟨g, 0, none⟩)))
  | .func g => .one (.clo g [])

def AExit.then (N : AF → AH → Prop) (Q : AExit → AF → AH → Prop) : AExit → AF → AH → Prop
  | .normal, f, h => N f h
  | e, f, h => Q e f h
def AExit.inBlock (id : Nat) (Q : AExit → AF → AH → Prop) : AExit → AF → AH → Prop
  | .exit id', f, h => if id' = id then Q .normal f h else Q (.exit id') f h
  | e, f, h => Q e f h

/-! ### 4. Concrete and abstract: small laws -/
theorem conc_eq_of (φ φ' : Phi) {n : Nat} (hag : ∀ l, l < n → φ' l = φ l) : ∀ {x : CV}, x.wf n → x.conc φ' = x.conc φ
  | .c v, _ => rfl
  | .ptr l off, h => by simp only [CV.conc, adr, hag l h]
  | .sl l k off len, h => by simp only [CV.conc, adr, hag l h]
  | .slc l off len cap, h => by simp only [CV.conc, adr, hag l h]
  | .clo g caps, h => by
    simp only [CV.conc]
    congr 2
    refine List.map_congr_left fun l hl => ?_
    simp only [adr, hag l (h l hl)]
theorem CV.wf_mono {n m : Nat} (hm : n ≤ m) : ∀ {x : CV}, x.wf n → x.wf m
  | .c _, h => h
  | .ptr _ _, h => Nat.lt_of_lt_of_le h hm
  | .sl _ _ _ _, h => Nat.lt_of_lt_of_le h hm
  | .slc _ _ _ _, h => Nat.lt_of_lt_of_le h hm
  | .clo _ _, h => fun l hl => Nat.lt_of_lt_of_le (h l hl) hm
theorem CV.one_wf {n : Nat} (φ : Phi) : ∀ {x : CV}, x.wf n → (x.conc φ).oneCell' = true
  | .c _, h => h
  | .ptr _ _, _ => rfl
  | .sl _ _ _ _, _ => rfl
  | .slc _ _ _ _, _ => rfl
  | .clo _ _, _ => rfl
mutual
theorem AV.wf_mono {n m : Nat} (hm : n ≤ m) : ∀ {x : AV}, x.wf n → x.wf m
  | .one x, h => by unfold AV.wf at *; exact h.imp (CV.wf_mono hm) id
  | .agg xs, h => by unfold AV.wf at *; exact fun x hx => CV.wf_mono hm (h x hx)
  | .tup xs, h => by unfold AV.wf at *; exact AV.wfs_mono hm h
theorem AV.wfs_mono {n m : Nat} (hm : n ≤ m) : ∀ {xs : List AV}, AV.wfs n xs → AV.wfs m xs
  | [], _ => by unfold AV.wfs; trivial
  | x :: r, h => by unfold AV.wfs at *; exact ⟨AV.wf_mono hm h.1, AV.wfs_mono hm h.2⟩
end
mutual
theorem aconc_eq_of (φ φ' : Phi) {n : Nat} (hag : ∀ l, l < n → φ' l = φ l) : ∀ {x : AV}, x.wf n → x.conc φ' = x.conc φ
  | .one x, h => by
    unfold AV.wf at h
    unfold AV.conc
    rcases h with h | ⟨v, rfl⟩
    · exact conc_eq_of φ φ' hag h
    · rfl
  | .agg xs, h => by
    unfold AV.wf at h
    unfold AV.conc
    congr 2
    exact List.map_congr_left fun x hx => conc_eq_of φ φ' hag (h x hx)
  | .tup xs, h => by
    unfold AV.wf at h
    unfold AV.conc
    rw [aconcs_eq_of φ φ' hag h]
theorem aconcs_eq_of (φ φ' : Phi) {n : Nat} (hag : ∀ l, l < n → φ' l = φ l) : ∀ {xs : List AV}, AV.wfs n xs → AV.concs φ' xs = AV.concs φ xs
  | [], _ => by simp [AV.concs]
  | x :: r, h => by
    unfold AV.wfs at h
    unfold AV.concs
    rw [aconc_eq_of φ φ' hag h.1, aconcs_eq_of φ φ' hag h.2]
end
theorem ofVal_agg (cs : Array Value) : ofVal (.agg cs) = if cs.toList.all (·.oneCell') = true then .agg (cs.toList.map .c) else .one (.c (.agg cs)) := rfl
theorem conc_ofVal (φ : Phi) (v : Value) : (ofVal v).conc φ = v := by
  cases v <;> try (simp [ofVal, AV.conc, CV.conc, Function.comp_def]; done)
  rw [ofVal_agg]
  by_cases h : (‹Array Value›.toList.all (·.oneCell')) = true
  · rw [if_pos h]; simp [AV.conc, CV.conc, Function.comp_def]
  · rw [if_neg h]; simp [AV.conc, CV.conc]
theorem ofVal_wf (n : Nat) (v : Value) : (ofVal v).wf n := by
  cases v <;> try (unfold ofVal AV.wf; exact .inr ⟨_, rfl⟩)
  rw [ofVal_agg]
  by_cases h : (‹Array Value›.toList.all (·.oneCell')) = true
  · rw [if_pos h]
    unfold AV.wf
    intro x hx
    obtain ⟨v, hv, rfl⟩ := List.mem_map.1 hx
    exact (List.all_eq_true.1 h) v hv
  · rw [if_neg h]; unfold AV.wf; exact .inr ⟨_, rfl⟩

/-- The object is told of a world in which its block (or its cells) stand as they stood. -/
theorem RepO.move {base : Nat} {φ φ' : Phi} {w w' : World} {l n : Nat} {o : AO} (h : RepO base φ w l o) (hwf : ∀ x ∈ o.cs, x.wf n) (hag : ∀ l, l < n → φ' l = φ l) (hl : φ' l = φ l)
    (hblk : w'.heap[(φ l).b]? = w.heap[(φ l).b]?) : RepO base φ' w' l o := by
  cases o with
  | dead => trivial
  | ro cs =>
    obtain ⟨h1, h2⟩ := h
    refine ⟨by rw [hl]; exact h1, fun j x hj => ?_⟩
    have hx : x.wf n := hwf x (List.mem_of_getElem? hj)
    rw [conc_eq_of φ φ' hag hx, ← h2 j x hj]
    simp only [adr, hl]
    exact World.cell?_of_block hblk
  | own t u full cs =>
    obtain ⟨h1, h2, C, fr, h3, h4, h5, h6, h7, h8, h9⟩ := h
    refine ⟨by rw [hl]; exact h1, by rw [hl]; exact h2, C, fr, by rw [hl, hblk]; exact h3, by rw [hl]; exact h4, h5, h6, h7, h8, fun j x hj => ?_⟩
    rw [conc_eq_of φ φ' hag (hwf x (List.mem_of_getElem? hj))]
    exact h9 j x hj

section
variable {base : Nat} {w0 : World} {φ : Phi} {h : AH} {w : World}
/-- The world has changed in nothing that is told (draws). -/
theorem Rep.same (R : Rep base w0 φ h w) {w' : World} (hh : w'.heap = w.heap) (ho : w'.os = w.os) (ht : w'.tape = w.tape) (hout : w'.output = w.output) : Rep base w0 φ h w' where
  below := ⟨ho.trans R.below.os, ht.trans R.below.tape, hout.trans R.below.output, by rw [hh]; exact R.below.size, fun k hk => by rw [hh]; exact R.below.block k hk⟩
  hb := by rw [hh]; exact R.hb
  obj := fun l o hl => (R.obj l o hl).move (R.wf l o hl) (fun _ _ => rfl) rfl (by rw [hh])
  wf := R.wf
  inj := R.inj
theorem Rep.drew (R : Rep base w0 φ h w) : Rep base w0 φ h w.drew := R.same rfl rfl rfl rfl
def phiAt (φ : Phi) (n : Nat) (p : Pl) : Phi := fun l => if l = n then p else φ l
theorem phiAt_lt (φ : Phi) {n l : Nat} (p : Pl) (hl : l < n) : phiAt φ n p l = φ l := by simp [phiAt, Nat.ne_of_lt hl]
theorem phiAt_at (φ : Phi) (n : Nat) (p : Pl) : phiAt φ n p n = p := by simp [phiAt]
theorem own_lt (R : Rep base w0 φ h w) {l t u : Nat} {full : Bool} {cs : List CV} (hl : h[l]? = some (.own t u full cs)) : (φ l).b < w.heap.size := by
  obtain ⟨_, _, C, fr, h3, _⟩ := R.obj l _ hl
  exact (Array.getElem?_eq_some_iff.1 h3).1
/-- A new object in a new block. -/
theorem Rep.alloc (R : Rep base w0 φ h w) (t u : Nat) (full : Bool) (cs : List CV) (C : Array Value) (fr : Nat × Nat) (hfr : okFr fr C.size) (hlen : cs.length ≤ C.size) (hfull : full = true → cs.length = C.size)
    (h1 : u ≠ 0 → fr = (0, 0) ∧ ∃ q, C.size = q * u ∧ q ≤ maxLen) (hwf : ∀ x ∈ cs, x.wf h.length) (hC : ∀ (j : Nat) (x : CV), cs[j]? = some x → C[j]? = some (x.conc φ)) :
    Rep base w0 (phiAt φ h.length ⟨w.heap.size, 0, C.size⟩) (h ++ [.own t u full cs]) (w.alloc (.cells C t fr)) := by
  have hag : ∀ l, l < h.length → phiAt φ h.length ⟨w.heap.size, 0, C.size⟩ l = φ l := fun l hl => phiAt_lt φ _ hl
  have hold : ∀ (l : Nat) (o : AO), h[l]? = some o → l < h.length := fun l o hl => (List.getElem?_eq_some_iff.1 hl).1
  have hget : ∀ (l : Nat) (o : AO), (h ++ [AO.own t u full cs])[l]? = some o → h[l]? = some o ∨ (l = h.length ∧ o = .own t u full cs) := by
    intro l o hl
    rcases Nat.lt_or_ge l h.length with hlt | hge
    · left; rwa [List.getElem?_append_left hlt] at hl
    · right
      rw [List.getElem?_append_right hge] at hl
      have hz : l - h.length = 0 := by
        have := (List.getElem?_eq_some_iff.1 hl).1
        simpa using this
      rw [hz] at hl
      simp at hl
      exact ⟨by omega, hl.symm⟩
  have hblt : ∀ (l : Nat) (o : AO), h[l]? = some o → o.isOwn = true → (φ l).b < w.heap.size := by
    intro l o hl ho
    cases o with
    | own t u full cs => exact own_lt R hl
    | _ => cases ho
  refine ⟨R.below.alloc R.hb _, by rw [World.size_alloc]; have := R.hb; omega, ?_, ?_, ?_⟩
  · intro l o hl
    rcases hget l o hl with hl | ⟨rfl, rfl⟩
    · cases o with
      | dead => trivial
      | ro cs => exact (R.obj l _ hl).move (R.wf l _ hl) hag (hag l (hold l _ hl)) (Below.heap_alloc w _ _ (Nat.lt_of_lt_of_le (R.obj l _ hl).1.1 R.hb))
      | own t u full cs => exact (R.obj l _ hl).move (R.wf l _ hl) hag (hag l (hold l _ hl)) (Below.heap_alloc w _ _ (own_lt R hl))
    · refine ⟨by rw [phiAt_at]; exact R.hb, by rw [phiAt_at], C, fr, by rw [phiAt_at]; exact heap_alloc_new w _, by rw [phiAt_at], hfr, hlen, hfull, h1, fun j x hj => ?_⟩
      rw [conc_eq_of φ _ hag (hwf x (List.mem_of_getElem? hj))]
      exact hC j x hj
  · intro l o hl x hx
    rw [List.length_append, List.length_singleton]
    rcases hget l o hl with hl | ⟨rfl, rfl⟩
    · exact CV.wf_mono (Nat.le_succ _) (R.wf l o hl x hx)
    · exact CV.wf_mono (Nat.le_succ _) (hwf x hx)
  · intro i j oi oj hi hj hoi hoj hne
    rcases hget i oi hi with hi' | ⟨rfl, rfl⟩ <;> rcases hget j oj hj with hj' | ⟨rfl, rfl⟩
    · rw [hag i (hold i oi hi'), hag j (hold j oj hj')]
      exact R.inj i j oi oj hi' hj' hoi hoj hne
    · rw [hag i (hold i oi hi'), phiAt_at]
      have := hblt i oi hi' hoi
      show (φ i).b ≠ w.heap.size
      omega
    · rw [hag j (hold j oj hj'), phiAt_at]
      have := hblt j oj hj' hoj
      show w.heap.size ≠ (φ j).b
      omega
    · exact absurd rfl hne
end
end Go.AL
