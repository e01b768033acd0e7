/- Abstract values by content, owned objects, and what they say of a world. Conditions: none; plain definitions and theorems over any program. -/
import Derived.Orders
import Derived.OrdersHeld
import Derived.Below
import Derived.WalkKit
import Derived.Deep.LoopGhost
import Derived.KernelRfl
import Derived.Laws.AppendOwn
import Derived.Laws.IdiomCopy
import Derived.Lib.SmallJoins
namespace Go.BL
open Go.RowKit
set_option linter.unusedVariables false
set_option linter.unusedSimpArgs false

/-! ### 1. Values -/
inductive CV where
  | c (v : Value)
  | nl
  | emp
  | im (es : List (List CV))
  | pel (e : List CV) (off : Nat)
  | pt (l g i off : Nat)
  | sl (l g off len : Nat)
  | clo (g : Nat) (caps : List Nat)
  | junk

structure Pl where
  b : Nat
  k : Nat
  cap : Nat
  g : Nat
  vir : Bool
abbrev Phi := Nat → Option Pl
abbrev Im := Addr → Value → Prop

inductive V0 (M : Im) : CV → Value → Prop
  | c (v : Value) (h : v.oneCell' = true) : V0 M (.c v) v
  | nl : V0 M .nl (.slice none 0 0)
  | emp (a : Option Addr) : V0 M .emp (.slice a 0 0)
  | im0 (a : Option Addr) (cap : Nat) : V0 M (.im []) (.slice a 0 cap)
  | im (es : List (List CV)) (k b o cap : Nat) (g : Nat → Nat → Value) (hk : ∀ e, e ∈ es → e.length = k) (hc : es.length ≤ cap)
      (hm : ∀ (i : Nat) (e : List CV) (j : Nat) (x : CV), es[i]? = some e → e[j]? = some x → M ⟨b, o + (i * k + j), none⟩ (g i j))
      (hv : ∀ (i : Nat) (e : List CV) (j : Nat) (x : CV), es[i]? = some e → e[j]? = some x → V0 M x (g i j)) : V0 M (.im es) (.slice (some ⟨b, o, none⟩) es.length cap)
  | pel (e : List CV) (off b o : Nat) (g : Nat → Value) (hm : ∀ (j : Nat) (x : CV), e[j]? = some x → M ⟨b, o + j, none⟩ (g j))
      (hv : ∀ (j : Nat) (x : CV), e[j]? = some x → V0 M x (g j)) : V0 M (.pel e off) (.pointer (some ⟨b, o + off, none⟩))
  | clo (g : Nat) : V0 M (.clo g []) (.func (.func g) #[] #[])
  | junk (u : Value) (h : u.oneCell' = true) : V0 M .junk u

/-- A pointer into an owned object. -/
def Vp (φ : Phi) (l g i off : Nat) (u : Value) : Prop := u.oneCell' = true ∧ ∃ p, φ l = some p ∧ g ≤ p.g ∧ (p.g = g → p.vir = false ∧ u = .pointer (some ⟨p.b, i * p.k + off, none⟩))
def Vsl (φ : Phi) (l g off len : Nat) (u : Value) : Prop := u.oneCell' = true ∧ ∃ p, φ l = some p ∧ g ≤ p.g ∧
  (p.g = g → (p.vir = true ∧ off = 0 ∧ len = 0 ∧ ∃ a, u = .slice a 0 0) ∨ (p.vir = false ∧ u = .slice (some ⟨p.b, off * p.k, none⟩) len (p.cap - off)))
def V (φ : Phi) (M : Im) (x : CV) (u : Value) : Prop := match x with
  | .pt l g i off => Vp φ l g i off u
  | .sl l g off len => Vsl φ l g off len u
  | .clo g caps => ∃ vs : List Value, u = .func (.func g) #[] vs.toArray ∧ vs.length = caps.length ∧ ∀ (j l : Nat), caps[j]? = some l → ∃ v, vs[j]? = some v ∧ Vp φ l 0 0 0 v
  | x => V0 M x u

inductive AV where
  | one (x : CV)
  | agg (xs : List CV)
  | tup (xs : List AV)
  | any
def Vs (φ : Phi) (M : Im) (xs : List CV) (us : List Value) : Prop := us.length = xs.length ∧ ∀ (j : Nat) (x : CV), xs[j]? = some x → ∃ u, us[j]? = some u ∧ V φ M x u
def VA1 (φ : Phi) (M : Im) (x : AV) (u : Value) : Prop := match x with
  | .one (.c v) => u = v
  | .one x => V φ M x u
  | .agg xs => ∃ us, u = .agg us.toArray ∧ Vs φ M xs us
  | .tup _ => False
  | .any => True
def VA (φ : Phi) (M : Im) (x : AV) (u : Value) : Prop := match x with
  | .tup xs => ∃ us : List Value, u = .tuple us.toArray ∧ us.length = xs.length ∧ ∀ (j : Nat) (x : AV), xs[j]? = some x → ∃ u, us[j]? = some u ∧ VA1 φ M x u
  | x => VA1 φ M x u
def VAs (φ : Phi) (M : Im) (xs : List AV) (us : List Value) : Prop := us.length = xs.length ∧ ∀ (j : Nat) (x : AV), xs[j]? = some x → ∃ u, us[j]? = some u ∧ VA φ M x u

inductive AO where
  | dead
  | ro (g : Nat) (t : TypeId) (k : Nat) (es : List (List CV))
  | own (g : Nat) (t : TypeId) (k : Nat) (cap : Option Nat) (es : List (List CV))
def AO.es : AO → List (List CV)
  | .dead => []
  | .ro _ _ _ es => es
  | .own _ _ _ _ es => es
def AO.isOwn : AO → Bool
  | .own .. => true
  | _ => false
abbrev AH := List AO
abbrev AF := Nat → AV
@[reducible] def undefA : AV := .one (.c undef)
def upd (f : AF) (d : Nat) (v : AV) : AF := fun i => if i = d then v else f i
def put (f : AF) (dst : Option Nat) (v : AV) : AF := match dst with | some d => upd f d v | none => f

/-! ### 2. What grows -/
def Le (φ φ' : Phi) : Prop := ∀ (l : Nat) (p : Pl), φ l = some p → ∃ p', φ' l = some p' ∧ (p' = p ∨ p.g < p'.g)
theorem Le.refl (φ : Phi) : Le φ φ := fun l p h => ⟨p, h, .inl rfl⟩
theorem Le.trans {φ φ' φ'' : Phi} (h : Le φ φ') (h' : Le φ' φ'') : Le φ φ'' := fun l p hl => by
  obtain ⟨p', h1, h2⟩ := h l p hl
  obtain ⟨p'', h3, h4⟩ := h' l p' h1
  refine ⟨p'', h3, ?_⟩
  rcases h2 with rfl | h2 <;> rcases h4 with rfl | h4
  · exact .inl rfl
  · exact .inr h4
  · exact .inr h2
  · exact .inr (Nat.lt_trans h2 h4)
def MLe (M M' : Im) : Prop := ∀ a v, M a v → M' a v
theorem MLe.refl (M : Im) : MLe M M := fun _ _ h => h
theorem MLe.trans {M M' M'' : Im} (h : MLe M M') (h' : MLe M' M'') : MLe M M'' := fun a v q => h' a v (h a v q)
theorem V0.mono {M M' : Im} (hM : MLe M M') {x : CV} {u : Value} (h : V0 M x u) : V0 M' x u := by
  induction h with
  | c v h => exact .c v h
  | nl => exact .nl
  | emp a => exact .emp a
  | im0 a cap => exact .im0 a cap
  | im es k b o cap g hk hc hm hv ih => exact .im es k b o cap g hk hc (fun i e j x h1 h2 => hM _ _ (hm i e j x h1 h2)) ih
  | pel e off b o g hm hv ih => exact .pel e off b o g (fun j x h1 => hM _ _ (hm j x h1)) ih
  | clo g => exact .clo g
  | junk u h => exact .junk u h
theorem V0.one {M : Im} {x : CV} {u : Value} (h : V0 M x u) : u.oneCell' = true := by
  cases h <;> first | rfl | assumption
theorem Vp.mono {φ φ' : Phi} (hφ : Le φ φ') {l g i off : Nat} {u : Value} (h : Vp φ l g i off u) : Vp φ' l g i off u := by
  obtain ⟨h1, p, h2, h3, h4⟩ := h
  obtain ⟨p', h5, h6⟩ := hφ l p h2
  refine ⟨h1, p', h5, ?_, fun e => ?_⟩
  · rcases h6 with rfl | h6
    · exact h3
    · omega
  · rcases h6 with rfl | h6
    · exact h4 e
    · omega
theorem Vsl.mono {φ φ' : Phi} (hφ : Le φ φ') {l g off len : Nat} {u : Value} (h : Vsl φ l g off len u) : Vsl φ' l g off len u := by
  obtain ⟨h1, p, h2, h3, h4⟩ := h
  obtain ⟨p', h5, h6⟩ := hφ l p h2
  refine ⟨h1, p', h5, ?_, fun e => ?_⟩
  · rcases h6 with rfl | h6
    · exact h3
    · omega
  · rcases h6 with rfl | h6
    · exact h4 e
    · omega
section
variable {φ φ' : Phi} {M M' : Im}
theorem V.mono (hφ : Le φ φ') (hM : MLe M M') {x : CV} {u : Value} (h : V φ M x u) : V φ' M' x u := by
  cases x with
  | pt l g i off => exact Vp.mono hφ h
  | sl l g off len => exact Vsl.mono hφ h
  | clo g caps =>
    obtain ⟨vs, h1, h2, h3⟩ := h
    refine ⟨vs, h1, h2, fun j l hj => ?_⟩
    obtain ⟨v, h4, h5⟩ := h3 j l hj
    exact ⟨v, h4, h5.mono hφ⟩
  | _ => exact V0.mono hM h
theorem V.one {x : CV} {u : Value} (h : V φ M x u) : u.oneCell' = true := by
  cases x with
  | pt l g i off => exact h.1
  | sl l g off len => exact h.1
  | clo g caps => obtain ⟨vs, rfl, _⟩ := h; rfl
  | _ => exact V0.one h
theorem Vs.mono (hφ : Le φ φ') (hM : MLe M M') {xs : List CV} {us : List Value} (h : Vs φ M xs us) : Vs φ' M' xs us :=
  ⟨h.1, fun j x hj => let ⟨u, h1, h2⟩ := h.2 j x hj; ⟨u, h1, h2.mono hφ hM⟩⟩
theorem VA1.mono (hφ : Le φ φ') (hM : MLe M M') {x : AV} {u : Value} (h : VA1 φ M x u) : VA1 φ' M' x u := by
  cases x with
  | one x =>
    cases x with
    | c v => exact h
    | _ => exact V.mono (x := _) (u := u) hφ hM (by simpa only [VA1] using h)
  | agg xs => obtain ⟨us, h1, h2⟩ := h; exact ⟨us, h1, h2.mono hφ hM⟩
  | tup xs => exact h
  | any => trivial
theorem VA.mono (hφ : Le φ φ') (hM : MLe M M') {x : AV} {u : Value} (h : VA φ M x u) : VA φ' M' x u := by
  cases x with
  | tup xs =>
    obtain ⟨us, h1, h2, h3⟩ := h
    refine ⟨us, h1, h2, fun j x hj => ?_⟩
    obtain ⟨u, h4, h5⟩ := h3 j x hj
    exact ⟨u, h4, h5.mono hφ hM⟩
  | one x => exact VA1.mono (x := .one x) hφ hM h
  | agg xs => exact VA1.mono (x := .agg xs) hφ hM h
  | any => trivial
theorem VAs.mono (hφ : Le φ φ') (hM : MLe M M') {xs : List AV} {us : List Value} (h : VAs φ M xs us) : VAs φ' M' xs us :=
  ⟨h.1, fun j x hj => let ⟨u, h1, h2⟩ := h.2 j x hj; ⟨u, h1, h2.mono hφ hM⟩⟩
theorem V_VA {x : CV} {u : Value} (h : V φ M x u) : VA φ M (.one x) u := by
  cases x with
  | c v => cases h; rfl
  | _ => exact h
theorem VA_V {x : CV} {u : Value} (h : VA φ M (.one x) u) : V φ M x u ∨ ∃ v, x = .c v ∧ u = v := by
  cases x with
  | c v => exact .inr ⟨v, rfl, h⟩
  | _ => exact .inl h
theorem VA1_VA {x : AV} {u : Value} (h : VA1 φ M x u) : VA φ M x u := by
  cases x with
  | tup xs => exact h.elim
  | one x => exact h
  | agg xs => exact h
  | any => trivial
end

/-! ### 3. What an abstract state says of a world -/
/-- Nothing of a block is frozen (behind bytes a mark may stand), and each cell is one value. -/
def okFr (fr : Nat × Nat) (C : Array Value) (k : Nat) : Prop := (fr.2 ≤ fr.1 ∨ (C.size ≤ fr.1 ∧ k = 1)) ∧ ∀ (i : Nat) (v : Value), C[i]? = some v → v.oneCell' = true
/-- The block of an owned object. -/
def Blk (φ : Phi) (M : Im) (w : World) (t : TypeId) (p : Pl) (es : List (List CV)) : Prop :=
  ∃ C fr, w.heap[p.b]? = some (.cells C t fr) ∧ C.size = p.cap * p.k ∧ okFr fr C p.k ∧ ∀ (i : Nat) (e : List CV) (j : Nat) (x : CV), es[i]? = some e → e[j]? = some x → ∃ v, C[i * p.k + j]? = some v ∧ V φ M x v
def RepO (φ : Phi) (M : Im) (w : World) (l : Nat) : AO → Prop
  | .dead => True
  | .ro g t k es => ∃ p, φ l = some p ∧ p.g = g ∧ p.k = k ∧ (∀ e, e ∈ es → e.length = k) ∧ es.length ≤ p.cap ∧ (p.vir = true → p.cap = 0) ∧ (p.vir = false → 0 < p.k ∧ ∃ C : Nat → Nat → Value, ∀ (i : Nat) (e : List CV) (j : Nat) (x : CV), es[i]? = some e → e[j]? = some x → M ⟨p.b, i * p.k + j, none⟩ (C i j) ∧ V0 M x (C i j))
  | .own g t k cap es => ∃ p, φ l = some p ∧ p.g = g ∧ p.k = k ∧ es.length ≤ p.cap ∧ (∀ c, cap = some c → p.cap = c) ∧ (∀ e, e ∈ es → e.length = k) ∧ (p.vir = true → p.cap = 0) ∧ (p.vir = false → 0 < p.k ∧ Blk φ M w t p es)
structure Cx where
  w : World
  B : Nat → Prop
  M : Im
/-- What this seat's package variables hold (its numbers are the seat's). -/
def tabB : Nat → Bool := fun _ => false
def tabP : Nat → Option Obj → Prop := fun _ _ => True
def TabG (G : Cx) : Prop := ∀ b, tabB b = true → b < G.w.heap.size ∧ ¬ G.B b ∧ tabP b G.w.heap[b]?
theorem TabG.of {G G' : Cx} (H : TabG G) (hw : G'.w = G.w) (hB : ∀ b, G'.B b → G.B b) : TabG G' := fun b hb => by
  obtain ⟨h1, h2, h3⟩ := H b hb
  rw [hw]
  exact ⟨h1, fun q => h2 (hB b q), h3⟩
/-- Object l stands in block p.b. -/
def Own (φ : Phi) (h : AH) (l : Nat) (p : Pl) : Prop := ∃ g t k cap es, h[l]? = some (.own g t k cap es) ∧ φ l = some p ∧ p.vir = false
structure Rep (G : Cx) (φ : Phi) (M : Im) (h : AH) (w : World) : Prop where
  os : w.os = G.w.os
  tape : w.tape = G.w.tape
  output : w.output = G.w.output ∧ TabG G
  size : G.w.heap.size ≤ w.heap.size
  blk : ∀ b, b < G.w.heap.size → ¬ G.B b → w.heap[b]? = G.w.heap[b]?
  mon : MLe G.M M
  imm : ∀ a v, M a v → w.cell? a = some v ∧ a.block < w.heap.size
  imn : ∀ a v, M a v → G.M a v ∨ G.B a.block ∨ G.w.heap.size ≤ a.block
  dom : ∀ l, h.length ≤ l → φ l = none
  obj : ∀ (l : Nat) (o : AO), h[l]? = some o → RepO φ M w l o
  new : ∀ l p, Own φ h l p → G.B p.b ∨ G.w.heap.size ≤ p.b
  inj : ∀ i j p q, Own φ h i p → Own φ h j q → i ≠ j → p.b ≠ q.b
  dis : ∀ a v l p, M a v → Own φ h l p → a.block ≠ p.b

/-- The frame: slots below n are what the abstract ones say. -/
structure FOk (n : Nat) (φ : Phi) (M : Im) (f : AF) (a : Act) : Prop where
  size : a.tmps.size = n
  val : ∀ i, i < n → ∃ u, a.tmps[i]? = some u ∧ VA φ M (f i) u
  defers : a.defers = []
theorem FOk.mono {n : Nat} {φ φ' : Phi} {M M' : Im} {f : AF} {a : Act} (F : FOk n φ M f a) (hφ : Le φ φ') (hM : MLe M M') : FOk n φ' M' f a :=
  ⟨F.size, fun i hi => let ⟨u, h1, h2⟩ := F.val i hi; ⟨u, h1, h2.mono hφ hM⟩, F.defers⟩

section
variable {G : Cx} {φ : Phi} {M : Im} {h : AH} {w : World}
theorem hlt {l : Nat} {o : AO} (hl : h[l]? = some o) : l < h.length := (List.getElem?_eq_some_iff.1 hl).1
theorem set_get {l l' : Nat} {o o' : AO} (hl : (h.set l o)[l']? = some o') : (l' = l ∧ o' = o ∧ l < h.length) ∨ (l' ≠ l ∧ h[l']? = some o') := by
  by_cases e : l' = l
  · subst e
    have hlt' : l' < h.length := by simpa using (List.getElem?_eq_some_iff.1 hl).1
    rw [List.getElem?_set_self hlt'] at hl
    exact .inl ⟨rfl, (Option.some.inj hl).symm, hlt'⟩
  · rw [List.getElem?_set_ne (Ne.symm e)] at hl
    exact .inr ⟨e, hl⟩
theorem app_get {o o' : AO} {l : Nat} (hl : (h ++ [o])[l]? = some o') : h[l]? = some o' ∨ (l = h.length ∧ o' = o) := by
  rcases Nat.lt_or_ge l h.length with hlt | hge
  · left; rwa [List.getElem?_append_left hlt] at hl
  · right
    rw [List.getElem?_append_right hge] at hl
    have hz : l - h.length = 0 := by
      have := (List.getElem?_eq_some_iff.1 hl).1
      simpa using this
    rw [hz] at hl
    simp at hl
    exact ⟨by omega, hl.symm⟩
theorem Rep.own_p (R : Rep G φ M h w) {l g k : Nat} {t : TypeId} {cap : Option Nat} {es : List (List CV)} (hl : h[l]? = some (.own g t k cap es)) : ∃ p, φ l = some p ∧ p.g = g ∧ p.k = k := by
  obtain ⟨p, h1, h2, h3, _⟩ := R.obj l _ hl
  exact ⟨p, h1, h2, h3⟩
theorem Rep.own_blk (R : Rep G φ M h w) {l : Nat} {p : Pl} (ho : Own φ h l p) : p.b < w.heap.size := by
  obtain ⟨g, t, k, cap, es, hl, hp, hv⟩ := ho
  obtain ⟨p', h1, _, _, _, _, _, _, h7⟩ := R.obj l _ hl
  rw [hp] at h1
  cases h1
  obtain ⟨_, C, fr, h8, _⟩ := h7 hv
  exact (Array.getElem?_eq_some_iff.1 h8).1
theorem RepO.move {φ' : Phi} {M' : Im} {w' : World} {l : Nat} {o : AO} (H : RepO φ M w l o) (hφ : Le φ φ') (hM : MLe M M') (hl : φ' l = φ l) (hb : ∀ p, φ l = some p → p.vir = false → o.isOwn = true → w'.heap[p.b]? = w.heap[p.b]?) : RepO φ' M' w' l o := by
  cases o with
  | dead => trivial
  | ro g t k es =>
    obtain ⟨p, h1, h2, hk, h3, h4, h5, h6⟩ := H
    refine ⟨p, hl.trans h1, h2, hk, h3, h4, h5, fun hv => ?_⟩
    obtain ⟨h7, C, h8⟩ := h6 hv
    exact ⟨h7, C, fun i e j x hi hj => ⟨hM _ _ (h8 i e j x hi hj).1, (h8 i e j x hi hj).2.mono hM⟩⟩
  | own g t k cap es =>
    obtain ⟨p, h1, h2, hk, h3, h4, h5, h6, h7⟩ := H
    refine ⟨p, hl.trans h1, h2, hk, h3, h4, h5, h6, fun hv => ?_⟩
    obtain ⟨h8, C, fr, h9, h10, h11, h12⟩ := h7 hv
    refine ⟨h8, C, fr, by rw [hb p h1 hv rfl]; exact h9, h10, h11, fun i e j x hi hj => ?_⟩
    obtain ⟨v, hv1, hv2⟩ := h12 i e j x hi hj
    exact ⟨v, hv1, hv2.mono hφ hM⟩
theorem cell_same {w w' : World} {a : Addr} (hb : w'.heap[a.block]? = w.heap[a.block]?) : w'.cell? a = w.cell? a := World.cell?_of_block (w := w) hb
/-- The world has changed in nothing that is told (draws). -/
theorem Rep.same (R : Rep G φ M h w) {w' : World} (hh : w'.heap = w.heap) (ho : w'.os = w.os) (ht : w'.tape = w.tape) (hout : w'.output = w.output) : Rep G φ M h w' where
  os := ho.trans R.os
  tape := ht.trans R.tape
  output := ⟨hout.trans R.output.1, R.output.2⟩
  size := by rw [hh]; exact R.size
  blk := fun b hb hn => by rw [hh]; exact R.blk b hb hn
  mon := R.mon
  imm := fun a v q => by rw [cell_same (w := w) (by rw [hh]), hh]; exact R.imm a v q
  imn := R.imn
  dom := R.dom
  obj := fun l o hl => (R.obj l o hl).move (Le.refl _) (MLe.refl _) rfl (fun _ _ _ _ => by rw [hh])
  new := R.new
  inj := R.inj
  dis := R.dis
theorem Rep.drew (R : Rep G φ M h w) : Rep G φ M h w.drew := R.same rfl rfl rfl rfl
def phiAt (φ : Phi) (n : Nat) (p : Pl) : Phi := fun l => if l = n then some p else φ l
theorem phiAt_ne (φ : Phi) {n l : Nat} (p : Pl) (hl : l ≠ n) : phiAt φ n p l = φ l := by simp [phiAt, hl]
theorem phiAt_at (φ : Phi) (n : Nat) (p : Pl) : phiAt φ n p n = some p := by simp [phiAt]
theorem Le.at_new {n : Nat} {p : Pl} (hn : φ n = none) : Le φ (phiAt φ n p) := fun l q hl => by
  have : l ≠ n := by intro e; subst e; rw [hn] at hl; cases hl
  exact ⟨q, by rw [phiAt_ne φ p this]; exact hl, .inl rfl⟩
theorem Le.at_gen {n : Nat} {p q : Pl} (hn : φ n = some q) (hg : q.g < p.g) : Le φ (phiAt φ n p) := fun l r hl => by
  by_cases e : l = n
  · subst e
    rw [hn] at hl
    cases hl
    exact ⟨p, phiAt_at φ l p, .inr hg⟩
  · exact ⟨r, by rw [phiAt_ne φ p e]; exact hl, .inl rfl⟩
/-- The cells of a new block say what they should. -/
def Says (φ : Phi) (M : Im) (k : Nat) (C : Array Value) (es : List (List CV)) : Prop := ∀ (i : Nat) (e : List CV) (j : Nat) (x : CV), es[i]? = some e → e[j]? = some x → ∃ v, C[i * k + j]? = some v ∧ V φ M x v
theorem Says.mono {φ' : Phi} {M' : Im} (hφ : Le φ φ') (hM : MLe M M') {k : Nat} {C : Array Value} {es : List (List CV)} (H : Says φ M k C es) : Says φ' M' k C es := fun i e j x hi hj => let ⟨v, h1, h2⟩ := H i e j x hi hj; ⟨v, h1, h2.mono hφ hM⟩
/-- A new object in a new block. -/
theorem Rep.alloc (R : Rep G φ M h w) (t : TypeId) (k n : Nat) (cap : Option Nat) (es : List (List CV)) (C : Array Value) (fr : Nat × Nat) (hk : 0 < k) (hC : C.size = n * k) (hfr : okFr fr C k) (hn : es.length ≤ n) (hcap : ∀ c, cap = some c → n = c)
    (hes : ∀ e, e ∈ es → e.length = k) (hS : Says φ M k C es) :
    Rep G (phiAt φ h.length ⟨w.heap.size, k, n, 0, false⟩) M (h ++ [.own 0 t k cap es]) (w.alloc (.cells C t fr)) ∧ Le φ (phiAt φ h.length ⟨w.heap.size, k, n, 0, false⟩) := by
  have hnone := R.dom h.length (Nat.le_refl _)
  have hle : Le φ (phiAt φ h.length ⟨w.heap.size, k, n, 0, false⟩) := Le.at_new hnone
  refine ⟨?_, hle⟩
  have hold : ∀ b, b < w.heap.size → (w.alloc (.cells C t fr)).heap[b]? = w.heap[b]? := fun b hb => Below.heap_alloc w _ _ hb
  have hown : ∀ l p, Own (phiAt φ h.length ⟨w.heap.size, k, n, 0, false⟩) (h ++ [.own 0 t k cap es]) l p → (Own φ h l p ∧ l < h.length) ∨ (l = h.length ∧ p = ⟨w.heap.size, k, n, 0, false⟩) := by
    rintro l p ⟨g, t', k', cap', es', hl, hp, hv⟩
    rcases app_get hl with hl | ⟨rfl, ho⟩
    · have := hlt hl
      rw [phiAt_ne φ _ (by omega)] at hp
      exact .inl ⟨⟨g, t', k', cap', es', hl, hp, hv⟩, this⟩
    · rw [phiAt_at] at hp
      cases hp
      exact .inr ⟨rfl, rfl⟩
  refine ⟨R.os, R.tape, R.output, by rw [World.size_alloc]; have := R.size; omega, fun b hb hnb => ?_, R.mon, fun a v q => ?_, R.imn, fun l hl => ?_, ?_, ?_, ?_, ?_⟩
  · rw [hold b (by have := R.size; omega)]; exact R.blk b hb hnb
  · obtain ⟨h1, h2⟩ := R.imm a v q
    rw [World.size_alloc, cell_same (hold a.block h2)]
    exact ⟨h1, by omega⟩
  · simp at hl
    rw [phiAt_ne φ _ (by omega)]
    exact R.dom l (by omega)
  · intro l o hl
    rcases app_get hl with hl | ⟨rfl, rfl⟩
    · have := hlt hl
      refine (R.obj l o hl).move hle (MLe.refl _) (phiAt_ne φ _ (by omega)) (fun p hp hv ho => ?_)
      cases o with
      | dead => cases ho
      | ro _ _ _ _ => cases ho
      | own g t' k' cap' es' => exact hold _ (R.own_blk ⟨g, t', k', cap', es', hl, hp, hv⟩)
    · refine ⟨_, phiAt_at φ _ _, rfl, rfl, hn, hcap, hes, fun hv => (by cases hv), fun _ => ⟨hk, C, fr, heap_alloc_new w _, hC, hfr, hS.mono hle (MLe.refl _)⟩⟩
  · intro l p ho
    rcases hown l p ho with ⟨ho, _⟩ | ⟨rfl, rfl⟩
    · exact R.new l p ho
    · exact .inr R.size
  · intro i j p q hi hj hne
    rcases hown i p hi with ⟨hi, hil⟩ | ⟨rfl, rfl⟩ <;> rcases hown j q hj with ⟨hj, hjl⟩ | ⟨rfl, rfl⟩
    · exact R.inj i j p q hi hj hne
    · have := R.own_blk hi; show p.b ≠ w.heap.size; omega
    · have := R.own_blk hj; show w.heap.size ≠ q.b; omega
    · exact absurd rfl hne
  · intro a v l p hm ho
    rcases hown l p ho with ⟨ho, _⟩ | ⟨rfl, rfl⟩
    · exact R.dis a v l p hm ho
    · have := (R.imm a v hm).2; show a.block ≠ w.heap.size; omega
/-- A new object without a block. -/
theorem Rep.virt (R : Rep G φ M h w) (t : TypeId) (k : Nat) :
    Rep G (phiAt φ h.length ⟨0, k, 0, 0, true⟩) M (h ++ [.own 0 t k none []]) w ∧ Le φ (phiAt φ h.length ⟨0, k, 0, 0, true⟩) := by
  have hnone := R.dom h.length (Nat.le_refl _)
  have hle : Le φ (phiAt φ h.length ⟨0, k, 0, 0, true⟩) := Le.at_new hnone
  refine ⟨?_, hle⟩
  have hown : ∀ l p, Own (phiAt φ h.length ⟨0, k, 0, 0, true⟩) (h ++ [.own 0 t k none []]) l p → Own φ h l p := by
    rintro l p ⟨g, t', k', cap', es', hl, hp, hv⟩
    rcases app_get hl with hl | ⟨rfl, ho⟩
    · have := hlt hl
      rw [phiAt_ne φ _ (by omega)] at hp
      exact ⟨g, t', k', cap', es', hl, hp, hv⟩
    · rw [phiAt_at] at hp
      cases hp
      cases hv
  refine ⟨R.os, R.tape, R.output, R.size, R.blk, R.mon, R.imm, R.imn, fun l hl => ?_, ?_, fun l p ho => R.new l p (hown l p ho), fun i j p q hi hj hne => R.inj i j p q (hown i p hi) (hown j q hj) hne, fun a v l p hm ho => R.dis a v l p hm (hown l p ho)⟩
  · simp at hl
    rw [phiAt_ne φ _ (by omega)]
    exact R.dom l (by omega)
  · intro l o hl
    rcases app_get hl with hl | ⟨rfl, rfl⟩
    · have := hlt hl
      exact (R.obj l o hl).move hle (MLe.refl _) (phiAt_ne φ _ (by omega)) (fun _ _ _ _ => rfl)
    · exact ⟨_, phiAt_at φ _ _, rfl, rfl, Nat.le_refl _, fun c hc => (by cases hc), fun e he => (by cases he), fun _ => rfl, fun hv => by cases hv⟩
/-- An object is let go. -/
theorem Rep.kill (R : Rep G φ M h w) (l : Nat) : Rep G φ M (h.set l .dead) w := by
  have hown : ∀ i p, Own φ (h.set l .dead) i p → Own φ h i p := by
    rintro i p ⟨g, t', k', cap', es', hi, hp, hv⟩
    rcases set_get hi with ⟨rfl, ho, _⟩ | ⟨_, hi⟩
    · cases ho
    · exact ⟨g, t', k', cap', es', hi, hp, hv⟩
  refine ⟨R.os, R.tape, R.output, R.size, R.blk, R.mon, R.imm, R.imn, fun l hl => R.dom l (by simpa using hl), ?_, fun l p ho => R.new l p (hown l p ho), fun i j p q hi hj hne => R.inj i j p q (hown i p hi) (hown j q hj) hne, fun a v l p hm ho => R.dis a v l p hm (hown l p ho)⟩
  intro l' o' hl'
  rcases set_get hl' with ⟨rfl, rfl, _⟩ | ⟨_, hl'⟩
  · trivial
  · exact R.obj l' o' hl'
/-- An object's own block is written, its generation may grow. -/
theorem Rep.write (R : Rep G φ M h w) {l g k : Nat} {t : TypeId} {cap : Option Nat} {es : List (List CV)} (hl : h[l]? = some (.own g t k cap es)) {p : Pl} (hp : φ l = some p) (hv : p.vir = false) {w' : World} (hos : w'.os = w.os) (htp : w'.tape = w.tape) (hout : w'.output = w.output)
    (hsz : w'.heap.size = w.heap.size) (hoth : ∀ b, b ≠ p.b → w'.heap[b]? = w.heap[b]?) (C : Array Value) (fr : Nat × Nat) (hblk : w'.heap[p.b]? = some (.cells C t fr)) (hC : C.size = p.cap * p.k) (hfr : okFr fr C p.k) (g' : Nat) (hg : g' = p.g ∨ p.g < g')
    (cap' : Option Nat) (hcap : ∀ c, cap' = some c → p.cap = c) (es' : List (List CV)) (hn : es'.length ≤ p.cap) (hes : ∀ e, e ∈ es' → e.length = k) (hS : Says φ M k C es') :
    Rep G (phiAt φ l { p with g := g' }) M (h.set l (.own g' t k cap' es')) w' ∧ Le φ (phiAt φ l { p with g := g' }) := by
  have hle : Le φ (phiAt φ l { p with g := g' }) := by
    rcases hg with rfl | hg
    · intro i q hi
      by_cases e : i = l
      · subst e
        rw [hp] at hi
        cases hi
        exact ⟨_, phiAt_at φ _ _, .inl rfl⟩
      · exact ⟨q, by rw [phiAt_ne φ _ e]; exact hi, .inl rfl⟩
    · exact Le.at_gen hp hg
  refine ⟨?_, hle⟩
  have hO : Own φ h l p := ⟨g, t, k, cap, es, hl, hp, hv⟩
  obtain ⟨p0, h1, h2, hk, h3, h4, h5, h6, h7⟩ := R.obj l _ hl
  rw [hp] at h1
  cases h1
  subst hk
  obtain ⟨h8, -⟩ := h7 hv
  have hown : ∀ i q, Own (phiAt φ l { p with g := g' }) (h.set l (.own g' t p.k cap' es')) i q → (i ≠ l ∧ Own φ h i q) ∨ (i = l ∧ q.b = p.b) := by
    rintro i q ⟨g1, t1, k1, cap1, es1, hi, hq, hv1⟩
    rcases set_get hi with ⟨rfl, ho, _⟩ | ⟨hne, hi⟩
    · rw [phiAt_at] at hq
      cases hq
      exact .inr ⟨rfl, rfl⟩
    · rw [phiAt_ne φ _ hne] at hq
      exact .inl ⟨hne, ⟨g1, t1, k1, cap1, es1, hi, hq, hv1⟩⟩
  have hpb := R.new l p hO
  refine ⟨hos.trans R.os, htp.trans R.tape, ⟨hout.trans R.output.1, R.output.2⟩, by rw [hsz]; exact R.size, fun b hb hnb => ?_, R.mon, fun a v q => ?_, R.imn, fun i hi => ?_, ?_, ?_, ?_, ?_⟩
  · rw [hoth b (by intro e; subst e; rcases hpb with hpb | hpb; exact hnb hpb; omega)]; exact R.blk b hb hnb
  · obtain ⟨q1, q2⟩ := R.imm a v q
    rw [hsz, cell_same (hoth a.block (R.dis a v l p q hO))]
    exact ⟨q1, q2⟩
  · simp at hi
    rw [phiAt_ne φ _ (by have := hlt hl; omega)]
    exact R.dom i hi
  · intro i o hi
    rcases set_get hi with ⟨rfl, rfl, _⟩ | ⟨hne, hi⟩
    · exact ⟨_, phiAt_at φ _ _, rfl, rfl, hn, hcap, hes, h6, fun _ => ⟨h8, C, fr, hblk, hC, hfr, hS.mono hle (MLe.refl _)⟩⟩
    · refine (R.obj i o hi).move hle (MLe.refl _) (phiAt_ne φ _ hne) (fun q hq hvq ho => ?_)
      cases o with
      | dead => cases ho
      | ro _ _ _ _ => cases ho
      | own g1 t1 k1 cap1 es1 => exact hoth _ (R.inj i l q p ⟨g1, t1, k1, cap1, es1, hi, hq, hvq⟩ hO hne)
  · intro i q ho
    rcases hown i q ho with ⟨_, ho⟩ | ⟨rfl, e⟩
    · exact R.new i q ho
    · rw [e]; exact hpb
  · intro i j q r hi hj hne
    rcases hown i q hi with ⟨hi1, hi2⟩ | ⟨rfl, e1⟩ <;> rcases hown j r hj with ⟨hj1, hj2⟩ | ⟨rfl, e2⟩
    · exact R.inj i j q r hi2 hj2 hne
    · rw [e2]; exact R.inj i _ q p hi2 hO hne
    · rw [e1]; exact R.inj _ j p r hO hj2 hne
    · exact absurd rfl hne
  · intro a v i q hm ho
    rcases hown i q ho with ⟨_, ho⟩ | ⟨rfl, e⟩
    · exact R.dis a v i q hm ho
    · rw [e]; exact R.dis a v i p hm hO
/-- An object comes to stand in a new block. -/
theorem Rep.regrow (R : Rep G φ M h w) {l g k0 : Nat} {t0 : TypeId} {cap : Option Nat} {es : List (List CV)} (hl : h[l]? = some (.own g t0 k0 cap es)) (t : TypeId) (k n : Nat) (es' : List (List CV)) (C : Array Value) (fr : Nat × Nat) (hk : 0 < k) (hC : C.size = n * k) (hfr : okFr fr C k) (hn : es'.length ≤ n)
    (hes : ∀ e, e ∈ es' → e.length = k) (hS : Says φ M k C es') :
    Rep G (phiAt φ l ⟨w.heap.size, k, n, g + 1, false⟩) M (h.set l (.own (g + 1) t k none es')) (w.alloc (.cells C t fr)) ∧ Le φ (phiAt φ l ⟨w.heap.size, k, n, g + 1, false⟩) := by
  obtain ⟨p, hp, hg, _⟩ := R.own_p hl
  have hle : Le φ (phiAt φ l ⟨w.heap.size, k, n, g + 1, false⟩) := Le.at_gen hp (by simp; omega)
  refine ⟨?_, hle⟩
  have hold : ∀ b, b < w.heap.size → (w.alloc (.cells C t fr)).heap[b]? = w.heap[b]? := fun b hb => Below.heap_alloc w _ _ hb
  have hown : ∀ i q, Own (phiAt φ l ⟨w.heap.size, k, n, g + 1, false⟩) (h.set l (.own (g + 1) t k none es')) i q → (i ≠ l ∧ Own φ h i q) ∨ (i = l ∧ q.b = w.heap.size) := by
    rintro i q ⟨g1, t1, k1, cap1, es1, hi, hq, hv1⟩
    rcases set_get hi with ⟨rfl, ho, _⟩ | ⟨hne, hi⟩
    · rw [phiAt_at] at hq
      cases hq
      exact .inr ⟨rfl, rfl⟩
    · rw [phiAt_ne φ _ hne] at hq
      exact .inl ⟨hne, ⟨g1, t1, k1, cap1, es1, hi, hq, hv1⟩⟩
  refine ⟨R.os, R.tape, R.output, by rw [World.size_alloc]; have := R.size; omega, fun b hb hnb => ?_, R.mon, fun a v q => ?_, R.imn, fun i hi => ?_, ?_, ?_, ?_, ?_⟩
  · rw [hold b (by have := R.size; omega)]; exact R.blk b hb hnb
  · obtain ⟨q1, q2⟩ := R.imm a v q
    rw [World.size_alloc, cell_same (hold a.block q2)]
    exact ⟨q1, by omega⟩
  · simp at hi
    rw [phiAt_ne φ _ (by have := hlt hl; omega)]
    exact R.dom i hi
  · intro i o hi
    rcases set_get hi with ⟨rfl, rfl, _⟩ | ⟨hne, hi⟩
    · exact ⟨_, phiAt_at φ _ _, rfl, rfl, hn, fun c hc => (by cases hc), hes, fun hv => (by cases hv), fun _ => ⟨hk, C, fr, heap_alloc_new w _, hC, hfr, hS.mono hle (MLe.refl _)⟩⟩
    · refine (R.obj i o hi).move hle (MLe.refl _) (phiAt_ne φ _ hne) (fun q hq hvq ho => ?_)
      cases o with
      | dead => cases ho
      | ro _ _ _ _ => cases ho
      | own g1 t1 k1 cap1 es1 => exact hold _ (R.own_blk ⟨g1, t1, k1, cap1, es1, hi, hq, hvq⟩)
  · intro i q ho
    rcases hown i q ho with ⟨_, ho⟩ | ⟨rfl, e⟩
    · exact R.new i q ho
    · rw [e]; exact .inr R.size
  · intro i j q r hi hj hne
    rcases hown i q hi with ⟨hi1, hi2⟩ | ⟨rfl, e1⟩ <;> rcases hown j r hj with ⟨hj1, hj2⟩ | ⟨rfl, e2⟩
    · exact R.inj i j q r hi2 hj2 hne
    · rw [e2]; have := R.own_blk hi2; omega
    · rw [e1]; have := R.own_blk hj2; omega
    · exact absurd rfl hne
  · intro a v i q hm ho
    rcases hown i q ho with ⟨_, ho⟩ | ⟨rfl, e⟩
    · exact R.dis a v i q hm ho
    · rw [e]; have := (R.imm a v hm).2; omega
end
end Go.BL
