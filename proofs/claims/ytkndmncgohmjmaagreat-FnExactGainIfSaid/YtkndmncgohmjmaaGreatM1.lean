/- Walks of functions of the program and the laws they rest on (1 of 6). Conditions: none. -/
import Derived.Orders
import Derived.OrdersHeld
import Derived.Below
import Derived.WalkKit
import Derived.Deep.LoopGhost
import Derived.KernelRfl
import Derived.Laws.AppendOwn
import Derived.Laws.IdiomCopy
import Derived.Lib.SmallJoins
import Derived.Laws.Concat
import Derived.Laws.BytesString
import Derived.Lib.ConvBytes
import Derived.Laws.BytesArg
import Derived.Laws.Slices
import Derived.Laws.Build
import Derived.Laws.Tables
import Derived.Laws.Small
import Derived.Laws.MakeOwn
import Derived.Laws.StructEq
import Derived.Lib.SliceRun
import Derived.Laws.OwnMore
import Derived.Laws.Strings2
section
namespace Go.BL
open Go.RowKit
set_option linter.unusedVariables false
set_option linter.unusedSimpArgs false
/-! ### 1. Values -/
inductive CV where
  | c (v : Value)
  | nl
  | emp
  | im (es : List (List CV))
  | pel (e : List CV) (off : Nat)
  | pt (l g i off : Nat)
  | sl (l g off len : Nat)
  | clo (g : Nat) (caps : List Nat)
  | junk
structure Pl where
  b : Nat
  k : Nat
  cap : Nat
  g : Nat
  vir : Bool
abbrev Phi := Nat → Option Pl
abbrev Im := Addr → Value → Prop
inductive V0 (M : Im) : CV → Value → Prop
  | c (v : Value) (h : v.oneCell' = true) : V0 M (.c v) v
  | nl : V0 M .nl (.slice none 0 0)
  | emp (a : Option Addr) : V0 M .emp (.slice a 0 0)
  | im0 (a : Option Addr) (cap : Nat) : V0 M (.im []) (.slice a 0 cap)
  | im (es : List (List CV)) (k b o cap : Nat) (g : Nat → Nat → Value) (hk : ∀ e, e ∈ es → e.length = k) (hc : es.length ≤ cap)
      (hm : ∀ (i : Nat) (e : List CV) (j : Nat) (x : CV), es[i]? = some e → e[j]? = some x → M ⟨b, o + (i * k + j), none⟩ (g i j))
      (hv : ∀ (i : Nat) (e : List CV) (j : Nat) (x : CV), es[i]? = some e → e[j]? = some x → V0 M x (g i j)) : V0 M (.im es) (.slice (some ⟨b, o, none⟩) es.length cap)
  | pel (e : List CV) (off b o : Nat) (g : Nat → Value) (hm : ∀ (j : Nat) (x : CV), e[j]? = some x → M ⟨b, o + j, none⟩ (g j))
      (hv : ∀ (j : Nat) (x : CV), e[j]? = some x → V0 M x (g j)) : V0 M (.pel e off) (.pointer (some ⟨b, o + off, none⟩))
  | clo (g : Nat) : V0 M (.clo g []) (.func (.func g) #[] #[])
  | junk (u : Value) (h : u.oneCell' = true) : V0 M .junk u
def Vp (φ : Phi) (l g i off : Nat) (u : Value) : Prop := u.oneCell' = true ∧ ∃ p, φ l = some p ∧ g ≤ p.g ∧ (p.g = g → p.vir = false ∧ u = .pointer (some ⟨p.b, i * p.k + off, none⟩))
def Vsl (φ : Phi) (l g off len : Nat) (u : Value) : Prop := u.oneCell' = true ∧ ∃ p, φ l = some p ∧ g ≤ p.g ∧
  (p.g = g → (p.vir = true ∧ off = 0 ∧ len = 0 ∧ ∃ a, u = .slice a 0 0) ∨ (p.vir = false ∧ u = .slice (some ⟨p.b, off * p.k, none⟩) len (p.cap - off)))
def V (φ : Phi) (M : Im) (x : CV) (u : Value) : Prop := match x with
  | .pt l g i off => Vp φ l g i off u
  | .sl l g off len => Vsl φ l g off len u
  | .clo g caps => ∃ vs : List Value, u = .func (.func g) #[] vs.toArray ∧ vs.length = caps.length ∧ ∀ (j l : Nat), caps[j]? = some l → ∃ v, vs[j]? = some v ∧ Vp φ l 0 0 0 v
  | x => V0 M x u
inductive AV where
  | one (x : CV)
  | agg (xs : List CV)
  | tup (xs : List AV)
  | any
def Vs (φ : Phi) (M : Im) (xs : List CV) (us : List Value) : Prop := us.length = xs.length ∧ ∀ (j : Nat) (x : CV), xs[j]? = some x → ∃ u, us[j]? = some u ∧ V φ M x u
def VA1 (φ : Phi) (M : Im) (x : AV) (u : Value) : Prop := match x with
  | .one (.c v) => u = v
  | .one x => V φ M x u
  | .agg xs => ∃ us, u = .agg us.toArray ∧ Vs φ M xs us
  | .tup _ => False
  | .any => True
def VA (φ : Phi) (M : Im) (x : AV) (u : Value) : Prop := match x with
  | .tup xs => ∃ us : List Value, u = .tuple us.toArray ∧ us.length = xs.length ∧ ∀ (j : Nat) (x : AV), xs[j]? = some x → ∃ u, us[j]? = some u ∧ VA1 φ M x u
  | x => VA1 φ M x u
def VAs (φ : Phi) (M : Im) (xs : List AV) (us : List Value) : Prop := us.length = xs.length ∧ ∀ (j : Nat) (x : AV), xs[j]? = some x → ∃ u, us[j]? = some u ∧ VA φ M x u
inductive AO where
  | dead
  | ro (g : Nat) (t : TypeId) (k : Nat) (es : List (List CV))
  | own (g : Nat) (t : TypeId) (k : Nat) (cap : Option Nat) (es : List (List CV))
def AO.es : AO → List (List CV)
  | .dead => []
  | .ro _ _ _ es => es
  | .own _ _ _ _ es => es
def AO.isOwn : AO → Bool
  | .own .. => true
  | _ => false
abbrev AH := List AO
abbrev AF := Nat → AV
@[reducible] def undefA : AV := .one (.c undef)
def upd (f : AF) (d : Nat) (v : AV) : AF := fun i => if i = d then v else f i
def put (f : AF) (dst : Option Nat) (v : AV) : AF := match dst with | some d => upd f d v | none => f
/-! ### 2. What grows -/
def Le (φ φ' : Phi) : Prop := ∀ (l : Nat) (p : Pl), φ l = some p → ∃ p', φ' l = some p' ∧ (p' = p ∨ p.g < p'.g)
theorem Le.refl (φ : Phi) : Le φ φ := fun l p h => ⟨p, h, .inl rfl⟩
theorem Le.trans {φ φ' φ'' : Phi} (h : Le φ φ') (h' : Le φ' φ'') : Le φ φ'' := fun l p hl => by
  obtain ⟨p', h1, h2⟩ := h l p hl
  obtain ⟨p'', h3, h4⟩ := h' l p' h1
  refine ⟨p'', h3, ?_⟩
  rcases h2 with rfl | h2 <;> rcases h4 with rfl | h4
  · exact .inl rfl
  · exact .inr h4
  · exact .inr h2
  · exact .inr (Nat.lt_trans h2 h4)
def MLe (M M' : Im) : Prop := ∀ a v, M a v → M' a v
theorem MLe.refl (M : Im) : MLe M M := fun _ _ h => h
theorem MLe.trans {M M' M'' : Im} (h : MLe M M') (h' : MLe M' M'') : MLe M M'' := fun a v q => h' a v (h a v q)
theorem V0.mono {M M' : Im} (hM : MLe M M') {x : CV} {u : Value} (h : V0 M x u) : V0 M' x u := by
  induction h with
  | c v h => exact .c v h
  | nl => exact .nl
  | emp a => exact .emp a
  | im0 a cap => exact .im0 a cap
  | im es k b o cap g hk hc hm hv ih => exact .im es k b o cap g hk hc (fun i e j x h1 h2 => hM _ _ (hm i e j x h1 h2)) ih
  | pel e off b o g hm hv ih => exact .pel e off b o g (fun j x h1 => hM _ _ (hm j x h1)) ih
  | clo g => exact .clo g
  | junk u h => exact .junk u h
theorem V0.one {M : Im} {x : CV} {u : Value} (h : V0 M x u) : u.oneCell' = true := by
  cases h <;> first | rfl | assumption
theorem Vp.mono {φ φ' : Phi} (hφ : Le φ φ') {l g i off : Nat} {u : Value} (h : Vp φ l g i off u) : Vp φ' l g i off u := by
  obtain ⟨h1, p, h2, h3, h4⟩ := h
  obtain ⟨p', h5, h6⟩ := hφ l p h2
  refine ⟨h1, p', h5, ?_, fun e => ?_⟩
  · rcases h6 with rfl | h6
    · exact h3
    · omega
  · rcases h6 with rfl | h6
    · exact h4 e
    · omega
theorem Vsl.mono {φ φ' : Phi} (hφ : Le φ φ') {l g off len : Nat} {u : Value} (h : Vsl φ l g off len u) : Vsl φ' l g off len u := by
  obtain ⟨h1, p, h2, h3, h4⟩ := h
  obtain ⟨p', h5, h6⟩ := hφ l p h2
  refine ⟨h1, p', h5, ?_, fun e => ?_⟩
  · rcases h6 with rfl | h6
    · exact h3
    · omega
  · rcases h6 with rfl | h6
    · exact h4 e
    · omega
section
variable {φ φ' : Phi} {M M' : Im}
theorem V.mono (hφ : Le φ φ') (hM : MLe M M') {x : CV} {u : Value} (h : V φ M x u) : V φ' M' x u := by
  cases x with
  | pt l g i off => exact Vp.mono hφ h
  | sl l g off len => exact Vsl.mono hφ h
  | clo g caps =>
    obtain ⟨vs, h1, h2, h3⟩ := h
    refine ⟨vs, h1, h2, fun j l hj => ?_⟩
    obtain ⟨v, h4, h5⟩ := h3 j l hj
    exact ⟨v, h4, h5.mono hφ⟩
  | _ => exact V0.mono hM h
theorem V.one {x : CV} {u : Value} (h : V φ M x u) : u.oneCell' = true := by
  cases x with
  | pt l g i off => exact h.1
  | sl l g off len => exact h.1
  | clo g caps => obtain ⟨vs, rfl, _⟩ := h; rfl
  | _ => exact V0.one h
theorem Vs.mono (hφ : Le φ φ') (hM : MLe M M') {xs : List CV} {us : List Value} (h : Vs φ M xs us) : Vs φ' M' xs us :=
  ⟨h.1, fun j x hj => let ⟨u, h1, h2⟩ := h.2 j x hj; ⟨u, h1, h2.mono hφ hM⟩⟩
theorem VA1.mono (hφ : Le φ φ') (hM : MLe M M') {x : AV} {u : Value} (h : VA1 φ M x u) : VA1 φ' M' x u := by
  cases x with
  | one x =>
    cases x with
    | c v => exact h
    | _ => exact V.mono (x := _) (u := u) hφ hM (by simpa only [VA1] using h)
  | agg xs => obtain ⟨us, h1, h2⟩ := h; exact ⟨us, h1, h2.mono hφ hM⟩
  | tup xs => exact h
  | any => trivial
theorem VA.mono (hφ : Le φ φ') (hM : MLe M M') {x : AV} {u : Value} (h : VA φ M x u) : VA φ' M' x u := by
  cases x with
  | tup xs =>
    obtain ⟨us, h1, h2, h3⟩ := h
    refine ⟨us, h1, h2, fun j x hj => ?_⟩
    obtain ⟨u, h4, h5⟩ := h3 j x hj
    exact ⟨u, h4, h5.mono hφ hM⟩
  | one x => exact VA1.mono (x := .one x) hφ hM h
  | agg xs => exact VA1.mono (x := .agg xs) hφ hM h
  | any => trivial
theorem VAs.mono (hφ : Le φ φ') (hM : MLe M M') {xs : List AV} {us : List Value} (h : VAs φ M xs us) : VAs φ' M' xs us :=
  ⟨h.1, fun j x hj => let ⟨u, h1, h2⟩ := h.2 j x hj; ⟨u, h1, h2.mono hφ hM⟩⟩
theorem V_VA {x : CV} {u : Value} (h : V φ M x u) : VA φ M (.one x) u := by
  cases x with
  | c v => cases h; rfl
  | _ => exact h
theorem VA_V {x : CV} {u : Value} (h : VA φ M (.one x) u) : V φ M x u ∨ ∃ v, x = .c v ∧ u = v := by
  cases x with
  | c v => exact .inr ⟨v, rfl, h⟩
  | _ => exact .inl h
theorem VA1_VA {x : AV} {u : Value} (h : VA1 φ M x u) : VA φ M x u := by
  cases x with
  | tup xs => exact h.elim
  | one x => exact h
  | agg xs => exact h
  | any => trivial
end
/-! ### 3. What an abstract state says of a world -/
def okFr (fr : Nat × Nat) (C : Array Value) (k : Nat) : Prop := (fr.2 ≤ fr.1 ∨ (C.size ≤ fr.1 ∧ k = 1)) ∧ ∀ (i : Nat) (v : Value), C[i]? = some v → v.oneCell' = true
def Blk (φ : Phi) (M : Im) (w : World) (t : TypeId) (p : Pl) (es : List (List CV)) : Prop :=
  ∃ C fr, w.heap[p.b]? = some (.cells C t fr) ∧ C.size = p.cap * p.k ∧ okFr fr C p.k ∧ ∀ (i : Nat) (e : List CV) (j : Nat) (x : CV), es[i]? = some e → e[j]? = some x → ∃ v, C[i * p.k + j]? = some v ∧ V φ M x v
def RepO (φ : Phi) (M : Im) (w : World) (l : Nat) : AO → Prop
  | .dead => True
  | .ro g t k es => ∃ p, φ l = some p ∧ p.g = g ∧ p.k = k ∧ (∀ e, e ∈ es → e.length = k) ∧ es.length ≤ p.cap ∧ (p.vir = true → p.cap = 0) ∧ (p.vir = false → 0 < p.k ∧ ∃ C : Nat → Nat → Value, ∀ (i : Nat) (e : List CV) (j : Nat) (x : CV), es[i]? = some e → e[j]? = some x → M ⟨p.b, i * p.k + j, none⟩ (C i j) ∧ V0 M x (C i j))
  | .own g t k cap es => ∃ p, φ l = some p ∧ p.g = g ∧ p.k = k ∧ es.length ≤ p.cap ∧ (∀ c, cap = some c → p.cap = c) ∧ (∀ e, e ∈ es → e.length = k) ∧ (p.vir = true → p.cap = 0) ∧ (p.vir = false → 0 < p.k ∧ Blk φ M w t p es)
structure Cx where
  w : World
  B : Nat → Prop
  M : Im
def tabB : Nat → Bool := fun _ => false
def tabP : Nat → Option Obj → Prop := fun _ _ => True
def TabG (G : Cx) : Prop := ∀ b, tabB b = true → b < G.w.heap.size ∧ ¬ G.B b ∧ tabP b G.w.heap[b]?
theorem TabG.of {G G' : Cx} (H : TabG G) (hw : G'.w = G.w) (hB : ∀ b, G'.B b → G.B b) : TabG G' := fun b hb => by
  obtain ⟨h1, h2, h3⟩ := H b hb
  rw [hw]
  exact ⟨h1, fun q => h2 (hB b q), h3⟩
def Own (φ : Phi) (h : AH) (l : Nat) (p : Pl) : Prop := ∃ g t k cap es, h[l]? = some (.own g t k cap es) ∧ φ l = some p ∧ p.vir = false
structure Rep (G : Cx) (φ : Phi) (M : Im) (h : AH) (w : World) : Prop where
  os : w.os = G.w.os
  tape : w.tape = G.w.tape
  output : w.output = G.w.output ∧ TabG G
  size : G.w.heap.size ≤ w.heap.size
  blk : ∀ b, b < G.w.heap.size → ¬ G.B b → w.heap[b]? = G.w.heap[b]?
  mon : MLe G.M M
  imm : ∀ a v, M a v → w.cell? a = some v ∧ a.block < w.heap.size
  imn : ∀ a v, M a v → G.M a v ∨ G.B a.block ∨ G.w.heap.size ≤ a.block
  dom : ∀ l, h.length ≤ l → φ l = none
  obj : ∀ (l : Nat) (o : AO), h[l]? = some o → RepO φ M w l o
  new : ∀ l p, Own φ h l p → G.B p.b ∨ G.w.heap.size ≤ p.b
  inj : ∀ i j p q, Own φ h i p → Own φ h j q → i ≠ j → p.b ≠ q.b
  dis : ∀ a v l p, M a v → Own φ h l p → a.block ≠ p.b
structure FOk (n : Nat) (φ : Phi) (M : Im) (f : AF) (a : Act) : Prop where
  size : a.tmps.size = n
  val : ∀ i, i < n → ∃ u, a.tmps[i]? = some u ∧ VA φ M (f i) u
  defers : a.defers = []
theorem FOk.mono {n : Nat} {φ φ' : Phi} {M M' : Im} {f : AF} {a : Act} (F : FOk n φ M f a) (hφ : Le φ φ') (hM : MLe M M') : FOk n φ' M' f a :=
  ⟨F.size, fun i hi => let ⟨u, h1, h2⟩ := F.val i hi; ⟨u, h1, h2.mono hφ hM⟩, F.defers⟩
section
variable {G : Cx} {φ : Phi} {M : Im} {h : AH} {w : World}
theorem hlt {l : Nat} {o : AO} (hl : h[l]? = some o) : l < h.length := (List.getElem?_eq_some_iff.1 hl).1
theorem set_get {l l' : Nat} {o o' : AO} (hl : (h.set l o)[l']? = some o') : (l' = l ∧ o' = o ∧ l < h.length) ∨ (l' ≠ l ∧ h[l']? = some o') := by
  by_cases e : l' = l
  · subst e
    have hlt' : l' < h.length := by simpa using (List.getElem?_eq_some_iff.1 hl).1
    rw [List.getElem?_set_self hlt'] at hl
    exact .inl ⟨rfl, (Option.some.inj hl).symm, hlt'⟩
  · rw [List.getElem?_set_ne (Ne.symm e)] at hl
    exact .inr ⟨e, hl⟩
theorem app_get {o o' : AO} {l : Nat} (hl : (h ++ [o])[l]? = some o') : h[l]? = some o' ∨ (l = h.length ∧ o' = o) := by
  rcases Nat.lt_or_ge l h.length with hlt | hge
  · left; rwa [List.getElem?_append_left hlt] at hl
  · right
    rw [List.getElem?_append_right hge] at hl
    have hz : l - h.length = 0 := by
      have := (List.getElem?_eq_some_iff.1 hl).1
      simpa using this
    rw [hz] at hl
    simp at hl
    exact ⟨by omega, hl.symm⟩
theorem Rep.own_p (R : Rep G φ M h w) {l g k : Nat} {t : TypeId} {cap : Option Nat} {es : List (List CV)} (hl : h[l]? = some (.own g t k cap es)) : ∃ p, φ l = some p ∧ p.g = g ∧ p.k = k := by
  obtain ⟨p, h1, h2, h3, _⟩ := R.obj l _ hl
  exact ⟨p, h1, h2, h3⟩
theorem Rep.own_blk (R : Rep G φ M h w) {l : Nat} {p : Pl} (ho : Own φ h l p) : p.b < w.heap.size := by
  obtain ⟨g, t, k, cap, es, hl, hp, hv⟩ := ho
  obtain ⟨p', h1, _, _, _, _, _, _, h7⟩ := R.obj l _ hl
  rw [hp] at h1
  cases h1
  obtain ⟨_, C, fr, h8, _⟩ := h7 hv
  exact (Array.getElem?_eq_some_iff.1 h8).1
theorem RepO.move {φ' : Phi} {M' : Im} {w' : World} {l : Nat} {o : AO} (H : RepO φ M w l o) (hφ : Le φ φ') (hM : MLe M M') (hl : φ' l = φ l) (hb : ∀ p, φ l = some p → p.vir = false → o.isOwn = true → w'.heap[p.b]? = w.heap[p.b]?) : RepO φ' M' w' l o := by
  cases o with
  | dead => trivial
  | ro g t k es =>
    obtain ⟨p, h1, h2, hk, h3, h4, h5, h6⟩ := H
    refine ⟨p, hl.trans h1, h2, hk, h3, h4, h5, fun hv => ?_⟩
    obtain ⟨h7, C, h8⟩ := h6 hv
    exact ⟨h7, C, fun i e j x hi hj => ⟨hM _ _ (h8 i e j x hi hj).1, (h8 i e j x hi hj).2.mono hM⟩⟩
  | own g t k cap es =>
    obtain ⟨p, h1, h2, hk, h3, h4, h5, h6, h7⟩ := H
    refine ⟨p, hl.trans h1, h2, hk, h3, h4, h5, h6, fun hv => ?_⟩
    obtain ⟨h8, C, fr, h9, h10, h11, h12⟩ := h7 hv
    refine ⟨h8, C, fr, by rw [hb p h1 hv rfl]; exact h9, h10, h11, fun i e j x hi hj => ?_⟩
    obtain ⟨v, hv1, hv2⟩ := h12 i e j x hi hj
    exact ⟨v, hv1, hv2.mono hφ hM⟩
theorem cell_same {w w' : World} {a : Addr} (hb : w'.heap[a.block]? = w.heap[a.block]?) : w'.cell? a = w.cell? a := World.cell?_of_block (w := w) hb
theorem Rep.same (R : Rep G φ M h w) {w' : World} (hh : w'.heap = w.heap) (ho : w'.os = w.os) (ht : w'.tape = w.tape) (hout : w'.output = w.output) : Rep G φ M h w' where
  os := ho.trans R.os
  tape := ht.trans R.tape
  output := ⟨hout.trans R.output.1, R.output.2⟩
  size := by rw [hh]; exact R.size
  blk := fun b hb hn => by rw [hh]; exact R.blk b hb hn
  mon := R.mon
  imm := fun a v q => by rw [cell_same (w := w) (by rw [hh]), hh]; exact R.imm a v q
  imn := R.imn
  dom := R.dom
  obj := fun l o hl => (R.obj l o hl).move (Le.refl _) (MLe.refl _) rfl (fun _ _ _ _ => by rw [hh])
  new := R.new
  inj := R.inj
  dis := R.dis
theorem Rep.drew (R : Rep G φ M h w) : Rep G φ M h w.drew := R.same rfl rfl rfl rfl
def phiAt (φ : Phi) (n : Nat) (p : Pl) : Phi := fun l => if l = n then some p else φ l
theorem phiAt_ne (φ : Phi) {n l : Nat} (p : Pl) (hl : l ≠ n) : phiAt φ n p l = φ l := by simp [phiAt, hl]
theorem phiAt_at (φ : Phi) (n : Nat) (p : Pl) : phiAt φ n p n = some p := by simp [phiAt]
theorem Le.at_new {n : Nat} {p : Pl} (hn : φ n = none) : Le φ (phiAt φ n p) := fun l q hl => by
  have : l ≠ n := by intro e; subst e; rw [hn] at hl; cases hl
  exact ⟨q, by rw [phiAt_ne φ p this]; exact hl, .inl rfl⟩
theorem Le.at_gen {n : Nat} {p q : Pl} (hn : φ n = some q) (hg : q.g < p.g) : Le φ (phiAt φ n p) := fun l r hl => by
  by_cases e : l = n
  · subst e
    rw [hn] at hl
    cases hl
    exact ⟨p, phiAt_at φ l p, .inr hg⟩
  · exact ⟨r, by rw [phiAt_ne φ p e]; exact hl, .inl rfl⟩
def Says (φ : Phi) (M : Im) (k : Nat) (C : Array Value) (es : List (List CV)) : Prop := ∀ (i : Nat) (e : List CV) (j : Nat) (x : CV), es[i]? = some e → e[j]? = some x → ∃ v, C[i * k + j]? = some v ∧ V φ M x v
theorem Says.mono {φ' : Phi} {M' : Im} (hφ : Le φ φ') (hM : MLe M M') {k : Nat} {C : Array Value} {es : List (List CV)} (H : Says φ M k C es) : Says φ' M' k C es := fun i e j x hi hj => let ⟨v, h1, h2⟩ := H i e j x hi hj; ⟨v, h1, h2.mono hφ hM⟩
theorem Rep.alloc (R : Rep G φ M h w) (t : TypeId) (k n : Nat) (cap : Option Nat) (es : List (List CV)) (C : Array Value) (fr : Nat × Nat) (hk : 0 < k) (hC : C.size = n * k) (hfr : okFr fr C k) (hn : es.length ≤ n) (hcap : ∀ c, cap = some c → n = c)
    (hes : ∀ e, e ∈ es → e.length = k) (hS : Says φ M k C es) :
    Rep G (phiAt φ h.length ⟨w.heap.size, k, n, 0, false⟩) M (h ++ [.own 0 t k cap es]) (w.alloc (.cells C t fr)) ∧ Le φ (phiAt φ h.length ⟨w.heap.size, k, n, 0, false⟩) := by
  have hnone := R.dom h.length (Nat.le_refl _)
  have hle : Le φ (phiAt φ h.length ⟨w.heap.size, k, n, 0, false⟩) := Le.at_new hnone
  refine ⟨?_, hle⟩
  have hold : ∀ b, b < w.heap.size → (w.alloc (.cells C t fr)).heap[b]? = w.heap[b]? := fun b hb => Below.heap_alloc w _ _ hb
  have hown : ∀ l p, Own (phiAt φ h.length ⟨w.heap.size, k, n, 0, false⟩) (h ++ [.own 0 t k cap es]) l p → (Own φ h l p ∧ l < h.length) ∨ (l = h.length ∧ p = ⟨w.heap.size, k, n, 0, false⟩) := by
    rintro l p ⟨g, t', k', cap', es', hl, hp, hv⟩
    rcases app_get hl with hl | ⟨rfl, ho⟩
    · have := hlt hl
      rw [phiAt_ne φ _ (by omega)] at hp
      exact .inl ⟨⟨g, t', k', cap', es', hl, hp, hv⟩, this⟩
    · rw [phiAt_at] at hp
      cases hp
      exact .inr ⟨rfl, rfl⟩
  refine ⟨R.os, R.tape, R.output, by rw [World.size_alloc]; have := R.size; omega, fun b hb hnb => ?_, R.mon, fun a v q => ?_, R.imn, fun l hl => ?_, ?_, ?_, ?_, ?_⟩
  · rw [hold b (by have := R.size; omega)]; exact R.blk b hb hnb
  · obtain ⟨h1, h2⟩ := R.imm a v q
    rw [World.size_alloc, cell_same (hold a.block h2)]
    exact ⟨h1, by omega⟩
  · simp at hl
    rw [phiAt_ne φ _ (by omega)]
    exact R.dom l (by omega)
  · intro l o hl
    rcases app_get hl with hl | ⟨rfl, rfl⟩
    · have := hlt hl
      refine (R.obj l o hl).move hle (MLe.refl _) (phiAt_ne φ _ (by omega)) (fun p hp hv ho => ?_)
      cases o with
      | dead => cases ho
      | ro _ _ _ _ => cases ho
      | own g t' k' cap' es' => exact hold _ (R.own_blk ⟨g, t', k', cap', es', hl, hp, hv⟩)
    · refine ⟨_, phiAt_at φ _ _, rfl, rfl, hn, hcap, hes, fun hv => (by cases hv), fun _ => ⟨hk, C, fr, heap_alloc_new w _, hC, hfr, hS.mono hle (MLe.refl _)⟩⟩
  · intro l p ho
    rcases hown l p ho with ⟨ho, _⟩ | ⟨rfl, rfl⟩
    · exact R.new l p ho
    · exact .inr R.size
  · intro i j p q hi hj hne
    rcases hown i p hi with ⟨hi, hil⟩ | ⟨rfl, rfl⟩ <;> rcases hown j q hj with ⟨hj, hjl⟩ | ⟨rfl, rfl⟩
    · exact R.inj i j p q hi hj hne
    · have := R.own_blk hi; show p.b ≠ w.heap.size; omega
    · have := R.own_blk hj; show w.heap.size ≠ q.b; omega
    · exact absurd rfl hne
  · intro a v l p hm ho
    rcases hown l p ho with ⟨ho, _⟩ | ⟨rfl, rfl⟩
    · exact R.dis a v l p hm ho
    · have := (R.imm a v hm).2; show a.block ≠ w.heap.size; omega
theorem Rep.virt (R : Rep G φ M h w) (t : TypeId) (k : Nat) :
    Rep G (phiAt φ h.length ⟨0, k, 0, 0, true⟩) M (h ++ [.own 0 t k none []]) w ∧ Le φ (phiAt φ h.length ⟨0, k, 0, 0, true⟩) := by
  have hnone := R.dom h.length (Nat.le_refl _)
  have hle : Le φ (phiAt φ h.length ⟨0, k, 0, 0, true⟩) := Le.at_new hnone
  refine ⟨?_, hle⟩
  have hown : ∀ l p, Own (phiAt φ h.length ⟨0, k, 0, 0, true⟩) (h ++ [.own 0 t k none []]) l p → Own φ h l p := by
    rintro l p ⟨g, t', k', cap', es', hl, hp, hv⟩
    rcases app_get hl with hl | ⟨rfl, ho⟩
    · have := hlt hl
      rw [phiAt_ne φ _ (by omega)] at hp
      exact ⟨g, t', k', cap', es', hl, hp, hv⟩
    · rw [phiAt_at] at hp
      cases hp
      cases hv
  refine ⟨R.os, R.tape, R.output, R.size, R.blk, R.mon, R.imm, R.imn, fun l hl => ?_, ?_, fun l p ho => R.new l p (hown l p ho), fun i j p q hi hj hne => R.inj i j p q (hown i p hi) (hown j q hj) hne, fun a v l p hm ho => R.dis a v l p hm (hown l p ho)⟩
  · simp at hl
    rw [phiAt_ne φ _ (by omega)]
    exact R.dom l (by omega)
  · intro l o hl
    rcases app_get hl with hl | ⟨rfl, rfl⟩
    · have := hlt hl
      exact (R.obj l o hl).move hle (MLe.refl _) (phiAt_ne φ _ (by omega)) (fun _ _ _ _ => rfl)
    · exact ⟨_, phiAt_at φ _ _, rfl, rfl, Nat.le_refl _, fun c hc => (by cases hc), fun e he => (by cases he), fun _ => rfl, fun hv => by cases hv⟩
theorem Rep.write (R : Rep G φ M h w) {l g k : Nat} {t : TypeId} {cap : Option Nat} {es : List (List CV)} (hl : h[l]? = some (.own g t k cap es)) {p : Pl} (hp : φ l = some p) (hv : p.vir = false) {w' : World} (hos : w'.os = w.os) (htp : w'.tape = w.tape) (hout : w'.output = w.output)
    (hsz : w'.heap.size = w.heap.size) (hoth : ∀ b, b ≠ p.b → w'.heap[b]? = w.heap[b]?) (C : Array Value) (fr : Nat × Nat) (hblk : w'.heap[p.b]? = some (.cells C t fr)) (hC : C.size = p.cap * p.k) (hfr : okFr fr C p.k) (g' : Nat) (hg : g' = p.g ∨ p.g < g')
    (cap' : Option Nat) (hcap : ∀ c, cap' = some c → p.cap = c) (es' : List (List CV)) (hn : es'.length ≤ p.cap) (hes : ∀ e, e ∈ es' → e.length = k) (hS : Says φ M k C es') :
    Rep G (phiAt φ l { p with g := g' }) M (h.set l (.own g' t k cap' es')) w' ∧ Le φ (phiAt φ l { p with g := g' }) := by
  have hle : Le φ (phiAt φ l { p with g := g' }) := by
    rcases hg with rfl | hg
    · intro i q hi
      by_cases e : i = l
      · subst e
        rw [hp] at hi
        cases hi
        exact ⟨_, phiAt_at φ _ _, .inl rfl⟩
      · exact ⟨q, by rw [phiAt_ne φ _ e]; exact hi, .inl rfl⟩
    · exact Le.at_gen hp hg
  refine ⟨?_, hle⟩
  have hO : Own φ h l p := ⟨g, t, k, cap, es, hl, hp, hv⟩
  obtain ⟨p0, h1, h2, hk, h3, h4, h5, h6, h7⟩ := R.obj l _ hl
  rw [hp] at h1
  cases h1
  subst hk
  obtain ⟨h8, -⟩ := h7 hv
  have hown : ∀ i q, Own (phiAt φ l { p with g := g' }) (h.set l (.own g' t p.k cap' es')) i q → (i ≠ l ∧ Own φ h i q) ∨ (i = l ∧ q.b = p.b) := by
    rintro i q ⟨g1, t1, k1, cap1, es1, hi, hq, hv1⟩
    rcases set_get hi with ⟨rfl, ho, _⟩ | ⟨hne, hi⟩
    · rw [phiAt_at] at hq
      cases hq
      exact .inr ⟨rfl, rfl⟩
    · rw [phiAt_ne φ _ hne] at hq
      exact .inl ⟨hne, ⟨g1, t1, k1, cap1, es1, hi, hq, hv1⟩⟩
  have hpb := R.new l p hO
  refine ⟨hos.trans R.os, htp.trans R.tape, ⟨hout.trans R.output.1, R.output.2⟩, by rw [hsz]; exact R.size, fun b hb hnb => ?_, R.mon, fun a v q => ?_, R.imn, fun i hi => ?_, ?_, ?_, ?_, ?_⟩
  · rw [hoth b (by intro e; subst e; rcases hpb with hpb | hpb; exact hnb hpb; omega)]; exact R.blk b hb hnb
  · obtain ⟨q1, q2⟩ := R.imm a v q
    rw [hsz, cell_same (hoth a.block (R.dis a v l p q hO))]
    exact ⟨q1, q2⟩
  · simp at hi
    rw [phiAt_ne φ _ (by have := hlt hl; omega)]
    exact R.dom i hi
  · intro i o hi
    rcases set_get hi with ⟨rfl, rfl, _⟩ | ⟨hne, hi⟩
    · exact ⟨_, phiAt_at φ _ _, rfl, rfl, hn, hcap, hes, h6, fun _ => ⟨h8, C, fr, hblk, hC, hfr, hS.mono hle (MLe.refl _)⟩⟩
    · refine (R.obj i o hi).move hle (MLe.refl _) (phiAt_ne φ _ hne) (fun q hq hvq ho => ?_)
      cases o with
      | dead => cases ho
      | ro _ _ _ _ => cases ho
      | own g1 t1 k1 cap1 es1 => exact hoth _ (R.inj i l q p ⟨g1, t1, k1, cap1, es1, hi, hq, hvq⟩ hO hne)
  · intro i q ho
    rcases hown i q ho with ⟨_, ho⟩ | ⟨rfl, e⟩
    · exact R.new i q ho
    · rw [e]; exact hpb
  · intro i j q r hi hj hne
    rcases hown i q hi with ⟨hi1, hi2⟩ | ⟨rfl, e1⟩ <;> rcases hown j r hj with ⟨hj1, hj2⟩ | ⟨rfl, e2⟩
    · exact R.inj i j q r hi2 hj2 hne
    · rw [e2]; exact R.inj i _ q p hi2 hO hne
    · rw [e1]; exact R.inj _ j p r hO hj2 hne
    · exact absurd rfl hne
  · intro a v i q hm ho
    rcases hown i q ho with ⟨_, ho⟩ | ⟨rfl, e⟩
    · exact R.dis a v i q hm ho
    · rw [e]; exact R.dis a v i p hm hO
theorem Rep.regrow (R : Rep G φ M h w) {l g k0 : Nat} {t0 : TypeId} {cap : Option Nat} {es : List (List CV)} (hl : h[l]? = some (.own g t0 k0 cap es)) (t : TypeId) (k n : Nat) (es' : List (List CV)) (C : Array Value) (fr : Nat × Nat) (hk : 0 < k) (hC : C.size = n * k) (hfr : okFr fr C k) (hn : es'.length ≤ n)
    (hes : ∀ e, e ∈ es' → e.length = k) (hS : Says φ M k C es') :
    Rep G (phiAt φ l ⟨w.heap.size, k, n, g + 1, false⟩) M (h.set l (.own (g + 1) t k none es')) (w.alloc (.cells C t fr)) ∧ Le φ (phiAt φ l ⟨w.heap.size, k, n, g + 1, false⟩) := by
  obtain ⟨p, hp, hg, _⟩ := R.own_p hl
  have hle : Le φ (phiAt φ l ⟨w.heap.size, k, n, g + 1, false⟩) := Le.at_gen hp (by simp; omega)
  refine ⟨?_, hle⟩
  have hold : ∀ b, b < w.heap.size → (w.alloc (.cells C t fr)).heap[b]? = w.heap[b]? := fun b hb => Below.heap_alloc w _ _ hb
  have hown : ∀ i q, Own (phiAt φ l ⟨w.heap.size, k, n, g + 1, false⟩) (h.set l (.own (g + 1) t k none es')) i q → (i ≠ l ∧ Own φ h i q) ∨ (i = l ∧ q.b = w.heap.size) := by
    rintro i q ⟨g1, t1, k1, cap1, es1, hi, hq, hv1⟩
    rcases set_get hi with ⟨rfl, ho, _⟩ | ⟨hne, hi⟩
    · rw [phiAt_at] at hq
      cases hq
      exact .inr ⟨rfl, rfl⟩
    · rw [phiAt_ne φ _ hne] at hq
      exact .inl ⟨hne, ⟨g1, t1, k1, cap1, es1, hi, hq, hv1⟩⟩
  refine ⟨R.os, R.tape, R.output, by rw [World.size_alloc]; have := R.size; omega, fun b hb hnb => ?_, R.mon, fun a v q => ?_, R.imn, fun i hi => ?_, ?_, ?_, ?_, ?_⟩
  · rw [hold b (by have := R.size; omega)]; exact R.blk b hb hnb
  · obtain ⟨q1, q2⟩ := R.imm a v q
    rw [World.size_alloc, cell_same (hold a.block q2)]
    exact ⟨q1, by omega⟩
  · simp at hi
    rw [phiAt_ne φ _ (by have := hlt hl; omega)]
    exact R.dom i hi
  · intro i o hi
    rcases set_get hi with ⟨rfl, rfl, _⟩ | ⟨hne, hi⟩
    · exact ⟨_, phiAt_at φ _ _, rfl, rfl, hn, fun c hc => (by cases hc), hes, fun hv => (by cases hv), fun _ => ⟨hk, C, fr, heap_alloc_new w _, hC, hfr, hS.mono hle (MLe.refl _)⟩⟩
    · refine (R.obj i o hi).move hle (MLe.refl _) (phiAt_ne φ _ hne) (fun q hq hvq ho => ?_)
      cases o with
      | dead => cases ho
      | ro _ _ _ _ => cases ho
      | own g1 t1 k1 cap1 es1 => exact hold _ (R.own_blk ⟨g1, t1, k1, cap1, es1, hi, hq, hvq⟩)
  · intro i q ho
    rcases hown i q ho with ⟨_, ho⟩ | ⟨rfl, e⟩
    · exact R.new i q ho
    · rw [e]; exact .inr R.size
  · intro i j q r hi hj hne
    rcases hown i q hi with ⟨hi1, hi2⟩ | ⟨rfl, e1⟩ <;> rcases hown j r hj with ⟨hj1, hj2⟩ | ⟨rfl, e2⟩
    · exact R.inj i j q r hi2 hj2 hne
    · rw [e2]; have := R.own_blk hi2; omega
    · rw [e1]; have := R.own_blk hj2; omega
    · exact absurd rfl hne
  · intro a v i q hm ho
    rcases hown i q ho with ⟨_, ho⟩ | ⟨rfl, e⟩
    · exact R.dis a v i q hm ho
    · rw [e]; have := (R.imm a v hm).2; omega
end
end Go.BL
end
section
namespace Go.BL
open Go.RowKit
set_option linter.unusedVariables false
set_option linter.unusedSimpArgs false
/-! ### Cells written one behind the other -/
def cset {α : Type} (cs : List α) (o : Nat) : List α → List α
  | [] => cs
  | v :: r => cset (cs.set o v) (o + 1) r
theorem cset_length {α : Type} : ∀ (vs cs : List α) (o : Nat), (cset cs o vs).length = cs.length
  | [], _, _ => rfl
  | v :: r, cs, o => by rw [cset, cset_length r]; simp
theorem cset_get {α : Type} : ∀ (vs cs : List α) (o j : Nat), o + vs.length ≤ cs.length → (cset cs o vs)[j]? = if o ≤ j ∧ j < o + vs.length then vs[j - o]? else cs[j]?
  | [], cs, o, j, _ => by simp [cset]; intro h1 h2; omega
  | v :: r, cs, o, j, h => by
    have hl : o < cs.length := by simp at h; omega
    rw [cset, cset_get r _ _ _ (by simp at h ⊢; omega)]
    by_cases h1 : o + 1 ≤ j ∧ j < o + 1 + r.length
    · rw [if_pos h1, if_pos (by simp; omega)]
      obtain ⟨u, rfl⟩ : ∃ u, j = o + 1 + u := ⟨j - (o + 1), by omega⟩
      rw [show o + 1 + u - (o + 1) = u by omega, show o + 1 + u - o = u + 1 by omega]
      rfl
    · rw [if_neg h1]
      by_cases h2 : j = o
      · subst h2
        rw [if_pos (by simp), List.getElem?_set_self hl]
        simp
      · rw [if_neg (by simp; omega), List.getElem?_set_ne (Ne.symm h2)]
theorem heap_setCells (b : Nat) (t : TypeId) (fr : Nat × Nat) : ∀ (vs : List Value) (o : Nat) (w : World) (C : List Value), w.heap[b]? = some (.cells C.toArray t fr) → (w.setCells b o vs).heap[b]? = some (.cells (cset C o vs).toArray t fr)
  | [], o, w, C, h => h
  | v :: r, o, w, C, h => by
    rw [World.setCells, cset]
    refine heap_setCells b t fr r (o + 1) _ _ ?_
    simp [World.setCell, Array.getElem?_modify, h]
theorem setCells_other (b : Nat) : ∀ (vs : List Value) (o : Nat) (w : World), (w.setCells b o vs).os = w.os ∧ (w.setCells b o vs).tape = w.tape ∧ (w.setCells b o vs).output = w.output ∧ (w.setCells b o vs).heap.size = w.heap.size ∧ ∀ k, k ≠ b → (w.setCells b o vs).heap[k]? = w.heap[k]?
  | [], o, w => ⟨rfl, rfl, rfl, rfl, fun _ _ => rfl⟩
  | v :: r, o, w => by
    rw [World.setCells]
    obtain ⟨h1, h2, h3, h4, h5⟩ := setCells_other b r (o + 1) (w.setCell ⟨b, o, none⟩ v)
    exact ⟨h1, h2, h3, h4.trans (by simp), fun k hk => (h5 k hk).trans (Below.heap_setCell w _ _ _ (by simpa using hk))⟩
theorem cset_mem {α : Type} {x : α} : ∀ {vs cs : List α} {o : Nat}, x ∈ cset cs o vs → x ∈ cs ∨ x ∈ vs
  | [], cs, o, h => .inl h
  | v :: r, cs, o, h => by
    rw [cset] at h
    rcases cset_mem h with h | h
    · rcases List.mem_or_eq_of_mem_set h with h | h
      · exact .inl h
      · exact .inr (by simp [h])
    · exact .inr (List.mem_cons_of_mem _ h)
theorem place_ne {k i j i' j' : Nat} (hj : j < k) (hj' : j' < k) (h : i * k + j = i' * k + j') : i = i' ∧ j = j' := by
  have h1 : (i * k + j) / k = i := by rw [Nat.mul_comm, Nat.mul_add_div (by omega), Nat.div_eq_of_lt hj]; omega
  have h2 : (i' * k + j') / k = i' := by rw [Nat.mul_comm, Nat.mul_add_div (by omega), Nat.div_eq_of_lt hj']; omega
  have : i = i' := by rw [← h1, h, h2]
  subst this
  exact ⟨rfl, by omega⟩
section
variable {G : Cx} {φ : Phi} {M : Im} {h : AH} {w : World}
theorem Rep.own (R : Rep G φ M h w) {l g k : Nat} {t : TypeId} {cap : Option Nat} {es : List (List CV)} (hl : h[l]? = some (.own g t k cap es)) (hne : es ≠ []) :
    ∃ p, φ l = some p ∧ p.g = g ∧ p.k = k ∧ p.vir = false ∧ es.length ≤ p.cap ∧ (∀ c, cap = some c → p.cap = c) ∧ (∀ e, e ∈ es → e.length = k) ∧ 0 < k ∧ Blk φ M w t p es := by
  obtain ⟨p, h1, h2, h3, h4, h5, h6, h7, h8⟩ := R.obj l _ hl
  cases hv : p.vir with
  | true =>
    have := h7 hv
    have : es.length = 0 := by omega
    exact absurd (List.length_eq_zero_iff.1 this) hne
  | false =>
    obtain ⟨h9, h10⟩ := h8 hv
    exact ⟨p, h1, h2, h3, hv, h4, h5, h6, by omega, h10⟩
theorem Rep.cell (R : Rep G φ M h w) {l g k i : Nat} {t : TypeId} {cap : Option Nat} {es : List (List CV)} (hl : h[l]? = some (.own g t k cap es)) {e : List CV} (hi : es[i]? = some e) :
    ∃ p, φ l = some p ∧ p.g = g ∧ p.k = k ∧ p.vir = false ∧ ∀ (j : Nat) (x : CV), e[j]? = some x → ∃ v, w.cell? ⟨p.b, i * k + j, none⟩ = some v ∧ V φ M x v := by
  have hne : es ≠ [] := by intro e; subst e; simp at hi
  obtain ⟨p, h1, h2, h3, h4, h5, h6, h7, h8, C, fr, h9, h10, h11, h12⟩ := R.own hl hne
  refine ⟨p, h1, h2, h3, h4, fun j x hj => ?_⟩
  obtain ⟨v, hv1, hv2⟩ := h12 i e j x hi hj
  rw [h3] at hv1
  exact ⟨v, by rw [Joins.cell_of_block h9]; exact hv1, hv2⟩
theorem okFr_free {C : Array Value} {t : TypeId} {fr : Nat × Nat} {b o : Nat} {w : World} (h9 : w.heap[b]? = some (.cells C t fr)) {k : Nat} (h11 : okFr fr C k) (ho : o < C.size) : w.frozen? ⟨b, o, none⟩ = false := by
  obtain ⟨lo, hi⟩ := fr
  simp only [World.frozen?, h9]
  rcases h11.1 with h5 | h5 <;> simp at h5 ⊢ <;> omega
theorem okFr_set {fr : Nat × Nat} {C : Array Value} {k o : Nat} {us : List Value} (h : okFr fr C k) (hfit : o + us.length ≤ C.size) (hu : ∀ u, u ∈ us → u.oneCell' = true) : okFr fr (cset C.toList o us).toArray k := by
  refine ⟨?_, fun i v hv => ?_⟩
  · have : (cset C.toList o us).toArray.size = C.size := by simp [cset_length]
    rw [this]; exact h.1
  · rw [List.getElem?_toArray, cset_get _ _ _ _ (by simpa using hfit)] at hv
    split at hv
    · exact hu v (List.mem_of_getElem? hv)
    · exact h.2 i v (by simpa using hv)
theorem okFr_mem {us : List Value} {k : Nat} (hu : ∀ u, u ∈ us → u.oneCell' = true) : okFr (0, 0) us.toArray k := ⟨.inl (Nat.le_refl _), fun i v hv => hu v (List.mem_of_getElem? (by simpa using hv))⟩
theorem Vs_one {vs : List CV} {us : List Value} (hus : Vs φ M vs us) : ∀ u, u ∈ us → u.oneCell' = true := fun u hu => by
  obtain ⟨j, hj⟩ := List.mem_iff_getElem?.1 hu
  have hjl : j < vs.length := by rw [← hus.1]; exact (List.getElem?_eq_some_iff.1 hj).1
  obtain ⟨u', h1, h2⟩ := hus.2 j _ (List.getElem?_eq_getElem hjl)
  rw [hj] at h1
  cases h1
  exact h2.one
theorem cell_in {k i n j : Nat} (hi : i < n) (hj : j < k) : i * k + j < n * k := by
  have : (i + 1) * k ≤ n * k := Nat.mul_le_mul_right k hi
  rw [Nat.succ_mul] at this
  omega
theorem Rep.setCells (R : Rep G φ M h w) {l g k i : Nat} {t : TypeId} {cap : Option Nat} {es : List (List CV)} (hl : h[l]? = some (.own g t k cap es)) {e : List CV} (hi : es[i]? = some e) {p : Pl} (hp : φ l = some p) (off : Nat) (vs : List CV) (us : List Value) (hus : Vs φ M vs us) (hfit : off + vs.length ≤ e.length) :
    Rep G φ M (h.set l (.own g t k cap (es.set i (cset e off vs)))) (w.setCells p.b (i * k + off) us) := by
  have hne : es ≠ [] := by intro e; subst e; simp at hi
  obtain ⟨p', h1, h2, h3, h4, h5, h6, h7, h8, C, fr, h9, h10, h11, h12⟩ := R.own hl hne
  rw [hp] at h1
  cases h1
  have hil := (List.getElem?_eq_some_iff.1 hi).1
  have hek : e.length = k := h7 e (List.mem_of_getElem? hi)
  have hin : i * k + off + us.length ≤ C.size := by
    have : (i + 1) * k ≤ p.cap * k := Nat.mul_le_mul_right k (by omega)
    rw [h10, h3]
    rw [Nat.succ_mul] at this
    have := hus.1
    omega
  obtain ⟨s1, s2, s3, s4, s5⟩ := setCells_other p.b us (i * k + off) w
  have hb := heap_setCells p.b t fr us (i * k + off) w C.toList (by simpa using h9)
  have hcl : (cset C.toList (i * k + off) us).toArray.size = C.size := by simp [cset_length]
  have W := R.write hl hp h4 s1 s2 s3 s4 s5 _ fr hb (by rw [hcl, h10]) (okFr_set h11 hin (Vs_one hus)) p.g (.inl rfl) cap h6 (es.set i (cset e off vs)) (by simpa using h5) (fun e' he' => by
      rcases List.mem_or_eq_of_mem_set he' with he' | rfl
      · exact h7 e' he'
      · rw [cset_length, hek]) (fun i' e' j x hi' hj => by
      have hCl : i * k + off + us.length ≤ C.toList.length := by simpa using hin
      simp only [List.getElem?_toArray]
      rw [cset_get _ _ _ _ hCl]
      by_cases hii : i' = i
      · subst hii
        rw [List.getElem?_set_self hil] at hi'
        cases hi'
        rw [cset_get _ _ _ _ hfit] at hj
        have hul := hus.1
        by_cases hc : off ≤ j ∧ j < off + vs.length
        · rw [if_pos hc] at hj
          rw [if_pos (by omega), show i' * k + j - (i' * k + off) = j - off by omega]
          exact hus.2 _ _ hj
        · rw [if_neg hc] at hj
          rw [if_neg (by omega)]
          rw [← h3]
          simpa using h12 i' e j x hi hj
      · rw [List.getElem?_set_ne (Ne.symm hii)] at hi'
        have hj' : j < k := by rw [← h7 e' (List.mem_of_getElem? hi')]; exact (List.getElem?_eq_some_iff.1 hj).1
        have hul := hus.1
        rw [if_neg (fun q => by
          have hoff : i' * k + j - i * k < k := by omega
          have := place_ne (k := k) (i := i') (j := j) (i' := i) (j' := i' * k + j - i * k) hj' hoff (by omega)
          exact hii this.1), ← h3]
        simpa using h12 i' e' j x hi' hj)
  have hsame : phiAt φ l { p with g := p.g } = φ := by
    funext i
    by_cases e : i = l
    · subst e; rw [phiAt_at, hp]
    · rw [phiAt_ne φ _ e]
  rw [hsame, h2] at W
  exact W.1
end
/-! ### Contracts -/
def owned (φ : Phi) (h : AH) (b : Nat) : Prop := ∃ l p, Own φ h l p ∧ p.b = b
def ACall (P : Program) (g : Nat) (args : List AV) (h : AH) (K : AV → AH → Prop) : Prop :=
  ∀ φ M w vs, Rep ⟨w, owned φ h, M⟩ φ M h w → VAs φ M args vs →
    Calls P g vs.toArray w fun e w' => ∃ v r h' φ' M', e = .returned v ∧ VA φ' M' r v ∧ K r h' ∧ Rep ⟨w, owned φ h, M⟩ φ' M' h' w' ∧ Le φ φ'
theorem ACall.mono {P : Program} {g : Nat} {args : List AV} {h : AH} {K K' : AV → AH → Prop} (H : ACall P g args h K) (hk : ∀ r h', K r h' → K' r h') : ACall P g args h K' :=
  fun φ M w vs hr ha => (H φ M w vs hr ha).mono fun e w' ⟨v, r, h', φ', M', h1, h2, h3, h4⟩ => ⟨v, r, h', φ', M', h1, h2, hk _ _ h3, h4⟩
section
variable {G : Cx} {φ φ' : Phi} {M M' : Im} {h h' : AH} {w w' : World}
theorem Rep.tab_ne (R : Rep G φ M h w) {b : Nat} (hb : tabB b = true) {l : Nat} {p : Pl} (ho : Own φ h l p) : p.b ≠ b := fun e => by
  subst e
  obtain ⟨h1, h2, _⟩ := R.output.2 _ hb
  rcases R.new l p ho with q | q
  · exact h2 q
  · omega
theorem Rep.tab (R : Rep G φ M h w) {B : Nat → Prop} {M' : Im} (hB : ∀ b, tabB b = true → ¬ B b) : TabG ⟨w, B, M'⟩ := fun b hb => by
  obtain ⟨h1, h2, h3⟩ := R.output.2 b hb
  exact ⟨Nat.lt_of_lt_of_le h1 R.size, hB b hb, (R.blk b h1 h2).symm ▸ h3⟩
theorem Rep.rebase (R : Rep G φ M h w) : Rep ⟨w, owned φ h, M⟩ φ M h w :=
  ⟨rfl, rfl, ⟨rfl, R.tab fun b hb ⟨l, p, ho, e⟩ => R.tab_ne hb ho e⟩, Nat.le_refl _, fun _ _ _ => rfl, MLe.refl _, R.imm, fun _ _ q => .inl q, R.dom, R.obj, fun l p ho => .inl ⟨l, p, ho, rfl⟩, R.inj, R.dis⟩
theorem Rep.back (R : Rep G φ M h w) (R' : Rep ⟨w, owned φ h, M⟩ φ' M' h' w') : Rep G φ' M' h' w' := by
  have hB : ∀ b, owned φ h b → G.B b ∨ G.w.heap.size ≤ b := by rintro b ⟨l, p, ho, rfl⟩; exact R.new l p ho
  have hs := R.size
  refine ⟨R'.os.trans R.os, R'.tape.trans R.tape, ⟨R'.output.1.trans R.output.1, R.output.2⟩, Nat.le_trans R.size R'.size, fun b hb hn => ?_, R.mon.trans R'.mon, R'.imm, fun a v q => ?_, R'.dom, R'.obj, fun l p ho => ?_, R'.inj, R'.dis⟩
  · rw [R'.blk b (Nat.lt_of_lt_of_le hb hs) (fun ho => by rcases hB b ho with q | q; exact hn q; omega)]
    exact R.blk b hb hn
  · rcases R'.imn a v q with q | q | q
    · exact R.imn a v q
    · exact .inr (hB _ q)
    · exact .inr (.inr (Nat.le_trans hs q))
  · rcases R'.new l p ho with q | q
    · exact hB _ q
    · exact .inr (Nat.le_trans hs q)
/-! ### Closed values; a call that is handed nothing that is owned -/
def clB : CV → Bool
  | .pt .. => false
  | .sl .. => false
  | .clo _ caps => caps.isEmpty
  | _ => true
def clA : AV → Bool
  | .one x => clB x
  | .agg xs => xs.all clB
  | .tup xs => false
  | .any => false
def shV (n : Nat) : CV → CV
  | .pt l g i off => .pt (n + l) g i off
  | .sl l g off len => .sl (n + l) g off len
  | .clo g caps => .clo g (caps.map (n + ·))
  | x => x
def shA1 (n : Nat) : AV → AV
  | .one x => .one (shV n x)
  | .agg xs => .agg (xs.map (shV n))
  | x => x
def shA (n : Nat) : AV → AV
  | .tup xs => .tup (xs.map (shA1 n))
  | x => shA1 n x
def shO (n : Nat) : AO → AO
  | .dead => .dead
  | .ro g t k es => .ro g t k es
  | .own g t k cap es => .own g t k cap (es.map (·.map (shV n)))
def joinΦ (φ φ1 : Phi) (n : Nat) : Phi := fun l => if l < n then φ l else φ1 (l - n)
theorem V_shift {φ1 : Phi} {n : Nat} {x : CV} {u : Value} (hv : V φ1 M x u) : V (joinΦ φ φ1 n) M (shV n x) u := by
  have key : ∀ l, joinΦ φ φ1 n (n + l) = φ1 l := fun l => by simp [joinΦ]; omega
  cases x with
  | pt l g i off => obtain ⟨h1, p, h2, h3⟩ := hv; exact ⟨h1, p, by rw [key]; exact h2, h3⟩
  | sl l g off len => obtain ⟨h1, p, h2, h3⟩ := hv; exact ⟨h1, p, by rw [key]; exact h2, h3⟩
  | clo g caps =>
    obtain ⟨vs, h1, h2, h3⟩ := hv
    refine ⟨vs, h1, by simpa using h2, fun j l hj => ?_⟩
    rw [List.getElem?_map] at hj
    obtain ⟨l', hl', rfl⟩ := Option.map_eq_some_iff.1 hj
    obtain ⟨v, h4, h5, p, h6, h7⟩ := h3 j l' hl'
    exact ⟨v, h4, h5, p, by rw [key]; exact h6, h7⟩
  | _ => exact hv
theorem VA1_shift {φ1 : Phi} {n : Nat} {x : AV} {u : Value} (hv : VA1 φ1 M x u) : VA1 (joinΦ φ φ1 n) M (shA1 n x) u := by
  cases x with
  | one x =>
    cases x with
    | c v => exact hv
    | _ => exact V_shift (φ := φ) (x := _) (u := u) (by simpa only [VA1] using hv)
  | agg xs =>
    obtain ⟨us, h1, h2, h3⟩ := hv
    refine ⟨us, h1, by simpa using h2, fun j x hj => ?_⟩
    rw [List.getElem?_map] at hj
    obtain ⟨x', hx', rfl⟩ := Option.map_eq_some_iff.1 hj
    obtain ⟨u, h4, h5⟩ := h3 j x' hx'
    exact ⟨u, h4, V_shift h5⟩
  | tup xs => exact hv
  | any => trivial
theorem VA_shift {φ1 : Phi} {n : Nat} {x : AV} {u : Value} (hv : VA φ1 M x u) : VA (joinΦ φ φ1 n) M (shA n x) u := by
  cases x with
  | tup xs =>
    obtain ⟨us, h1, h2, h3⟩ := hv
    refine ⟨us, h1, by simpa using h2, fun j x hj => ?_⟩
    rw [List.getElem?_map] at hj
    obtain ⟨x', hx', rfl⟩ := Option.map_eq_some_iff.1 hj
    obtain ⟨u, h4, h5⟩ := h3 j x' hx'
    exact ⟨u, h4, VA1_shift h5⟩
  | one x => exact VA1_VA (VA1_shift (x := .one x) hv)
  | agg xs => exact VA1_VA (VA1_shift (x := .agg xs) hv)
  | any => trivial
theorem Rep.empty (R : Rep G φ M h w) : Rep ⟨w, owned (fun _ => none) [], M⟩ (fun _ => none) M [] w :=
  ⟨rfl, rfl, ⟨rfl, R.tab fun b hb ⟨l, p, ⟨_, _, _, _, _, hl, _⟩, e⟩ => by simp at hl⟩, Nat.le_refl _, fun _ _ _ => rfl, MLe.refl _, R.imm, fun _ _ q => .inl q, fun _ _ => rfl, fun l o hl => by simp at hl, fun l p ho => by obtain ⟨_, _, _, _, _, hl, _⟩ := ho; simp at hl, fun i j p q ho => by obtain ⟨_, _, _, _, _, hl, _⟩ := ho; simp at hl,
    fun a v l p _ ho => by obtain ⟨_, _, _, _, _, hl, _⟩ := ho; simp at hl⟩
theorem Rep.join (R : Rep G φ M h w) {φ1 : Phi} {M1 : Im} {h1 : AH} {w1 : World} (R1 : Rep ⟨w, owned (fun _ => none) [], M⟩ φ1 M1 h1 w1) :
    Rep G (joinΦ φ φ1 h.length) M1 (h ++ h1.map (shO h.length)) w1 ∧ Le φ (joinΦ φ φ1 h.length) ∧ (∀ l, l < h.length → joinΦ φ φ1 h.length l = φ l) ∧ ∀ b, b < w.heap.size → w1.heap[b]? = w.heap[b]? := by
  have hno : ∀ b, ¬ owned (fun _ => none) [] b := by rintro b ⟨l, p, ⟨_, _, _, _, _, hl, _⟩, _⟩; simp at hl
  have hblk : ∀ b, b < w.heap.size → w1.heap[b]? = w.heap[b]? := fun b hb => R1.blk b hb (hno b)
  have hlow : ∀ l, l < h.length → joinΦ φ φ1 h.length l = φ l := fun l hl => by simp [joinΦ, hl]
  have hle : Le φ (joinΦ φ φ1 h.length) := fun l p hl => by
    have : l < h.length := by
      rcases Nat.lt_or_ge l h.length with q | q
      · exact q
      · rw [R.dom l q] at hl; cases hl
    exact ⟨p, by rw [hlow l this]; exact hl, .inl rfl⟩
  have hget : ∀ (l : Nat) (o : AO), (h ++ h1.map (shO h.length))[l]? = some o → (l < h.length ∧ h[l]? = some o) ∨ (h.length ≤ l ∧ ∃ o1, h1[l - h.length]? = some o1 ∧ o = shO h.length o1) := by
    intro l o hl
    rcases Nat.lt_or_ge l h.length with hlt | hge
    · left; exact ⟨hlt, by rwa [List.getElem?_append_left hlt] at hl⟩
    · right
      rw [List.getElem?_append_right hge, List.getElem?_map] at hl
      obtain ⟨o1, ho1, rfl⟩ := Option.map_eq_some_iff.1 hl
      exact ⟨hge, o1, ho1, rfl⟩
  have hown : ∀ l p, Own (joinΦ φ φ1 h.length) (h ++ h1.map (shO h.length)) l p → (l < h.length ∧ Own φ h l p) ∨ (h.length ≤ l ∧ Own φ1 h1 (l - h.length) p) := by
    rintro l p ⟨g, t, k, cap, es, hl, hp, hv⟩
    rcases hget l _ hl with ⟨hlt, hl⟩ | ⟨hge, o1, hl, ho⟩
    · rw [hlow l hlt] at hp
      exact .inl ⟨hlt, g, t, k, cap, es, hl, hp, hv⟩
    · have hp' : φ1 (l - h.length) = some p := by simpa [joinΦ, Nat.not_lt.2 hge] using hp
      cases o1 with
      | dead => cases ho
      | ro _ _ _ _ => cases ho
      | own g1 t1 k1 cap1 es1 => exact .inr ⟨hge, g1, t1, k1, cap1, es1, hl, hp', hv⟩
  have hnew : ∀ l p, Own φ1 h1 l p → w.heap.size ≤ p.b := fun l p ho => by
    rcases R1.new l p ho with q | q
    · exact absurd q (hno _)
    · exact q
  have hs := R.size
  refine ⟨⟨R1.os.trans R.os, R1.tape.trans R.tape, ⟨R1.output.1.trans R.output.1, R.output.2⟩, Nat.le_trans R.size R1.size, fun b hb hn => ?_, R.mon.trans R1.mon, R1.imm, fun a v q => ?_, fun l hl => ?_, ?_, ?_, ?_, ?_⟩, hle, hlow, hblk⟩
  · rw [hblk b (Nat.lt_of_lt_of_le hb hs)]; exact R.blk b hb hn
  · rcases R1.imn a v q with q | q | q
    · exact R.imn a v q
    · exact absurd q (hno _)
    · exact .inr (.inr (Nat.le_trans hs q))
  · simp at hl
    have : ¬ l < h.length := by omega
    simp only [joinΦ, this, if_false]
    exact R1.dom _ (by omega)
  · intro l o hl
    rcases hget l o hl with ⟨hlt, hl⟩ | ⟨hge, o1, hl1, rfl⟩
    · refine (R.obj l o hl).move hle R1.mon (hlow l hlt) (fun p hp hv ho => ?_)
      cases o with
      | dead => cases ho
      | ro _ _ _ _ => cases ho
      | own g t k cap es => exact hblk _ (R.own_blk ⟨g, t, k, cap, es, hl, hp, hv⟩)
    · have H := R1.obj _ _ hl1
      cases o1 with
      | dead => trivial
      | ro g t k es =>
        obtain ⟨p, h1', h2⟩ := H
        exact ⟨p, by simpa [joinΦ, Nat.not_lt.2 hge] using h1', h2⟩
      | own g t k cap es =>
        obtain ⟨p, h1', h2, h3, h4, h5, h6, h7, h8⟩ := H
        refine ⟨p, by simpa [joinΦ, Nat.not_lt.2 hge] using h1', h2, h3, by simpa using h4, h5, fun e he => ?_, h7, fun hv => ?_⟩
        · obtain ⟨e', he', rfl⟩ := List.mem_map.1 he
          simpa using h6 e' he'
        · obtain ⟨h9, C, fr, h10, h11, h12, h13⟩ := h8 hv
          refine ⟨h9, C, fr, h10, h11, h12, fun i e j x hi hj => ?_⟩
          rw [List.getElem?_map] at hi
          obtain ⟨e', he', rfl⟩ := Option.map_eq_some_iff.1 hi
          rw [List.getElem?_map] at hj
          obtain ⟨x', hx', rfl⟩ := Option.map_eq_some_iff.1 hj
          obtain ⟨v, hv1, hv2⟩ := h13 i e' j x' he' hx'
          exact ⟨v, hv1, V_shift hv2⟩
  · intro l p ho
    rcases hown l p ho with ⟨_, ho⟩ | ⟨_, ho⟩
    · exact R.new l p ho
    · exact .inr (Nat.le_trans hs (hnew _ _ ho))
  · intro i j p q hi hj hne
    rcases hown i p hi with ⟨hil, hi⟩ | ⟨hil, hi⟩ <;> rcases hown j q hj with ⟨hjl, hj⟩ | ⟨hjl, hj⟩
    · exact R.inj i j p q hi hj hne
    · have := R.own_blk hi; have := hnew _ _ hj; omega
    · have := R.own_blk hj; have := hnew _ _ hi; omega
    · exact R1.inj _ _ p q hi hj (by omega)
  · intro a v l p hm ho
    rcases hown l p ho with ⟨_, ho⟩ | ⟨_, ho⟩
    · rcases R1.imn a v hm with q | q | q
      · exact R.dis a v l p q ho
      · exact absurd q (hno _)
      · have := R.own_blk ho; simp at q; omega
    · exact R1.dis a v _ p hm ho
end
end Go.BL
end
section
namespace Go.BL
open Go.RowKit
set_option linter.unusedVariables false
set_option linter.unusedSimpArgs false
/-! ### 1. What a program says of its types -/
def aggA (P : Program) (t : TypeId) : Option Bool := (P.underlying t).map fun | .struct _ | .array _ _ => true | _ => false
def sizeA (P : Program) (t : TypeId) : Option Nat := (P.info? t).map (·.size)
def bytesA (P : Program) (t : TypeId) : Option Nat := (P.info? t).map (·.bytes)
def elemA (P : Program) (t : TypeId) : Option TypeId := match P.underlying t with | some (.slice e) => some e | _ => none
def strA (P : Program) (t : TypeId) : Bool := match P.underlying t with | some .string => true | _ => false
def boolA (P : Program) (t : TypeId) : Bool := match P.underlying t with | some .bool => true | _ => false
def kindA (P : Program) (t : TypeId) : Option IntKind := match P.underlying t with | some (.int k) => some k | _ => none
def offA (P : Program) (s : TypeId) (i : Nat) : Option (Nat × TypeId) := match P.underlying s with | some (.struct fs) => (fs[i]?).bind fun f => if ((P.info? f.type).map (·.size)).getD 0 = 0 then none else some (f.offset, f.type) | _ => none
def cvOf : Value → CV
  | .slice none 0 0 => .nl
  | v => .c v
def zeroA (P : Program) (t : TypeId) : Option (List CV) := ((P.info? t).bind (·.zero)).bind fun z => if z.cells.toList.all (·.oneCell') then some (z.cells.toList.map cvOf) else none
def placesA (P : Program) (t : TypeId) : Option (List (Nat × Nat)) := match P.underlying t with | some (.struct fs) => fs.toList.mapM (fun f => (P.info? f.type).map fun i => (f.offset, i.size)) | _ => none
/-! ### 2. The operations -/
def cellsA : AV → Option (List CV)
  | .one (.c v) => if v.oneCell' = true then some [.c v] else none
  | .one x => some [x]
  | .agg xs => some xs
  | _ => none
def partA (P : Program) (t : TypeId) (cs : List CV) (off : Nat) : Option AV :=
  match aggA P t with
  | some true => match sizeA P t with | some n => if off + n ≤ cs.length then some (.agg ((cs.drop off).take n)) else none | none => none
  | some false => (cs[off]?).map .one
  | none => none
def Br (b : Bool) (x y : Unit → Prop) : Prop := match b with | true => x () | false => y ()
def ofVal : Value → AV
  | .agg cs => if cs.toList.all (·.oneCell') = true then .agg (cs.toList.map cvOf) else .one (.c (.agg cs))
  | v => .one (cvOf v)
def ev (f : AF) : Operand → AV
  | .tmp t => f t
  | .const v => ofVal v
  | .global g => .one (.c (.pointer (some ⟨g, 0, none⟩)))
  | .func g => .one (.clo g [])
def On {α : Type} (x : Option α) (K : α → Prop) : Prop := match x with | some v => K v | none => False
theorem On.elim {α : Type} {x : Option α} {K : α → Prop} (h : On x K) : ∃ v, x = some v ∧ K v := by
  cases x with
  | none => exact False.elim h
  | some v => exact ⟨v, rfl, h⟩
def intA (op : BinOp) (k : IntKind) (a b : Int) : Option Value :=
  match op with
  | .add => some (.int k (k.wrap (a + b)))
  | .sub => some (.int k (k.wrap (a - b)))
  | .mul => some (.int k (k.wrap (a * b)))
  | .quo => if b = 0 then none else some (.int k (k.wrap (a.tdiv b)))
  | .rem => if b = 0 then none else some (.int k (a.tmod b))
  | .and => some (.int k (k.wrap (BitVec.ofInt k.bits a &&& BitVec.ofInt k.bits b).toNat))
  | .or => some (.int k (k.wrap (BitVec.ofInt k.bits a ||| BitVec.ofInt k.bits b).toNat))
  | .xor => some (.int k (k.wrap (BitVec.ofInt k.bits a ^^^ BitVec.ofInt k.bits b).toNat))
  | .eql => some (.bool (a == b))
  | .neq => some (.bool (a != b))
  | .lss => some (.bool (decide (a < b)))
  | .leq => some (.bool (decide (a ≤ b)))
  | .gtr => some (.bool (decide (a > b)))
  | .geq => some (.bool (decide (a ≥ b)))
  | _ => none
def strOpA (op : BinOp) (a b : ByteArray) : Option Value :=
  match op with
  | .add => if a.size + b.size ≤ 9223372036854775807 then some (.string (a ++ b)) else none
  | .eql => some (.bool (a.toList == b.toList))
  | .neq => some (.bool (!(a.toList == b.toList)))
  | _ => none
def binA (P : Program) (op : BinOp) (t : TypeId) (x y : Value) : Option Value :=
  match x, y with
  | .int k a, .int k' b => match op with
    | .shl => if b < 0 then none else some (.int k (k.wrap (a * 2 ^ min b.toNat k.bits)))
    | .shr => if b < 0 then none else some (.int k (a.fdiv (2 ^ min b.toNat k.bits)))
    | _ => if k = k' then intA op k a b else none
  | .string a, .string b => strOpA op a b
  | .bool a, .bool b => if boolA P t = true then match op with
    | .eql => some (.bool (a == b))
    | .neq => some (.bool (!(a == b)))
    | _ => none
    else none
  | _, _ => none
def eqVA (P : Program) (t : TypeId) : Value → Value → Option Bool
  | .int k a, .int k' b => if (kindA P t).isSome = true ∧ k = k' then some (a == b) else none
  | .string a, .string b => if strA P t = true then some (a.toList == b.toList) else none
  | .bool a, .bool b => if boolA P t = true then some (a == b) else none
  | _, _ => none
def eqFA (P : Program) (xs ys : List CV) : List (TypeId × Nat) → Option Bool
  | [] => some true
  | (t, off) :: r => match aggA P t, xs[off]?, ys[off]? with
    | some false, some (.c a), some (.c b) => (eqVA P t a b).bind fun e => (eqFA P xs ys r).map (e && ·)
    | _, _, _ => none
def eqTA (P : Program) (t : TypeId) : Option (List (TypeId × Nat)) := match P.underlying t with
  | some (.struct fs) => if P.stoodInHeld t = false ∧ P.eqGuardType P.depth t = false ∧ fs.toList.all (fun f => f.name != "_") = true then some (fs.toList.map fun f => (f.type, f.offset)) else none
  | _ => none
def unA (op : UnOp) (x : Value) : Option Value :=
  match op, x with
  | .neg, .int k n => some (.int k (k.wrap (0 - n)))
  | .not, .bool b => some (.bool (!b))
  | _, _ => none
def nilQ : CV → Option Bool
  | .nl => some true
  | .emp => none
  | .im es => if es = [] then none else some false
  | .sl _ _ _ len => if len = 0 then none else some false
  | _ => some false
def isSl : CV → Bool
  | .nl => true
  | .emp => true
  | .im _ => true
  | .sl _ _ _ _ => true
  | _ => false
def toVal : AV → Nat → Bool
  | .one (.pt l _ _ _), i => i == l
  | .one (.sl l _ _ _), i => i == l
  | .one .nl, i => false
  | .one .emp, i => false
  | _, _ => true
def objA (h : AH) (l g : Nat) : Option (TypeId × Nat × Option Nat × List (List CV)) := match h[l]? with
  | some (.own g' t k cap es) => if g' = g then some (t, k, cap, es) else none
  | _ => none
theorem objA_spec {h : AH} {l g : Nat} {q : TypeId × Nat × Option Nat × List (List CV)} (hq : objA h l g = some q) : h[l]? = some (.own g q.1 q.2.1 q.2.2.1 q.2.2.2) := by
  unfold objA at hq
  split at hq
  · split at hq
    · rename_i e; subst e; cases hq; assumption
    · cases hq
  · cases hq
def objR (h : AH) (l g : Nat) : Option (TypeId × Nat × List (List CV)) := match h[l]? with
  | some (.own g' t k cap es) => if g' = g then some (t, k, es) else none
  | some (.ro g' t k es) => if g' = g then some (t, k, es) else none
  | _ => none
def fresh (h : AH) : CV → Bool
  | .sl l g _ _ => (objR h l g).isSome
  | _ => true
def aop1 (P : Program) (op : Op) (f : AF) (h : AH) (K : AV → AH → Prop) : Prop :=
  match op with
  | .move x => K (ev f x) h
  | .assign x => K (ev f x) h
  | .pick c a b => (match ev f c with | .one (.c (.bool t)) => K (if t = true then ev f a else ev f b) h | _ => False)
  | .alloc t => On (zeroA P t) fun cs => On (sizeA P t) fun n => n = cs.length ∧ 0 < n ∧ K (.one (.pt h.length 0 0 0)) (h ++ [.own 0 t n (some 1) [cs]])
  | .box t x => On (cellsA (ev f x)) fun cs => 0 < cs.length ∧ K (.one (.pt h.length 0 0 0)) (h ++ [.own 0 t cs.length (some 1) [cs]])
  | .load t a => (match ev f a with
    | .one (.pt l g i off) => On (objR h l g) fun q => On (q.2.2[i]?) fun e => On (partA P t e off) fun v => K v h
    | .one (.pel e off) => On (partA P t e off) fun v => K v h
    | _ => False)
  | .store t a x => (match ev f a with
    | .one (.pt l g i off) => On (objA h l g) fun q => On (q.2.2.2[i]?) fun e => On (cellsA (ev f x)) fun vs => sizeA P t = some vs.length ∧ off + vs.length ≤ e.length ∧ K undefA (h.set l (.own g q.1 q.2.1 q.2.2.1 (q.2.2.2.set i (cset e off vs))))
    | _ => False)
  | .fieldAddr s x i => (match ev f x with
    | .one (.pt l g j off) => On (offA P s i) fun q => (objR h l g).isSome = true ∧ K (.one (.pt l g j (off + q.1))) h
    | .one (.pel e off) => On (offA P s i) fun q => K (.one (.pel e (off + q.1))) h
    | _ => False)
  | .field s x i => (match ev f x with
    | .agg cs => On (offA P s i) fun q => On (partA P q.2 cs q.1) fun v => K v h
    | _ => False)
  | .indexAddr t x ix => On (elemA P t) fun e => On (sizeA P e) fun n => (match ev f x, ev f ix with
    | .one (.sl l g off len), .one (.c (.int _ i)) => On (objR h l g) fun q => q.2.1 = n ∧ 0 ≤ i ∧ i < len ∧ K (.one (.pt l g (off + i.toNat) 0)) h
    | .one (.im es), .one (.c (.int _ i)) => 0 ≤ i ∧ On (es[i.toNat]?) fun e => e.length = n ∧ K (.one (.pel e 0)) h
    | _, _ => False)
  | .index t x ix => strA P t = true ∧ (match ev f x, ev f ix with
    | .one (.c (.string s)), .one (.c (.int _ i)) => 0 ≤ i ∧ ∃ hi : i.toNat < s.size, K (.one (.c (.int .u8 (s[i.toNat]'hi).toNat))) h
    | _, _ => False)
  | .binOp op t x y _ => (match ev f x, ev f y with
    | .one (.c a), .one (.c b) => On (binA P op t a b) fun v => K (.one (.c v)) h
    | .one a, .one .nl => (elemA P t).isSome = true ∧ isSl a = true ∧ fresh h a = true ∧ (match op, nilQ a with
      | .eql, some b => K (.one (.c (.bool b))) h
      | .neq, some b => K (.one (.c (.bool (!b)))) h
      | .eql, none => ∀ b, K (.one (.c (.bool b))) h
      | .neq, none => ∀ b, K (.one (.c (.bool b))) h
      | _, _ => False)
    | .agg xs, .agg ys => On (eqTA P t) fun fs => On (eqFA P xs ys fs) fun b => (match op with
      | .eql => K (.one (.c (.bool b))) h
      | .neq => K (.one (.c (.bool (!b)))) h
      | _ => False)
    | _, _ => False)
  | .unOp op _ x => (match ev f x with
    | .one (.c a) => On (unA op a) fun v => K (.one (.c v)) h
    | _ => False)
  | .extract x i => (match ev f x with
    | .tup xs => On (xs[i]?) fun v => K v h
    | _ => False)
  | .nilCheck x => (match ev f x with
    | .one (.pt l g i off) => (objR h l g).isSome = true ∧ K (.one (.pt l g i off)) h
    | .one (.pel e off) => K (.one (.pel e off)) h
    | _ => False)
  | .convert src dst x => (match kindA P dst, ev f x with
    | some k, .one (.c (.int _ n)) => (P.underlying src).isSome = true ∧ K (.one (.c (.int k (k.wrap n)))) h
    | _, _ => False)
  | _ => False
section
variable {P : Program} {G : Cx} {φ : Phi} {M : Im} {h : AH} {w : World} {f : AF} {n : Nat} {a : Act}
theorem V_cvOf (v : Value) (hv : v.oneCell' = true) : V φ M (cvOf v) v := by
  unfold cvOf
  split
  · exact V0.nl
  · exact V0.c v hv
theorem V_c {v u : Value} (hv : V φ M (.c v) u) : u = v := by cases (show V0 M (.c v) u from hv); rfl
theorem VA_c {v u : Value} (hv : VA φ M (.one (.c v)) u) : u = v := hv
theorem mk_c (v : Value) : VA φ M (.one (.c v)) v := rfl
theorem VA_cvOf (v : Value) : VA φ M (.one (cvOf v)) v := by
  unfold cvOf
  split
  · exact V0.nl
  · rfl
theorem Vs_cvOf (vs : List Value) (hv : ∀ u, u ∈ vs → u.oneCell' = true) : Vs φ M (vs.map cvOf) vs := by
  refine ⟨by simp, fun j x hj => ?_⟩
  rw [List.getElem?_map] at hj
  obtain ⟨u, hu, rfl⟩ := Option.map_eq_some_iff.1 hj
  exact ⟨u, hu, V_cvOf u (hv u (List.mem_of_getElem? hu))⟩
theorem VA_ofVal (v : Value) : VA φ M (ofVal v) v := by
  unfold ofVal
  split
  · rename_i cs
    split
    · rename_i hall
      exact ⟨cs.toList, by simp, Vs_cvOf _ (fun u hu => (List.all_eq_true.1 hall) u hu)⟩
    · rfl
  · exact VA_cvOf v
theorem ev_V (F : FOk n φ M f a) {x : Operand} (hx : ∀ t, x = .tmp t → t < n) : VA φ M (ev f x) (a.eval x) := by
  cases x with
  | tmp t =>
    obtain ⟨u, h1, h2⟩ := F.val t (hx t rfl)
    simpa [Act.eval, ev, h1] using h2
  | const v => exact VA_ofVal v
  | global g => rfl
  | func g => exact ⟨[], rfl, rfl, fun j l hj => by simp at hj⟩
theorem one_cells {u : Value} (hu : u.oneCell' = true) : u.cells = [u].toArray := by
  cases u <;> first | rfl | (simp [Value.oneCell'] at hu)
theorem cellsA_V {x : AV} {cs : List CV} {u : Value} (hx : cellsA x = some cs) (hv : VA φ M x u) : ∃ us, u.cells = us.toArray ∧ Vs φ M cs us := by
  have one : ∀ (y : CV) (u : Value), V φ M y u → ∃ us : List Value, u.cells = us.toArray ∧ Vs φ M [y] us := fun y u hy =>
    ⟨[u], one_cells hy.one, rfl, fun j x hj => by
      rcases j with _ | j
      · simp at hj; subst hj; exact ⟨u, rfl, hy⟩
      · simp at hj⟩
  unfold cellsA at hx
  split at hx
  · split at hx
    · rename_i v h1
      cases hx
      exact one _ _ (by rw [VA_c hv]; exact V0.c v h1)
    · cases hx
  · rename_i y hne
    cases hx
    rcases VA_V hv with hv | ⟨v, rfl, rfl⟩
    · exact one _ _ hv
    · exact absurd rfl (hne _)
  · cases hx
    obtain ⟨us, rfl, h2⟩ := hv
    exact ⟨us, rfl, h2⟩
  · cases hx
theorem add_lit (b o i : Nat) : (⟨b, o, none⟩ : Addr).add i = ⟨b, o + i, none⟩ := by unfold Addr.add; split <;> simp_all
theorem run_isAggA {t : TypeId} {b : Bool} (ht : aggA P t = some b) (w : World) : (isAgg t).run P w = .ok b w := by
  unfold aggA at ht
  obtain ⟨d, hd, rfl⟩ := Option.map_eq_some_iff.1 ht
  simp only [isAgg, underlying, Sem.run_bind, run_program, Result.andThen_ok, hd, Sem.run_pure]
  cases d <;> rfl
theorem run_sizeA {t : TypeId} {m : Nat} (ht : sizeA P t = some m) (w : World) : (sizeOf t).run P w = .ok m w := by
  unfold sizeA at ht
  obtain ⟨i, hi, rfl⟩ := Option.map_eq_some_iff.1 ht
  simp [sizeOf, typeInfo, hi]
theorem run_loadVarA {t : TypeId} {v : AV} {cs : List CV} {off : Nat} {b o : Nat} (hv : partA P t cs off = some v) (C : Nat → Value) (hV : ∀ (j : Nat) (x : CV), cs[j]? = some x → V φ M x (C j)) :
    ∃ u, VA φ M v u ∧ ∀ w : World, (∀ (j : Nat) (x : CV), cs[j]? = some x → w.cell? ⟨b, o + j, none⟩ = some (C j)) → (loadVar t ⟨b, o + off, none⟩).run P w = .ok u w := by
  unfold partA at hv
  split at hv
  · rename_i hag
    split at hv
    · rename_i m hm
      split at hv
      · rename_i hle
        cases hv
        refine ⟨.agg ((List.range m).map fun j => C (off + j)).toArray, ⟨_, rfl, by simp; omega, fun j x hj => ?_⟩, fun w hc => ?_⟩
        · rw [List.getElem?_take] at hj
          split at hj
          · rename_i hjm
            rw [List.getElem?_drop] at hj
            exact ⟨C (off + j), by simp [hjm], hV _ x hj⟩
          · cases hj
        · have hlen : ((List.range m).map fun j => C (off + j)).length = m := by simp
          have := run_loadCells_list (P := P) (w := w) ⟨b, o + off, none⟩ ((List.range m).map fun j => C (off + j)) (fun j u hj => by
            rw [add_lit]
            rw [List.getElem?_map] at hj
            obtain ⟨j', hj', rfl⟩ := Option.map_eq_some_iff.1 hj
            have hjm : j < m := by
              have := (List.getElem?_eq_some_iff.1 hj').1
              simpa using this
            rw [List.getElem?_range hjm] at hj'
            cases hj'
            rw [Nat.add_assoc]
            exact hc (off + j) _ (List.getElem?_eq_getElem (by omega)))
          rw [hlen] at this
          simp [loadVar, run_isAggA hag, run_sizeA hm, this]
      · cases hv
    · cases hv
  · rename_i hag
    obtain ⟨x, hx, rfl⟩ := Option.map_eq_some_iff.1 hv
    exact ⟨C off, V_VA (hV off x hx), fun w hc => by simp [loadVar, run_isAggA hag, hc off x hx]⟩
  · cases hv
theorem choose_cells {cs : List CV} {A : Nat → Addr} (hc : ∀ (j : Nat) (x : CV), cs[j]? = some x → ∃ v, w.cell? (A j) = some v ∧ V φ M x v) :
    ∃ C : Nat → Value, ∀ (j : Nat) (x : CV), cs[j]? = some x → w.cell? (A j) = some (C j) ∧ V φ M x (C j) := by
  have : ∀ j : Nat, ∃ v : Value, ∀ x, cs[j]? = some x → w.cell? (A j) = some v ∧ V φ M x v := fun j => by
    cases hj : cs[j]? with
    | none => exact ⟨undef, fun x hx => by cases hx⟩
    | some x =>
      obtain ⟨v, h1, h2⟩ := hc j x hj
      exact ⟨v, fun y hy => by cases hy; exact ⟨h1, h2⟩⟩
  obtain ⟨C, hC⟩ := Classical.axiomOfChoice this
  exact ⟨C, hC⟩
theorem V0_V {x : CV} {u : Value} (h : V0 M x u) : V φ M x u := by
  cases x with
  | pt l g i off => cases h
  | sl l g off len => cases h
  | clo g caps => cases h; exact ⟨[], rfl, rfl, fun j l hj => by simp at hj⟩
  | _ => exact h
theorem Rep.own_cells (R : Rep G φ M h w) {l g k : Nat} {t : TypeId} {cap : Option Nat} {es : List (List CV)} (hl : h[l]? = some (.own g t k cap es)) :
    ∃ p, φ l = some p ∧ p.g = g ∧ p.k = k ∧ (∀ e, e ∈ es → e.length = k) ∧ es.length ≤ p.cap ∧ (p.vir = true → es = []) ∧ ∀ (i : Nat) (e : List CV), es[i]? = some e → p.vir = false ∧ ∀ (j : Nat) (x : CV), e[j]? = some x → ∃ v, w.cell? ⟨p.b, i * k + j, none⟩ = some v ∧ V φ M x v := by
  obtain ⟨p, h1, h2, h3, h4, h5, h6, h7, h8⟩ := R.obj l _ hl
  refine ⟨p, h1, h2, h3, h6, h4, fun hv => List.length_eq_zero_iff.1 (by have := h7 hv; omega), fun i e hi => ?_⟩
  obtain ⟨p', q1, q2, q3, q4, q5⟩ := R.cell hl hi
  rw [h1] at q1
  cases q1
  exact ⟨q4, q5⟩
theorem Rep.readR (R : Rep G φ M h w) {l g : Nat} {q : TypeId × Nat × List (List CV)} (hq : objR h l g = some q) :
    ∃ p, φ l = some p ∧ p.g = g ∧ p.k = q.2.1 ∧ (∀ e, e ∈ q.2.2 → e.length = q.2.1) ∧ q.2.2.length ≤ p.cap ∧ (p.vir = true → q.2.2 = []) ∧ ∀ (i : Nat) (e : List CV), q.2.2[i]? = some e → p.vir = false ∧ ∀ (j : Nat) (x : CV), e[j]? = some x → ∃ v, w.cell? ⟨p.b, i * q.2.1 + j, none⟩ = some v ∧ V φ M x v := by
  unfold objR at hq
  split at hq
  · rename_i g' t k cap es hl
    split at hq
    · rename_i e
      subst e
      cases hq
      exact R.own_cells hl
    · cases hq
  · rename_i g' t k es hl
    split at hq
    · rename_i e
      subst e
      cases hq
      obtain ⟨p, h1, h2, h3, h4, h5, h6, h7⟩ := R.obj l _ hl
      have hnil : p.vir = true → es = [] := fun hv => List.length_eq_zero_iff.1 (by have := h6 hv; omega)
      refine ⟨p, h1, h2, h3, h4, h5, hnil, fun i e hi => ?_⟩
      have hv : p.vir = false := by
        cases hv : p.vir with
        | false => rfl
        | true => rw [hnil hv] at hi; simp at hi
      obtain ⟨h8, C, h9⟩ := h7 hv
      refine ⟨hv, fun j x hj => ?_⟩
      obtain ⟨h10, h11⟩ := h9 i e j x hi hj
      rw [h3] at h10
      exact ⟨C i j, (R.imm _ _ h10).1, V0_V h11⟩
    · cases hq
  · cases hq
theorem objA_R {l g : Nat} {q : TypeId × Nat × Option Nat × List (List CV)} (hq : objA h l g = some q) : objR h l g = some (q.1, q.2.1, q.2.2.2) := by
  have := objA_spec hq
  unfold objR
  rw [this]
  simp
theorem pt_at (R : Rep G φ M h w) {l g i off : Nat} {q : TypeId × Nat × List (List CV)} (hq : objR h l g = some q) {u : Value} (hu : VA φ M (.one (.pt l g i off)) u) :
    ∃ p, φ l = some p ∧ p.g = g ∧ p.k = q.2.1 ∧ p.vir = false ∧ u = .pointer (some ⟨p.b, i * p.k + off, none⟩) := by
  obtain ⟨h1, p, h2, h3, h4⟩ := hu
  obtain ⟨p', h5, h6, h7, _⟩ := R.readR hq
  rw [h2] at h5
  cases h5
  obtain ⟨h8, h9⟩ := h4 h6
  exact ⟨p, h2, h6, h7, h8, h9⟩
end
def Kept (S : Nat → Bool) (φ φ' : Phi) (h h' : AH) (w w' : World) : Prop := ∀ l p, Own φ h l p → S l = false → w'.heap[p.b]? = w.heap[p.b]? ∧ Own φ' h' l p
theorem Kept.refl (S : Nat → Bool) (φ : Phi) (h : AH) (w : World) : Kept S φ φ h h w w := fun _ _ ho _ => ⟨rfl, ho⟩
theorem Own.app {φ : Phi} {h : AH} {l : Nat} {p : Pl} (ho : Own φ h l p) (q : Pl) (o : AO) : Own (phiAt φ h.length q) (h ++ [o]) l p := by
  obtain ⟨g, t, k, cap, es, hl, hp, hv⟩ := ho
  have := hlt hl
  exact ⟨g, t, k, cap, es, by rw [List.getElem?_append_left this]; exact hl, by rw [phiAt_ne φ _ (by omega)]; exact hp, hv⟩
theorem Own.set {φ : Phi} {h : AH} {l l0 : Nat} {p : Pl} (ho : Own φ h l p) (hne : l ≠ l0) (q : Pl) (o : AO) : Own (phiAt φ l0 q) (h.set l0 o) l p := by
  obtain ⟨g, t, k, cap, es, hl, hp, hv⟩ := ho
  exact ⟨g, t, k, cap, es, by rw [List.getElem?_set_ne (Ne.symm hne)]; exact hl, by rw [phiAt_ne φ _ hne]; exact hp, hv⟩
theorem Own.set0 {φ : Phi} {h : AH} {l l0 : Nat} {p : Pl} (ho : Own φ h l p) (hne : l ≠ l0) (o : AO) : Own φ (h.set l0 o) l p := by
  obtain ⟨g, t, k, cap, es, hl, hp, hv⟩ := ho
  exact ⟨g, t, k, cap, es, by rw [List.getElem?_set_ne (Ne.symm hne)]; exact hl, hp, hv⟩
def After (G : Cx) (φ : Phi) (M : Im) (h : AH) (w : World) (a : Act) (S : Nat → Bool) (dst : Option Nat) (K : AV → AH → Prop) (next : Act → World → Prop) : Prop :=
  ∀ v u h' φ' M' w', K v h' → Rep G φ' M' h' w' → Le φ φ' → MLe M M' → VA φ' M' v u → Kept S φ φ' h h' w w' → next (a.put dst u) w'
section
variable {P : Program} {G : Cx} {φ : Phi} {M : Im} {h : AH} {w : World} {f : AF} {n : Nat} {a : Act} {S : Nat → Bool} {K : AV → AH → Prop} {next : Act → World → Prop} {Q : Exit → Act → World → Prop}
theorem After.val {dst : Option Nat} {v : AV} {u : Value} (A : After G φ M h w a S dst K next) (R : Rep G φ M h w) (hk : K v h) (hu : VA φ M v u) : next (a.put dst u) w :=
  A v u h φ M w hk R (Le.refl _) (MLe.refl _) hu (Kept.refl _ _ _ _)
theorem run_guard_int (op : BinOp) (t : TypeId) (x y : Operand) (k k' : IntKind) (p q : Int) : (eqGuard op t x y (.int k p) (.int k' q)).run P w = .ok () w := by
  unfold eqGuard; cases op <;> simp
theorem run_guard_string (op : BinOp) (t : TypeId) (x y : Operand) (p q : ByteArray) : (eqGuard op t x y (.string p) (.string q)).run P w = .ok () w := by
  unfold eqGuard; cases op <;> simp
theorem run_guard_bool (op : BinOp) (t : TypeId) (x y : Operand) (p q : Bool) : (eqGuard op t x y (.bool p) (.bool q)).run P w = .ok () w := by
  unfold eqGuard; cases op <;> simp
theorem run_guard_slice (op : BinOp) (t : TypeId) (x y : Operand) (p q : Option Addr) (a b c d : Nat) : (eqGuard op t x y (.slice p a b) (.slice q c d)).run P w = .ok () w := by
  unfold eqGuard; cases op <;> simp
theorem run_intA {op : BinOp} {k : IntKind} {p q : Int} {v : Value} (t : TypeId) (hv : intA op k p q = some v) : (binOp op t (.int k p) (.int k q)).run P w = .ok v w := by
  cases op <;> simp only [intA] at hv
  case quo =>
    split at hv
    · cases hv
    · rename_i hq; cases hv; simp [binOp, Op.intDiv, hq]
  case rem =>
    split at hv
    · cases hv
    · rename_i hq; cases hv; simp [binOp, Op.intDiv, hq]
  all_goals (cases hv)
  all_goals (simp [binOp, Op.intArith, Op.intBits, Op.intCmp])
theorem run_strA {op : BinOp} {p q : ByteArray} {v : Value} (t : TypeId) (hv : strOpA op p q = some v) : (binOp op t (.string p) (.string q)).run P w = .ok v w := by
  cases op <;> simp only [strOpA] at hv
  case add =>
    split at hv
    · rename_i hle
      cases hv
      simp only [binOp, Op.stringOp]
      rw [if_neg (by simp [IntKind.max, IntKind.signed, IntKind.bits]; omega)]
      rfl
    · cases hv
  all_goals (cases hv)
  all_goals (simp [binOp, Op.stringOp])
theorem run_binA {op : BinOp} {x y v : Value} (t : TypeId) (hv : binA P op t x y = some v) : (binOp op t x y).run P w = .ok v w := by
  unfold binA at hv
  split at hv
  · rename_i k p k' q
    split at hv
    · split at hv
      · cases hv
      · rename_i hq; cases hv; simp [binOp, Op.shift, hq]
    · split at hv
      · cases hv
      · rename_i hq; cases hv; simp [binOp, Op.shift, hq]
    · split at hv
      · rename_i hk; subst hk; exact run_intA t hv
      · cases hv
  · exact run_strA t hv
  · rename_i p q
    split at hv
    · rename_i hb
      have hu : P.underlying t = some .bool := by
        unfold boolA at hb
        split at hb
        · assumption
        · cases hb
      split at hv
      · cases hv; exact run_eql_bool _ _ _ _ hu
      · cases hv; exact run_neq_bool _ _ _ _ hu
      · cases hv
    · cases hv
  · cases hv
theorem run_eqVA {d : Nat} {t : TypeId} {x y : Value} {b : Bool} (hv : eqVA P t x y = some b) : (Op.equalIn (d + 1) t x y).run P w = .ok b w := by
  unfold eqVA at hv
  split at hv
  · split at hv
    · rename_i h
      cases hv
      obtain ⟨h1, rfl⟩ := h
      obtain ⟨k, hk⟩ := Option.isSome_iff_exists.1 h1
      have hu : P.underlying t = some (.int k) := by
        unfold kindA at hk
        split at hk
        · rename_i k' hk'; cases hk; exact hk'
        · cases hk
      exact Go.run_equalIn_int w d t _ _ _ _ hu
    · cases hv
  · split at hv
    · rename_i h
      cases hv
      have hu : P.underlying t = some .string := by
        unfold strA at h
        split at h
        · assumption
        · cases h
      exact Go.run_equalIn_string w d t _ _ hu
    · cases hv
  · split at hv
    · rename_i h
      cases hv
      have hu : P.underlying t = some .bool := by
        unfold boolA at h
        split at h
        · assumption
        · cases h
      exact Go.run_equalIn_bool' w d t _ _ hu
    · cases hv
  · cases hv
theorem run_eqFA {d : Nat} {xs ys : List CV} {us vs : List Value} (hxs : Vs φ M xs us) (hys : Vs φ M ys vs) : ∀ (fs : List Field) (b : Bool), fs.all (fun f => f.name != "_") = true → eqFA P xs ys (fs.map fun f => (f.type, f.offset)) = some b →
    (Op.eqFields (d + 1) us.toArray vs.toArray fs).run P w = .ok b w
  | [], b, _, hv => by simp only [List.map_nil, eqFA, Option.some.injEq] at hv; subst hv; simp [Op.eqFields]
  | f :: fs, b, hn, hv => by
    rw [List.all_cons, Bool.and_eq_true] at hn
    rw [List.map_cons, eqFA] at hv
    split at hv
    · rename_i a c hag hx hy
      obtain ⟨e, he, hv⟩ := Option.bind_eq_some_iff.1 hv
      obtain ⟨r, hr, rfl⟩ := Option.map_eq_some_iff.1 hv
      have ih := run_eqFA (d := d) hxs hys fs r hn.2 hr
      have hn' : f.name ≠ "_" := by simpa using hn.1
      obtain ⟨a', ha1, ha2⟩ := hxs.2 _ _ hx
      obtain ⟨c', hc1, hc2⟩ := hys.2 _ _ hy
      rw [V_c ha2] at ha1
      rw [V_c hc2] at hc1
      have p1 : (part f.type us.toArray f.offset).run P w = .ok a w := by simp [part, run_isAggA hag, ha1]
      have p2 : (part f.type vs.toArray f.offset).run P w = .ok c w := by simp [part, run_isAggA hag, hc1]
      rw [Op.eqFields]
      simp only [if_pos hn', Sem.run_bind, p1, p2, run_eqVA he, Result.andThen_ok]
      cases e
      · simp
      · simpa using ih
    · cases hv
theorem isSl_val (R : Rep G φ M h w) {x : CV} {u : Value} (hx : isSl x = true) (hf : fresh h x = true) (hv : V φ M x u) : ∃ p n c, u = .slice p n c ∧ ∀ b, nilQ x = some b → p.isNone = b := by
  cases x with
  | nl => cases (show V0 M .nl u from hv); exact ⟨_, _, _, rfl, fun b hb => by cases hb; rfl⟩
  | emp => cases (show V0 M .emp u from hv); exact ⟨_, _, _, rfl, fun b hb => by cases hb⟩
  | im es =>
    cases (show V0 M (.im es) u from hv) with
    | im0 a cap => exact ⟨_, _, _, rfl, fun b hb => by cases hb⟩
    | im _ k b o cap g hk hc hm hv => exact ⟨_, _, _, rfl, fun b hb => by simp only [nilQ] at hb; split at hb <;> cases hb; rfl⟩
  | sl l g off len =>
    obtain ⟨h1, p, h2, h3, h4⟩ := hv
    obtain ⟨q, hq⟩ := Option.isSome_iff_exists.1 (show (objR h l g).isSome = true from hf)
    obtain ⟨p', h5, h6, _⟩ := R.readR hq
    rw [h2] at h5
    cases h5
    rcases h4 h6 with ⟨_, _, hz, a, rfl⟩ | ⟨_, rfl⟩
    · exact ⟨_, _, _, rfl, fun b hb => by simp only [nilQ, hz, if_true] at hb; cases hb⟩
    · exact ⟨_, _, _, rfl, fun b hb => by simp only [nilQ] at hb; split at hb <;> cases hb; rfl⟩
  | _ => cases hx
theorem run_nilB {op : BinOp} {t : TypeId} (he : (elemA P t).isSome = true) (p : Option Addr) (n c : Nat) :
    (binOp .eql t (.slice p n c) (.slice none 0 0)).run P w = .ok (.bool p.isNone) w ∧ (binOp .neq t (.slice p n c) (.slice none 0 0)).run P w = .ok (.bool (!p.isNone)) w := by
  obtain ⟨e, he⟩ := Option.isSome_iff_exists.1 he
  have hu : P.underlying t = some (.slice e) := by
    unfold elemA at he
    split at he
    · rename_i e' he'; cases he; exact he'
    · cases he
  refine ⟨?_, ?_⟩
  · simp only [binOp]
    simp [Op.equal, Op.maxDepth, Lib.run_equalIn_slice_nil w 9999 t e p n c 0 0 hu]
  · simp only [binOp]
    simp [Op.equal, Op.maxDepth, Lib.run_equalIn_slice_nil w 9999 t e p n c 0 0 hu]
theorem zeroA_spec {t : TypeId} {z : List CV} (hz : zeroA P t = some z) : ∃ i v, P.info? t = some i ∧ i.zero = some v ∧ z = v.cells.toList.map cvOf ∧ ∀ u ∈ v.cells.toList, u.oneCell' = true := by
  unfold zeroA at hz
  obtain ⟨v, h1, h2⟩ := Option.bind_eq_some_iff.1 hz
  obtain ⟨i, hi, hv⟩ := Option.bind_eq_some_iff.1 h1
  split at h2
  · rename_i hall
    cases h2
    exact ⟨i, v, hi, hv, rfl, fun u hu => (List.all_eq_true.1 hall) u hu⟩
  · cases h2
theorem elemA_spec {t e : TypeId} (he : elemA P t = some e) : P.underlying t = some (.slice e) := by
  unfold elemA at he
  split at he
  · rename_i e' he'; cases he; exact he'
  · cases he
theorem kindA_spec {t : TypeId} {k : IntKind} (hk : kindA P t = some k) : P.underlying t = some (.int k) := by
  unfold kindA at hk
  split at hk
  · rename_i k' hk'; cases hk; exact hk'
  · cases hk
theorem strA_spec {t : TypeId} (hs : strA P t = true) : P.underlying t = some .string := by
  unfold strA at hs
  split at hs
  · assumption
  · cases hs
theorem Kept.alloc (R : Rep G φ M h w) {S : Nat → Bool} (q : Pl) (o : AO) (ob : Obj) : Kept S φ (phiAt φ h.length q) h (h ++ [o]) w (w.alloc ob) := fun l p ho _ => ⟨Below.heap_alloc w _ _ (R.own_blk ho), ho.app q o⟩
theorem new_box (R : Rep G φ M h w) (t : TypeId) (cs : List CV) (us : List Value) (hus : Vs φ M cs us) (h0 : 0 < cs.length) :
    Rep G (phiAt φ h.length ⟨w.heap.size, cs.length, 1, 0, false⟩) M (h ++ [.own 0 t cs.length (some 1) [cs]]) (w.alloc (.cells us.toArray t (0, 0))) ∧ Le φ (phiAt φ h.length ⟨w.heap.size, cs.length, 1, 0, false⟩) :=
  R.alloc t cs.length 1 (some 1) [cs] us.toArray (0, 0) h0 (by simp [hus.1]) (okFr_mem (Vs_one hus)) (by simp) (fun c hc => by cases hc; rfl) (fun e he => by rw [List.mem_singleton.1 he]) (fun i e j x hi hj => by
    rcases i with _ | i
    · simp at hi
      subst hi
      obtain ⟨u, h1, h2⟩ := hus.2 j x hj
      exact ⟨u, by simpa using h1, h2⟩
    · simp at hi)
theorem V_new_pt {φ : Phi} {M : Im} (n : Nat) (p : Pl) (hg : p.g = 0) (hv : p.vir = false) : V (phiAt φ n p) M (.pt n 0 0 0) (.pointer (some ⟨p.b, 0, none⟩)) :=
  ⟨rfl, p, phiAt_at φ n p, Nat.zero_le _, fun _ => ⟨hv, by simp⟩⟩
set_option maxHeartbeats 2000000 in
theorem aop1_sound (o : Oper) (R : Rep G φ M h w) (F : FOk n φ M f a) (hb : ∀ t, Operand.tmp t ∈ o.op.operands → t < n) (H : aop1 P o.op f h K) (hS : ∀ t x y l g i off, o.op = .store t x y → ev f x = .one (.pt l g i off) → ∀ j, S j = false → j ≠ l) (A : After G φ M h w a S o.dst K next) : o.wp P a w next Q := by
  have E : ∀ x, x ∈ o.op.operands → VA φ M (ev f x) (a.eval x) := fun x hx => ev_V F (fun t ht => hb t (ht ▸ hx))
  clear hb F
  obtain ⟨dst, op, ty, pos, aft, guard⟩ := o
  simp only at *
  cases op <;> simp only [Op.operands] at E <;> simp only [aop1] at H <;> try exact H.elim
  case move x =>
    have e := E x (by simp)
    simp only [Oper.wp, execOp, Sem.run_pure, Oper.upon]
    exact A.val R H e
  case assign x =>
    have e := E x (by simp)
    simp only [Oper.wp, execOp, Sem.run_pure, Oper.upon]
    exact A.val R H e
  case pick c x y =>
    split at H
    · rename_i t hc
      have ec := E c (by simp)
      have ex := E x (by simp)
      have ey := E y (by simp)
      rw [hc] at ec
      have ec := VA_c ec
      simp only [Oper.wp, execOp, ec, asBool, Sem.run_bind, Sem.run_pure, Result.andThen_ok, Oper.upon]
      cases t
      · exact A.val R H ey
      · exact A.val R H ex
    · exact H.elim
  case alloc t =>
    obtain ⟨cs, hz, H⟩ := H.elim
    obtain ⟨m, hm, rfl, h0, H⟩ := H.elim
    obtain ⟨i, z, hi, hiz, rfl, hz1⟩ := zeroA_spec hz
    have R' := new_box R t (z.cells.toList.map cvOf) z.cells.toList (Vs_cvOf _ hz1) h0
    simp only [Oper.wp, execOp, Instr.alloc, zeroValue, typeInfo, Sem.run_bind, run_program, Result.andThen_ok, hi, Sem.run_pure, hiz, newVar, newRow, run_newObj_alloc, Oper.upon]
    refine A _ _ _ _ _ _ H (by simpa using R'.1) R'.2 (MLe.refl _) ?_ (Kept.alloc R _ _ _)
    exact V_new_pt (M := M) _ _ rfl rfl
  case box t x =>
    obtain ⟨cs, hx, h0, H⟩ := H.elim
    have e := E x (by simp)
    obtain ⟨us, hc, hus⟩ := cellsA_V hx e
    have R' := new_box R t cs us hus h0
    simp only [Oper.wp, execOp, Instr.box, Sem.run_bind, Sem.run_pure, Result.andThen_ok, newVar, newRow, run_newObj_alloc, Oper.upon, hc]
    refine A _ _ _ _ _ _ H R'.1 R'.2 (MLe.refl _) ?_ (Kept.alloc R _ _ _)
    exact V_new_pt (M := M) _ _ rfl rfl
  case load t x =>
    have e := E x (by simp)
    split at H
    · rename_i l g i off hx
      obtain ⟨q, hq, H⟩ := H.elim
      obtain ⟨el, hel, H⟩ := H.elim
      obtain ⟨v, hv, H⟩ := H.elim
      rw [hx] at e
      obtain ⟨p, hp, hg, hk, hvir, eu⟩ := pt_at R hq e
      obtain ⟨p', hp', _, _, _, _, _, hcc⟩ := R.readR hq
      rw [hp] at hp'
      cases hp'
      have hc := (hcc i el hel).2
      obtain ⟨C, hC⟩ := choose_cells hc
      obtain ⟨u, hu, hr⟩ := run_loadVarA (P := P) (b := p.b) (o := i * q.2.1) hv C (fun j y hj => (hC j y hj).2)
      have hr := hr w (fun j y hj => (hC j y hj).1)
      rw [← hk] at hr
      simp only [Oper.wp, execOp, Instr.loadAt, Instr.sureAddr, eu, Sem.run_bind, Sem.run_pure, Result.andThen_ok, hr, Oper.upon]
      exact A.val R H hu
    · rename_i el off hx
      obtain ⟨v, hv, H⟩ := H.elim
      rw [hx] at e
      generalize hax : a.eval x = ux at e
      cases (show V0 M (.pel el off) ux from e) with
      | pel _ _ b o C hm hV =>
        have eu := hax.symm
        obtain ⟨u, hu, hr⟩ := run_loadVarA (P := P) (φ := φ) (M := M) (b := b) (o := o) hv C (fun j y hj => V0_V (hV j y hj))
        have hr := hr w (fun j y hj => (R.imm _ _ (hm j y hj)).1)
        simp only [Oper.wp, execOp, Instr.loadAt, Instr.sureAddr, ← eu, Sem.run_bind, Sem.run_pure, Result.andThen_ok, hr, Oper.upon]
        exact A.val R H hu
    · exact H.elim
  case store t x y =>
    have e := E x (by simp)
    have ey := E y (by simp)
    split at H
    · rename_i l g i off hx
      obtain ⟨q, hq, H⟩ := H.elim
      obtain ⟨el, hel, H⟩ := H.elim
      obtain ⟨vs, hv, H⟩ := H.elim
      obtain ⟨hs, hfit, H⟩ := H
      rw [hx] at e
      obtain ⟨p, hp, hg, hk, hvir, eu⟩ := pt_at R (objA_R hq) e
      simp only at hk
      obtain ⟨us, hc, hus⟩ := cellsA_V hv ey
      have hne : q.2.2.2 ≠ [] := by intro e; rw [e] at hel; simp at hel
      obtain ⟨p', h1, h2, h3, h4, h5, h6, h7, h8, C, fr, h9, h10, h11, h12⟩ := R.own (objA_spec hq) hne
      rw [hp] at h1
      cases h1
      have hil := (List.getElem?_eq_some_iff.1 hel).1
      have hek : el.length = q.2.1 := h7 el (List.mem_of_getElem? hel)
      have hul := hus.1
      have hst := run_storeCells_cells (P := P) p.b (i * q.2.1 + off) us 0 w (fun j hj => by
          have hin : i * q.2.1 + off + (0 + j) < C.size := by
            have : (i + 1) * q.2.1 ≤ p.cap * q.2.1 := Nat.mul_le_mul_right _ (by omega)
            rw [h10, h3]
            rw [Nat.succ_mul] at this
            omega
          rw [Nat.zero_add] at hin
          rw [Nat.add_zero, Joins.cell_of_block h9, Array.getElem?_eq_getElem hin]; rfl) (fun j hj => by
          have hin : i * q.2.1 + off + j < C.size := by
            have : (i + 1) * q.2.1 ≤ p.cap * q.2.1 := Nat.mul_le_mul_right _ (by omega)
            rw [h10, h3]
            rw [Nat.succ_mul] at this
            omega
          rw [Nat.add_zero]
          exact okFr_free h9 h11 hin) (fun v hv => by
          obtain ⟨j, hj⟩ := List.mem_iff_getElem?.1 hv
          have hjl : j < vs.length := by rw [← hul]; exact (List.getElem?_eq_some_iff.1 hj).1
          obtain ⟨u, h13, h14⟩ := hus.2 j _ (List.getElem?_eq_getElem hjl)
          rw [hj] at h13
          cases h13
          exact h14.one)
      have R' := R.setCells (objA_spec hq) hel hp off vs us hus hfit
      rw [hk] at eu
      simp only [Oper.wp, execOp, Instr.storeAt, Instr.sureAddr, eu, Sem.run_bind, Sem.run_pure, Result.andThen_ok, storeVar, run_sizeA hs, hc]
      rw [if_neg (by simp [hul]), hst]
      simp only [Result.andThen_ok, Nat.add_zero, Oper.upon]
      refine A undefA _ _ _ _ _ H R' (Le.refl _) (MLe.refl _) rfl (fun l' p' ho' hs' => ?_)
      obtain ⟨_, _, _, _, s5⟩ := setCells_other p.b us (i * q.2.1 + off) w
      have hne := hS t x y l g i off rfl hx l' hs'
      exact ⟨s5 _ (R.inj l' l p' p ho' ⟨g, _, _, _, _, objA_spec hq, hp, hvir⟩ hne), ho'.set0 hne _⟩
    · exact H.elim
  case fieldAddr s x i =>
    have e := E x (by simp)
    have key : ∀ (b o : Nat) (q : Nat × TypeId), offA P s i = some q → a.eval x = .pointer (some ⟨b, o, none⟩) → (∀ (u : Value), u = .pointer (some ⟨b, o + q.1, none⟩) → next (a.put dst u) w) → Oper.wp P ⟨dst, .fieldAddr s x i, ty, pos, aft, guard⟩ a w next Q := by
      intro b o q hq eu hn
      unfold offA at hq
      split at hq
      · rename_i fs hfs
        obtain ⟨fd, hfd, hq⟩ := Option.bind_eq_some_iff.1 hq
        split at hq
        · cases hq
        · rename_i hne
          cases hq
          cases hi : P.info? fd.type with
          | none => simp [hi] at hne
          | some inf =>
            simp [hi] at hne
            have := hn _ rfl
            simp only [Oper.wp, execOp, Instr.fieldAt, Instr.sureAddr, eu, Sem.run_bind, Sem.run_pure, Result.andThen_ok, underlying, run_program, hfs, hfd, fieldPlace, sizeOf, typeInfo, hi, hne, if_false, add_lit, Nat.add_assoc, Oper.upon]
            simpa [hne, add_lit, Nat.add_assoc, Oper.upon] using this
      · cases hq
    split at H
    · rename_i l g j off hx
      obtain ⟨q, hq, ho, H⟩ := H.elim
      obtain ⟨qo, hqo⟩ := Option.isSome_iff_exists.1 ho
      rw [hx] at e
      obtain ⟨p, hp, hg, hk, hvir, eu⟩ := pt_at R hqo e
      refine key _ _ _ hq eu (fun u hu => A.val R H ?_)
      exact ⟨by rw [hu]; rfl, p, hp, by omega, fun _ => ⟨hvir, by rw [hu, Nat.add_assoc]⟩⟩
    · rename_i el off hx
      obtain ⟨q, hq, H⟩ := H.elim
      rw [hx] at e
      generalize hax : a.eval x = ux at e
      cases (show V0 M (.pel el off) ux from e) with
      | pel _ _ b o C hm hV =>
        have eu := hax.symm
        refine key _ _ _ hq eu.symm (fun u hu => A.val R H ?_)
        rw [hu, Nat.add_assoc]
        exact V0.pel el (off + q.1) b o C hm hV
    · exact H.elim
  case field s x i =>
    have e := E x (by simp)
    split at H
    · rename_i cs hx
      obtain ⟨q, hq, H⟩ := H.elim
      rw [hx] at e
      obtain ⟨us, eu, hus⟩ := e
      unfold offA at hq
      split at hq
      · rename_i fs hfs
        obtain ⟨fd, hfd, hq⟩ := Option.bind_eq_some_iff.1 hq
        split at hq
        · cases hq
        · cases hq
          obtain ⟨v, hv, H⟩ := H.elim
          have hp : ∃ u, (part fd.type us.toArray fd.offset).run P w = .ok u w ∧ VA φ M v u := by
            unfold partA at hv
            split at hv
            · rename_i hag
              split at hv
              · rename_i m hm
                split at hv
                · rename_i hle
                  cases hv
                  refine ⟨.agg ((us.drop fd.offset).take m).toArray, by simp [part, run_isAggA hag, run_sizeA hm, List.map_take, List.map_drop], _, rfl, by have := hus.1; simp; omega, fun j x hj => ?_⟩
                  rw [List.getElem?_take] at hj
                  split at hj
                  · rename_i hjm
                    rw [List.getElem?_drop] at hj
                    obtain ⟨u, h1, h2⟩ := hus.2 _ x hj
                    exact ⟨u, by rw [List.getElem?_take, if_pos hjm, List.getElem?_drop]; exact h1, h2⟩
                  · cases hj
                · cases hv
              · cases hv
            · rename_i hag
              obtain ⟨y, hy, rfl⟩ := Option.map_eq_some_iff.1 hv
              obtain ⟨u, h1, h2⟩ := hus.2 _ y hy
              exact ⟨u, by simp [part, run_isAggA hag, h1], V_VA h2⟩
            · cases hv
          obtain ⟨u, hp, hu⟩ := hp
          simp only [Oper.wp, execOp, Instr.field, asAgg, eu, Sem.run_bind, Sem.run_pure, Result.andThen_ok, underlying, run_program, hfs, hfd, hp, Oper.upon]
          exact A.val R H hu
      · cases hq
    · exact H.elim
  case indexAddr t x ix =>
    have e := E x (by simp)
    have ei := E ix (by simp)
    obtain ⟨el, hel, H⟩ := H.elim
    obtain ⟨m, hm, H⟩ := H.elim
    have hu := elemA_spec hel
    have key : ∀ (b o len cap : Nat) (kk : IntKind) (i : Int), a.eval x = .slice (some ⟨b, o, none⟩) len cap → a.eval ix = .int kk i → 0 ≤ i → i < len → (∀ (u : Value), u = .pointer (some ⟨b, o + i.toNat * m, none⟩) → next (a.put dst u) w) → Oper.wp P ⟨dst, .indexAddr t x ix, ty, pos, aft, guard⟩ a w next Q := by
      intro b o len cap kk i eu eu2 h0 h1 hn
      have := hn _ rfl
      simp only [Oper.wp, execOp, Instr.indexAt, asIntOf, eu, eu2, Sem.run_bind, Sem.run_pure, Result.andThen_ok, underlying, run_program, hu]
      rw [if_pos ⟨h0, h1⟩]
      simp only [Sem.run_bind, Sem.run_pure, Result.andThen_ok, run_sizeA hm, add_lit, Nat.add_assoc, Oper.upon]
      simpa [hu, run_sizeA hm, add_lit, Nat.add_assoc, Oper.upon] using this
    split at H
    · rename_i l g off len kk i hx hix
      obtain ⟨q, hq, hkm, h0, h1, H⟩ := H.elim
      rw [hx] at e
      rw [hix] at ei
      obtain ⟨g1, p, g2, g3, g4⟩ := e
      obtain ⟨p', h5, h6, h7, _⟩ := R.readR hq
      rw [g2] at h5
      cases h5
      rcases g4 h6 with ⟨_, _, hl0, _⟩ | ⟨hvir, eu⟩
      · omega
      · refine key _ _ _ _ _ _ eu (VA_c ei) h0 h1 (fun u hu => A.val R H ?_)
        refine ⟨by rw [hu]; rfl, p, g2, by omega, fun _ => ⟨hvir, ?_⟩⟩
        rw [hu, h7, hkm, Nat.add_zero, Nat.add_mul]
    · rename_i es kk i hx hix
      obtain ⟨h0, H⟩ := H
      obtain ⟨ee, hee, hkn, H2⟩ := H.elim
      clear H
      rw [hx] at e
      rw [hix] at ei
      have hil := (List.getElem?_eq_some_iff.1 hee).1
      generalize hax : a.eval x = ux at e
      cases (show V0 M (.im es) ux from e) with
      | im0 _ _ => simp at hee
      | im _ k b o cap C hk hc hm' hV =>
        have hkk : k = m := by rw [← hkn]; exact (hk ee (List.mem_of_getElem? hee)).symm
        subst hkk
        refine key _ _ _ _ _ _ hax (VA_c ei) h0 (by omega) (fun u hu => A.val R H2 ?_)
        rw [hu]
        have := V0.pel (M := M) ee 0 b (o + i.toNat * k) (C i.toNat) (fun j x hj => by rw [Nat.add_assoc]; exact hm' i.toNat ee j x hee hj) (fun j x hj => hV i.toNat ee j x hee hj)
        exact this
    · exact H.elim
  case index t x ix =>
    have e := E x (by simp)
    have ei := E ix (by simp)
    obtain ⟨hs, H⟩ := H
    have hu := strA_spec hs
    split at H
    · rename_i s kk i hx hix
      obtain ⟨h0, hi, H⟩ := H
      rw [hx] at e
      rw [hix] at ei
      have e := VA_c e
      have ei := VA_c ei
      have hr := run_index_string (P := P) (w := w) t s kk i hu
      rw [dif_pos ⟨h0, by omega⟩] at hr
      simp only [Oper.wp, execOp, e, ei, Sem.run_bind, hr, Sem.run_pure, Result.andThen_ok, Oper.upon]
      exact A.val R H rfl
    · exact H.elim
  case binOp op t x y ty2 =>
    have e := E x (by simp)
    have ey := E y (by simp)
    split at H
    · rename_i p q hx hy
      obtain ⟨v, hv, H⟩ := H.elim
      rw [hx] at e
      rw [hy] at ey
      have e := VA_c e
      have ey := VA_c ey
      have hg : (eqGuard op t x y p q).run P w = .ok () w := by
        unfold binA at hv
        split at hv
        · exact run_guard_int _ _ _ _ _ _ _ _
        · exact run_guard_string _ _ _ _ _ _
        · exact run_guard_bool _ _ _ _ _ _
        · cases hv
      simp only [Oper.wp, execOp, e, ey, Sem.run_bind, hg, run_binA t hv, Sem.run_pure, Result.andThen_ok, Oper.upon]
      exact A.val R H rfl
    · rename_i _ x' hx hy
      obtain ⟨he, hsl, hfr, H⟩ := H
      rw [hx] at e
      rw [hy] at ey
      generalize hax : a.eval x = ux at e
      generalize hay : a.eval y = uy at ey
      cases (show V0 M .nl uy from ey)
      have e : V φ M x' ux := by
        rcases VA_V e with e | ⟨v, rfl, _⟩
        · exact e
        · cases hsl
      obtain ⟨p, n1, c1, rfl, hnq⟩ := isSl_val R hsl hfr e
      obtain ⟨r1, r2⟩ := run_nilB (P := P) (w := w) (op := op) he p n1 c1
      have fin1 : (∀ b, nilQ x' = some b → K (.one (.c (.bool b))) h) → (nilQ x' = none → ∀ b, K (.one (.c (.bool b))) h) → op = .eql → Oper.wp P ⟨dst, .binOp op t x y ty2, ty, pos, aft, guard⟩ a w next Q := by
        intro k1 k2 hop
        subst hop
        simp only [Oper.wp, execOp, hax, hay, Sem.run_bind, run_guard_slice, r1, Sem.run_pure, Result.andThen_ok, Oper.upon]
        refine A.val R (v := .one (.c (.bool p.isNone))) ?_ rfl
        cases hq : nilQ x' with
        | none => exact k2 hq _
        | some b => rw [hnq b hq]; exact k1 b hq
      have fin2 : (∀ b, nilQ x' = some b → K (.one (.c (.bool (!b)))) h) → (nilQ x' = none → ∀ b, K (.one (.c (.bool b))) h) → op = .neq → Oper.wp P ⟨dst, .binOp op t x y ty2, ty, pos, aft, guard⟩ a w next Q := by
        intro k1 k2 hop
        subst hop
        simp only [Oper.wp, execOp, hax, hay, Sem.run_bind, run_guard_slice, r2, Sem.run_pure, Result.andThen_ok, Oper.upon]
        refine A.val R (v := .one (.c (.bool (!p.isNone)))) ?_ rfl
        cases hq : nilQ x' with
        | none => exact k2 hq _
        | some b => rw [hnq b hq]; exact k1 b hq
      split at H
      · rename_i b hq; exact fin1 (fun b' hb' => by rw [hq] at hb'; cases hb'; exact H) (fun hn => by rw [hq] at hn; cases hn) rfl
      · rename_i b hq; exact fin2 (fun b' hb' => by rw [hq] at hb'; cases hb'; exact H) (fun hn => by rw [hq] at hn; cases hn) rfl
      · rename_i hq; exact fin1 (fun b' hb' => by rw [hq] at hb'; cases hb') (fun _ => H) rfl
      · rename_i hq; exact fin2 (fun b' hb' => by rw [hq] at hb'; cases hb') (fun _ => H) rfl
      · exact H.elim
    · rename_i xs ys hx hy
      obtain ⟨fs, ht, H1⟩ := H.elim
      obtain ⟨b, hv, H2⟩ := H1.elim
      clear H H1
      rw [hx] at e
      rw [hy] at ey
      obtain ⟨us, e, hus⟩ := e
      obtain ⟨vs, ey, hvs⟩ := ey
      unfold eqTA at ht
      split at ht
      · rename_i fs0 hu
        split at ht
        · rename_i hc
          cases ht
          have hf : P.fieldsOf t = fs0 := by simp [Program.fieldsOf, hu]
          have hq := run_eqFA (P := P) (w := w) (d := 9998) hus hvs fs0.toList b hc.2.2 hv
          have hq' : (Op.equalIn 10000 t (.agg us.toArray) (.agg vs.toArray)).run P w = .ok b w := by
            rw [Go.run_equalIn_struct (P := P) w 9999 t _ _ (by rw [hf]; exact hu) hc.1, hf]
            exact hq
          cases op <;> simp only at H2
          · simp only [Oper.wp, execOp, e, ey, Sem.run_bind, Go.run_eqGuard_agg (P := P) w _ t x y _ _ hc.2.1, Go.run_eql_struct, hq', Result.andThen_ok, Sem.run_pure, Oper.upon]
            exact A.val R H2 rfl
          · simp only [Oper.wp, execOp, e, ey, Sem.run_bind, Go.run_eqGuard_agg (P := P) w _ t x y _ _ hc.2.1, Go.run_neq_struct, hq', Result.andThen_ok, Sem.run_pure, Oper.upon]
            exact A.val R H2 rfl
        · cases ht
      · cases ht
    · exact H.elim
  case unOp op t x =>
    have e := E x (by simp)
    split at H
    · rename_i p hx
      obtain ⟨v, hv, H⟩ := H.elim
      rw [hx] at e
      have e := VA_c e
      have hr : (Op.unary op p).run P w = .ok v w := by
        unfold unA at hv
        split at hv <;> cases hv <;> simp [Op.unary, Op.intArith]
      simp only [Oper.wp, execOp, e, Sem.run_bind, hr, Sem.run_pure, Result.andThen_ok, Oper.upon]
      exact A.val R H rfl
    · exact H.elim
  case extract x i =>
    have e := E x (by simp)
    split at H
    · rename_i xs hx
      obtain ⟨v, hv, H⟩ := H.elim
      rw [hx] at e
      obtain ⟨us, eu, h1, h2⟩ := e
      obtain ⟨u, h3, h4⟩ := h2 i v hv
      simp only [Oper.wp, execOp, Instr.extract, eu, Sem.run_bind, List.getElem?_toArray, h3, Sem.run_pure, Result.andThen_ok, Oper.upon]
      exact A.val R H (VA1_VA h4)
    · exact H.elim
  case nilCheck x =>
    have e := E x (by simp)
    split at H
    · rename_i l g i off hx
      obtain ⟨ho, H⟩ := H
      obtain ⟨qo, hqo⟩ := Option.isSome_iff_exists.1 ho
      rw [hx] at e
      obtain ⟨p, hp, hg, hk, hvir, eu⟩ := pt_at R hqo e
      have e2 := e
      rw [eu] at e2
      simp only [Oper.wp, execOp, eu, Sem.run_pure, Oper.upon]
      exact A.val R H e2
    · rename_i el off hx
      rw [hx] at e
      generalize hax : a.eval x = ux at e
      cases (show V0 M (.pel el off) ux from e) with
      | pel _ _ b o C hm hV =>
        simp only [Oper.wp, execOp, hax, Sem.run_pure, Oper.upon]
        exact A.val R H e
    · exact H.elim
  case convert src dst x =>
    have e := E x (by simp)
    split at H
    · rename_i k kk m hk hx
      obtain ⟨hsrc, H⟩ := H
      rw [hx] at e
      have e := VA_c e
      have hu := kindA_spec hk
      have hr : (convert src dst (.int kk m)).run P w = .ok (.int k (k.wrap m)) w := by
        obtain ⟨d, hd⟩ := Option.isSome_iff_exists.1 hsrc
        simp [convert, run_underlying hd, run_underlying hu, Conv.intToInt]
      simp only [Oper.wp, execOp, e, Sem.run_bind, hr, Sem.run_pure, Result.andThen_ok, Oper.upon]
      exact A.val R H rfl
    · exact H.elim
end
end Go.BL
end
section
namespace Go.BL
open Go.RowKit
set_option linter.unusedVariables false
set_option linter.unusedSimpArgs false
def hasBody (P : Program) (g : Nat) : Bool := match P.funcs[g]? with | some fn => fn.body.isSome && fn.name != "runtime.NumGoroutine" | none => false
def ACalls (P : Program) (g : Nat) (args : List AV) (h : AH) (K : AV → AH → Prop) : Prop := hasBody P g = true ∧ ACall P g args h K
theorem ACalls.mono {P : Program} {g : Nat} {args : List AV} {h : AH} {K K' : AV → AH → Prop} (H : ACalls P g args h K) (hk : ∀ r h', K r h' → K' r h') : ACalls P g args h K' := ⟨H.1, H.2.mono hk⟩
def fillA (place : Nat → Option (Nat × Nat)) (cs : List CV) : List (Nat × List CV) → Option (List CV)
  | [] => some cs
  | (i, v) :: rest => match place i with
    | none => none
    | some (off, size) => if v.length = size ∧ off + size ≤ cs.length then fillA place (cset cs off v) rest else none
def fillE (k : Nat) (es : List (List CV)) : List (Nat × List CV) → Option (List (List CV))
  | [] => some es
  | (i, v) :: rest => if v.length = k ∧ i < es.length then fillE k (es.set i v) rest else none
def partsA (f : AF) : List (Nat × Operand) → Option (List (Nat × List CV))
  | [] => some []
  | (i, x) :: r => match cellsA (ev f x), partsA f r with | some cs, some q => some ((i, cs) :: q) | _, _ => none
def bytesE (s : ByteArray) : List (List CV) := s.data.toList.map fun b => [.c (.int .u8 b.toNat)]
def byteOf : List CV → Option Int
  | [.c (.int .u8 x)] => some x
  | _ => none
def bytesOf : List (List CV) → Option (List Int)
  | [] => some []
  | e :: r => match byteOf e, bytesOf r with | some x, some xs => some (x :: xs) | _, _ => none
def strOf (xs : List Int) : ByteArray := ⟨(xs.map fun n => UInt8.ofNat n.toNat).toArray⟩
def ksB (k : Nat) (es : List (List CV)) : Bool := es.all fun e => e.length == k
def rowA (h : AH) (k : Nat) : AV → Option (List (List CV))
  | .one .nl => some []
  | .one .emp => some []
  | .one (.im es) => if ksB k es = true then some es else none
  | .one (.sl l g off len) => (objR h l g).bind fun q => if q.2.1 = k ∧ off + len ≤ q.2.2.length then some ((q.2.2.drop off).take len) else none
  | .one (.c (.string s)) => if k = 1 then some (bytesE s) else none
  | _ => none
def srcA (P : Program) (t2 : TypeId) (h : AH) (k by_ : Nat) (z : List CV) (x : AV) : Option (List (List CV)) :=
  if ((elemA P t2).isSome || strA P t2) = true then rowA h k x
  else if (kindA P t2).isSome = true then (match x with
    | .one (.c (.int _ n)) => if 0 ≤ n ∧ n ≤ 9223372036854775807 ∧ n.toNat * by_ ≤ 281474976710656 then some (List.replicate n.toNat z) else none
    | _ => none)
  else none
def boundA (len : Nat) : Option AV → Option Nat
  | none => some len
  | some (.one (.c (.int _ i))) => if 0 ≤ i then some i.toNat else none
  | _ => none
def appA (e k by_ : Nat) (h : AH) (s : AV) (news : List (List CV)) (K : AV → AH → Prop) : Prop :=
  match s with
  | .one .nl => news.length * by_ ≤ 140737488355328 ∧ K (.one (.sl h.length 0 0 news.length)) (h ++ [.own 0 e k none news])
  | .one .emp => news.length * by_ ≤ 140737488355328 ∧ K (.one (.sl h.length 0 0 news.length)) (h ++ [.own 0 e k none news])
  | .one (.im es) => news = [] ∧ K s h
  | .one (.sl l g off len) => On (objA h l g) fun q => q.1 = e ∧ q.2.1 = k ∧ ((off + len + news.length ≤ q.2.2.2.length ∧ K (.one (.sl l g off (len + news.length))) (h.set l (.own g e k q.2.2.1 (cset q.2.2.2 (off + len) news)))) ∨
      (off = 0 ∧ len ≤ q.2.2.2.length ∧ (len + news.length) * by_ ≤ 140737488355328 ∧ K (.one (.sl l (g + 1) 0 (len + news.length))) (h.set l (.own (g + 1) e k none (q.2.2.2.take len ++ news)))) ∨
      (off = 0 ∧ len ≤ q.2.2.2.length ∧ (len + news.length) * by_ ≤ 140737488355328 ∧ (∃ c, q.2.2.1 = some c ∧ c < len + news.length) ∧ K (.one (.sl h.length 0 0 (len + news.length))) (h ++ [.own 0 e k none (q.2.2.2.take len ++ news)])))
  | _ => False
def copA (h : AH) (s : AV) (news : List (List CV)) (k : Nat) (K : AV → AH → Prop) : Prop :=
  match s with
  | .one .nl => K (.one (.c (.int .i64 0))) h
  | .one .emp => K (.one (.c (.int .i64 0))) h
  | .one (.sl l g off len) => On (objA h l g) fun q => q.2.1 = k ∧ off + len ≤ q.2.2.2.length ∧ K (.one (.c (.int .i64 ((min news.length len : Nat) : Int)))) (h.set l (.own g q.1 k q.2.2.1 (cset q.2.2.2 off (news.take (min news.length len)))))
  | _ => False
def clrA (h : AH) (s : AV) (z : List CV) (K : AV → AH → Prop) : Prop :=
  match s with
  | .one .nl => K (.tup []) h
  | .one .emp => K (.tup []) h
  | .one (.im []) => K (.tup []) h
  | .one (.sl l g off len) => On (objA h l g) fun q => q.2.1 = z.length ∧ off + len ≤ q.2.2.2.length ∧ K (.tup []) (h.set l (.own g q.1 q.2.1 q.2.2.1 (cset q.2.2.2 off (List.replicate len z))))
  | _ => False
def spareE (k c : Nat) (es : List (List CV)) : List (List CV) := es ++ List.replicate (c - es.length) (List.replicate k .junk)
def capG0 (h : AH) (s : AV) (K : AV → AH → Prop) : Prop :=
  match s with
  | .one .nl => K (.one (.c (.int .i64 0))) h
  | .one .emp => K (.one (.c (.int .i64 0))) h
  | .one (.im es) => ∀ c : Nat, es.length ≤ c → K (.one (.c (.int .i64 c))) h
  | .one (.sl l g off len) => On (objA h l g) fun q => ∀ c : Nat, q.2.2.2.length ≤ c → (∀ c', q.2.2.1 = some c' → c = c') → (K (.one (.c (.int .i64 ((c - off : Nat) : Int)))) (h.set l (.own g q.1 q.2.1 (some c) q.2.2.2)) ∨ K (.one (.c (.int .i64 ((c - off : Nat) : Int)))) (h.set l (.own g q.1 q.2.1 (some c) (spareE q.2.1 c q.2.2.2))))
  | _ => False
def clz : CV → CV
  | .pt .. => .junk
  | .sl .. => .junk
  | .clo g caps => if caps.isEmpty = true then .clo g [] else .junk
  | x => x
def imV (h : AH) : CV → CV
  | .nl => .im []
  | .emp => .im []
  | .sl l g off len => match objR h l g with
    | some q => if off + len ≤ q.2.2.length then .im (((q.2.2.drop off).take len).map (·.map clz)) else .junk
    | none => .junk
  | x => clz x
def imA (h : AH) : AV → AV
  | .one (.c v) => .one (.c v)
  | .one x => .one (imV h x)
  | .agg xs => .agg (xs.map (imV h))
  | _ => .any
def locV : CV → List Nat
  | .sl l _ _ _ => [l]
  | _ => []
def locA : AV → List Nat
  | .one x => locV x
  | .agg xs => xs.flatMap locV
  | _ => []
def plainC : CV → Bool
  | .c _ => true
  | _ => false
def plainA1 : AV → Bool
  | .one x => plainC x
  | .agg xs => xs.all plainC
  | _ => false
def plainA : AV → Bool
  | .tup xs => xs.all plainA1
  | x => plainA1 x
def frO : AO → AO
  | .own g t k cap es => .ro g t k (es.map (·.map clz))
  | o => o
def frH : List Nat → AH → AH
  | [], h => h
  | l :: r, h => frH r (match h[l]? with | some o => h.set l (frO o) | none => h)

def freeC : CV → Bool
  | .im _ => false
  | .pel .. => false
  | _ => true
def freeA1 : AV → Bool
  | .one x => freeC x
  | .agg xs => xs.all freeC
  | _ => false
def freeA : AV → Bool
  | .tup xs => xs.all freeA1
  | x => freeA1 x
def freeE (es : List (List CV)) : Bool := es.all fun e => e.all freeC
def freeO : AO → Bool
  | .own _ _ _ _ es => freeE es
  | .dead => true
  | .ro .. => false
def calK (args : List AV) (h : AH) (K : AV → AH → Prop) (r : AV) (h' : AH) : Prop := if freeA r = true ∧ h'.all freeO = true then K (shA h.length r) (h ++ h'.map (shO h.length)) else K (shA h.length r) (frH (args.flatMap locA) h ++ h'.map (shO h.length))
def ExtA (P : Program) (g : Nat) (args : List AV) (h : AH) (K : AV → AH → Prop) : Prop :=
  ∀ (G : Cx) (φ : Phi) (M : Im) (w : World) (vs : List Value), Rep G φ M h w → VAs φ M args vs → ∃ v r, (callFunc g vs.toArray).run P w = .ok (.value v) w ∧ VA φ M r v ∧ K r h
def FCalls (P : Program) (g : Nat) (args : List AV) (h : AH) (ls : List Nat) (K : AV → AH → Prop) : Prop := hasBody P g = true ∧
  ∀ φ M w vs, Rep ⟨w, owned φ h, M⟩ φ M h w → VAs φ M args vs →
    Calls P g vs.toArray w fun e w' => ∃ v r h' φ' M', e = .returned v ∧ VA φ' M' r v ∧ K r h' ∧ Rep ⟨w, owned φ h, M⟩ φ' M' h' w' ∧ Le φ φ' ∧ Kept (fun l => decide (l ∈ ls)) φ φ' h h' w w'
theorem FCalls.a {P : Program} {g : Nat} {args : List AV} {h : AH} {ls : List Nat} {K : AV → AH → Prop} (H : FCalls P g args h ls K) : ACalls P g args h K :=
  ⟨H.1, fun φ M w vs hr ha => (H.2 φ M w vs hr ha).mono fun e w' ⟨v, r, h', φ', M', h1, h2, h3, h4, h5, _⟩ => ⟨v, r, h', φ', M', h1, h2, h3, h4, h5⟩⟩
def callA (P : Program) (g : Nat) (args : List AV) (h : AH) (K : AV → AH → Prop) : Prop :=
  ACalls P g (args.map (imA h)) [] (calK args h K) ∨ (args.all clA = false ∧ ACalls P g args h K) ∨ ExtA P g args h K ∨ (args.all clA = true ∧ ACalls P g args [] (calK args h K)) ∨ ∃ ls, args.all clA = false ∧ FCalls P g args h ls K
def calK2 (args : List AV) (h : AH) (K Kl : AV → AH → Prop) (r : AV) (h' : AH) : Prop := if freeA r = true ∧ h'.all freeO = true then Kl (shA h.length r) (h ++ h'.map (shO h.length)) else K (shA h.length r) (frH (args.flatMap locA) h ++ h'.map (shO h.length))
def callA2 (P : Program) (g : Nat) (args : List AV) (h : AH) (K Kl : AV → AH → Prop) (Kf : List Nat → AV → AH → Prop) : Prop :=
  ACalls P g (args.map (imA h)) [] (calK2 args h (Kf (args.flatMap locA)) Kl) ∨ (args.all clA = false ∧ ACalls P g args h K) ∨ ExtA P g args h Kl ∨ (args.all clA = true ∧ ACalls P g args [] (calK2 args h (Kf (args.flatMap locA)) Kl)) ∨ ∃ ls, args.all clA = false ∧ FCalls P g args h ls (Kf ls)
theorem callA2_same (P : Program) (g : Nat) (args : List AV) (h : AH) (K : AV → AH → Prop) : callA2 P g args h K K (fun _ => K) = callA P g args h K := rfl
def aop (P : Program) (op : Op) (f : AF) (h : AH) (K : AV → AH → Prop) : Prop :=
  match op with
  | .build t parts => On (placesA P t) fun pl => On (zeroA P t) fun z => On (partsA f parts.toList) fun ps => On (fillA (pl[·]?) z ps) fun cs => K (.agg cs) h
  | .buildSlice t len parts => On (elemA P t) fun e => On (sizeA P e) fun k => On (zeroA P e) fun z => On (partsA f parts.toList) fun ps => z.length = k ∧ 0 < k ∧ len * k ≤ 16777216 ∧
      On (fillE k (List.replicate len z) ps) fun es => K (.one (.sl h.length 0 0 len)) (h ++ [.own 0 e k (some len) es])
  | .makeSlice t l c => On (elemA P t) fun e => On (sizeA P e) fun k => On (zeroA P e) fun z => On (bytesA P e) fun by_ => On (boundA 0 (some (ev f l))) fun n => On (boundA 0 (some (ev f c))) fun n2 => n ≤ n2 ∧ z.length = k ∧ 0 < k ∧ by_ * n2 ≤ 281474976710656 ∧ n2 ≤ maxLen ∧
      K (.one (.sl h.length 0 0 n)) (h ++ [.own 0 e k (some n2) (List.replicate n z)])
  | .slice t x lo hi mx => (match ev f x with
    | .one (.c (.string s)) => strA P t = true ∧ mx.isNone = true ∧ On (boundA 0 (lo.map (ev f))) fun i => On (boundA s.size (hi.map (ev f))) fun j => i ≤ j ∧ j ≤ s.size ∧ K (.one (.c (.string (s.extract i j)))) h
    | .one .nl => On (elemA P t) fun e => (sizeA P e).isSome = true ∧ On (boundA 0 (lo.map (ev f))) fun i => On (boundA 0 (hi.map (ev f))) fun j => On (boundA 0 (mx.map (ev f))) fun m => i = 0 ∧ j = 0 ∧ m = 0 ∧ (mx.isSome = true → hi.isSome = true) ∧ K (.one .nl) h
    | .one .emp => On (elemA P t) fun e => (sizeA P e).isSome = true ∧ On (boundA 0 (lo.map (ev f))) fun i => On (boundA 0 (hi.map (ev f))) fun j => On (boundA 0 (mx.map (ev f))) fun m => i = 0 ∧ j = 0 ∧ m = 0 ∧ (mx.isSome = true → hi.isSome = true) ∧ K (.one .emp) h
    | .one (.im es) => On (elemA P t) fun e => On (sizeA P e) fun k => ksB k es = true ∧ On (boundA 0 (lo.map (ev f))) fun i => On (boundA es.length (hi.map (ev f))) fun j => i ≤ j ∧ j ≤ es.length ∧ (match mx with
      | none => K (.one (.im ((es.drop i).take (j - i)))) h
      | some m0 => On (boundA 0 (some (ev f m0))) fun m => j ≤ m ∧ m ≤ es.length ∧ hi.isSome = true ∧ m = i ∧ K (.one .emp) h)
    | .one (.sl l g off len) => On (elemA P t) fun e => On (objR h l g) fun q => sizeA P e = some q.2.1 ∧ 0 < q.2.1 ∧ On (boundA 0 (lo.map (ev f))) fun i => On (boundA len (hi.map (ev f))) fun j => i ≤ j ∧ off + j ≤ q.2.2.length ∧ (match mx with
      | none => if off + i < q.2.2.length ∨ i = 0 then K (.one (.sl l g (off + i) (j - i))) h else K (.one (.im [])) h
      | some m0 => On (boundA 0 (some (ev f m0))) fun m => j ≤ m ∧ off + m ≤ q.2.2.length ∧ hi.isSome = true ∧ (if m = i then K (.one .emp) h else K (.one .junk) h))
    | _ => False)
  | .makeFunc fn first captured => (match fn with
    | .func g => first.size = 0 ∧ On (captured.toList.mapM fun x => match ev f x with | .one (.pt l 0 0 0) => if (objA h l 0).isSome = true then some l else none | _ => none) fun ls => K (.one (.clo g ls)) h
    | _ => False)
  | .convert src dst x => (match ev f x with
    | .one (.c (.string s)) => if strA P dst = true then (P.underlying src).isSome = true ∧ K (.one (.c (.string s))) h else strA P src = true ∧ On (elemA P dst) fun e => kindA P e = some .u8 ∧ s.size ≤ maxLen ∧
        (K (.one (.sl h.length 0 0 s.size)) (h ++ [.own 0 e 1 none (bytesE s)]))
    | .one (.c (.int k n)) => aop1 P (.convert src dst x) f h K
    | v => strA P dst = true ∧ On (elemA P src) fun e => kindA P e = some .u8 ∧ On (rowA h 1 v) fun r => On (bytesOf r) fun xs => K (.one (.c (.string (strOf xs)))) h)
  | .call c => (match c.callee with
    | .value g => (match ev f g with
      | .one (.clo g caps) => callA P g (c.args.toList.map (ev f) ++ caps.map fun l => .one (.pt l 0 0 0)) h K
      | _ => False)
    | .builtin .len => (match c.args.toList, c.argTypes.toList with
      | [x], [t] => (match ev f x with
        | .one (.c (.string s)) => strA P t = true ∧ K (.one (.c (.int .i64 s.size))) h
        | .one .nl => (elemA P t).isSome = true ∧ K (.one (.c (.int .i64 0))) h
        | .one .emp => (elemA P t).isSome = true ∧ K (.one (.c (.int .i64 0))) h
        | .one (.im es) => (elemA P t).isSome = true ∧ K (.one (.c (.int .i64 es.length))) h
        | .one (.sl l g _ len) => (elemA P t).isSome = true ∧ (objR h l g).isSome = true ∧ K (.one (.c (.int .i64 len))) h
        | _ => False)
      | _, _ => False)
    | .builtin .cap => (match c.args.toList, c.argTypes.toList with
      | [x], [t] => (elemA P t).isSome = true ∧ capG0 h (ev f x) K
      | _, _ => False)
    | .builtin .append => (match c.args.toList, c.argTypes.toList with
      | [s, x], [t, t2] => On (elemA P t) fun e => On (sizeA P e) fun k => On (bytesA P e) fun by_ => On (zeroA P e) fun z => z.length = k ∧ 0 < k ∧ 0 < by_ ∧ On (srcA P t2 h k by_ z (ev f x)) fun r => appA e k by_ h (ev f s) r K
      | _, _ => False)
    | .builtin .copy => (match c.args.toList, c.argTypes.toList with
      | [s, x], [t, t2] => On (elemA P t) fun e => On (sizeA P e) fun k => On (rowA h k (ev f x)) fun r => copA h (ev f s) r k K
      | _, _ => False)
    | .builtin .clear => (match c.args.toList, c.argTypes.toList with
      | [s], [t] => On (elemA P t) fun e => On (zeroA P e) fun z => 0 < z.length ∧ clrA h (ev f s) z K
      | _, _ => False)
    | .builtin .min => (match c.args.toList with
      | [x, y] => (match ev f x, ev f y with
        | .one (.c (.int k a)), .one (.c (.int k' b)) => K (.one (.c (.int k (if b < a then b else a)))) h
        | _, _ => False)
      | _ => False)
    | .builtin .max => (match c.args.toList with
      | [x, y] => (match ev f x, ev f y with
        | .one (.c (.int k a)), .one (.c (.int k' b)) => K (.one (.c (.int k (if a < b then b else a)))) h
        | _, _ => False)
      | _ => False)
    | _ => False)
  | op => aop1 P op f h K
def aop2 (P : Program) (op : Op) (f : AF) (h : AH) (K Kl : AV → AH → Prop) (Kf : List Nat → AV → AH → Prop) : Prop :=
  match op with
  | .call c => (match c.callee with
    | .value g => (match ev f g with
      | .one (.clo g caps) => callA2 P g (c.args.toList.map (ev f) ++ caps.map fun l => .one (.pt l 0 0 0)) h K Kl Kf
      | _ => False)
    | _ => aop P op f h K)
  | _ => aop P op f h K
theorem aop2_same (P : Program) (op : Op) (f : AF) (h : AH) (K : AV → AH → Prop) : aop2 P op f h K K (fun _ => K) = aop P op f h K := by
  cases op <;> try rfl
  rename_i c
  obtain ⟨callee, args, tys⟩ := c
  cases callee <;> rfl
def touchA (op : Op) (f : AF) (l : Nat) : Bool :=
  match op with
  | .store _ a _ => toVal (ev f a) l
  | .call c => (match c.callee with
    | .value g => (match ev f g with
      | .one (.clo _ caps) => !((c.args.toList.map (ev f) ++ caps.map fun l => AV.one (.pt l 0 0 0)).all clA)
      | _ => true)
    | .builtin .len => false
    | .builtin .min => false
    | .builtin .max => false
    | .builtin .cap => false
    | .builtin .append => (match c.args.toList with | s :: _ => toVal (ev f s) l | _ => true)
    | .builtin .copy => (match c.args.toList with | s :: _ => toVal (ev f s) l | _ => true)
    | .builtin .clear => (match c.args.toList with | s :: _ => toVal (ev f s) l | _ => true)
    | _ => true)
  | _ => false
end Go.BL
end
section
namespace Go.BL
open Go.RowKit
set_option linter.unusedVariables false
set_option linter.unusedSimpArgs false
section
variable {P : Program} {G : Cx} {φ : Phi} {M : Im} {h : AH} {w : World} {f : AF} {n : Nat} {a : Act}
/-! ### Rows of elements, laid flat -/
def RowV (φ : Phi) (M : Im) (k : Nat) (es : List (List CV)) (us : List Value) : Prop := us.length = es.length * k ∧ ∀ (i : Nat) (e : List CV) (j : Nat) (x : CV), es[i]? = some e → e[j]? = some x → ∃ v, us[i * k + j]? = some v ∧ V φ M x v
def Ks (k : Nat) (es : List (List CV)) : Prop := ∀ e, e ∈ es → e.length = k
theorem div_place {k i j : Nat} (hj : j < k) : (i * k + j) / k = i ∧ (i * k + j) % k = j := by
  have h0 : 0 < k := by omega
  refine ⟨?_, ?_⟩
  · rw [Nat.mul_comm, Nat.mul_add_div h0, Nat.div_eq_of_lt hj]; omega
  · rw [Nat.mul_comm, Nat.mul_add_mod, Nat.mod_eq_of_lt hj]
theorem place_of {k m q : Nat} (hq : q < m * k) : ∃ i j, i < m ∧ j < k ∧ q = i * k + j := by
  have hk : 0 < k := Nat.pos_of_ne_zero (by intro e; subst e; omega)
  refine ⟨q / k, q % k, ?_, Nat.mod_lt _ hk, ?_⟩
  · exact Nat.div_lt_of_lt_mul (by rw [Nat.mul_comm]; exact hq)
  · have := Nat.div_add_mod q k; rw [Nat.mul_comm] at this; exact this.symm
theorem place_lt {k m i j : Nat} (hi : i < m) (hj : j < k) : i * k + j < m * k := cell_in hi hj
theorem RowV.says {k : Nat} {es : List (List CV)} {us : List Value} (H : RowV φ M k es us) (C : Array Value) (hC : ∀ (j : Nat) (v : Value), us[j]? = some v → C[j]? = some v) : Says φ M k C es := fun i e j x hi hj => let ⟨v, h1, h2⟩ := H.2 i e j x hi hj; ⟨v, hC _ _ h1, h2⟩
theorem RowV.app {k : Nat} {es fs : List (List CV)} {us vs : List Value} (hks : Ks k fs) (H : RowV φ M k es us) (H' : RowV φ M k fs vs) : RowV φ M k (es ++ fs) (us ++ vs) := by
  refine ⟨by rw [List.length_append, List.length_append, H.1, H'.1, Nat.add_mul], fun i e j x hi hj => ?_⟩
  rcases Nat.lt_or_ge i es.length with hlt | hge
  · rw [List.getElem?_append_left hlt] at hi
    obtain ⟨v, h1, h2⟩ := H.2 i e j x hi hj
    exact ⟨v, by rw [List.getElem?_append_left (List.getElem?_eq_some_iff.1 h1).1]; exact h1, h2⟩
  · rw [List.getElem?_append_right hge] at hi
    obtain ⟨v, h1, h2⟩ := H'.2 _ e j x hi hj
    refine ⟨v, ?_, h2⟩
    have hle : us.length ≤ i * k := by rw [H.1]; exact Nat.mul_le_mul_right k hge
    rw [List.getElem?_append_right (by omega), H.1, ← h1]
    congr 1
    rw [Nat.sub_mul]
    have := Nat.mul_le_mul_right k hge
    omega
theorem RowV.take {k : Nat} {es : List (List CV)} {us : List Value} (hks : Ks k es) (H : RowV φ M k es us) (m : Nat) (hm : m ≤ es.length) : RowV φ M k (es.take m) (us.take (m * k)) := by
  have hle : m * k ≤ es.length * k := Nat.mul_le_mul_right k hm
  refine ⟨by rw [List.length_take, List.length_take, H.1, Nat.min_eq_left hle, Nat.min_eq_left hm], fun i e j x hi hj => ?_⟩
  rw [List.getElem?_take] at hi
  split at hi
  · rename_i him
    obtain ⟨v, h1, h2⟩ := H.2 i e j x hi hj
    have hjk : j < k := by rw [← hks e (List.mem_of_getElem? hi)]; exact (List.getElem?_eq_some_iff.1 hj).1
    exact ⟨v, by rw [List.getElem?_take, if_pos (place_lt him hjk)]; exact h1, h2⟩
  · cases hi
theorem RowV.mono {φ' : Phi} {M' : Im} (hφ : Le φ φ') (hM : MLe M M') {k : Nat} {es : List (List CV)} {us : List Value} (H : RowV φ M k es us) : RowV φ' M' k es us := ⟨H.1, fun i e j x hi hj => let ⟨v, h1, h2⟩ := H.2 i e j x hi hj; ⟨v, h1, h2.mono hφ hM⟩⟩
theorem RowV.one {k : Nat} {es : List (List CV)} {us : List Value} (hks : Ks k es) (H : RowV φ M k es us) : ∀ u, u ∈ us → u.oneCell' = true := by
  intro u hu
  obtain ⟨q, hq⟩ := List.mem_iff_getElem?.1 hu
  have hql := (List.getElem?_eq_some_iff.1 hq).1
  rw [H.1] at hql
  obtain ⟨i, j, hi, hj, rfl⟩ := place_of hql
  have hel : es[i].length = k := hks _ (List.getElem_mem hi)
  obtain ⟨v, h1, h2⟩ := H.2 i es[i] j _ (List.getElem?_eq_getElem hi) (List.getElem?_eq_getElem (by omega))
  rw [hq] at h1
  cases h1
  exact h2.one
theorem row_of {k m : Nat} {es : List (List CV)} {b o : Nat} (hm : es.length = m) (hks : Ks k es) (hc : ∀ (i : Nat) (e : List CV) (j : Nat) (x : CV), es[i]? = some e → e[j]? = some x → ∃ v, w.cell? ⟨b, o + (i * k + j), none⟩ = some v ∧ V φ M x v) :
    ∃ us, RowV φ M k es us ∧ ∀ j u, us[j]? = some u → w.cell? ⟨b, o + j, none⟩ = some u := by
  have : ∀ q : Nat, ∃ v : Value, q < m * k → w.cell? ⟨b, o + q, none⟩ = some v := fun q => by
    by_cases hq : q < m * k
    · obtain ⟨i, j, hi, hj, rfl⟩ := place_of hq
      have hi' : i < es.length := by omega
      have hel : es[i].length = k := hks _ (List.getElem_mem hi')
      obtain ⟨v, h1, _⟩ := hc i es[i] j _ (List.getElem?_eq_getElem hi') (List.getElem?_eq_getElem (by omega))
      exact ⟨v, fun _ => h1⟩
    · exact ⟨undef, fun q' => absurd q' hq⟩
  obtain ⟨C, hC⟩ := Classical.axiomOfChoice this
  refine ⟨(List.range (m * k)).map C, ⟨by simp [hm], fun i e j x hi hj => ?_⟩, fun j u hj => ?_⟩
  · have hjk : j < k := by rw [← hks e (List.mem_of_getElem? hi)]; exact (List.getElem?_eq_some_iff.1 hj).1
    have him : i < m := by rw [← hm]; exact (List.getElem?_eq_some_iff.1 hi).1
    have hlt := place_lt him hjk
    obtain ⟨v, h1, h2⟩ := hc i e j x hi hj
    refine ⟨C (i * k + j), by simp [hlt], ?_⟩
    have := hC _ hlt
    rw [h1] at this
    cases this
    exact h2
  · rw [List.getElem?_map] at hj
    obtain ⟨q, hq, rfl⟩ := Option.map_eq_some_iff.1 hj
    have hlt : j < m * k := by have := (List.getElem?_eq_some_iff.1 hq).1; simpa using this
    rw [List.getElem?_range hlt] at hq
    cases hq
    exact hC _ hlt
def Reads (P : Program) (w : World) (k m : Nat) (u : Value) (us : List Value) : Prop := us.length = m * k ∧ ∀ w' : World, w'.heap = w.heap → (Builtin.lenOf u).run P w' = .ok m w' ∧ ∀ q, q ≤ m → (Builtin.firstCells k q u).run P w' = .ok (us.take (q * k)).toArray w'
theorem reads_slice {k m b o cap : Nat} {us : List Value} (hl : us.length = m * k) (hc : ∀ j u, us[j]? = some u → w.cell? ⟨b, o + j, none⟩ = some u) : Reads P w k m (.slice (some ⟨b, o, none⟩) m cap) us := by
  refine ⟨hl, fun w' hh => ⟨by simp [Builtin.lenOf], fun q hq => ?_⟩⟩
  have hle : q * k ≤ m * k := Nat.mul_le_mul_right k hq
  refine run_firstCells_some (P := P) w' k q ⟨b, o, none⟩ m cap _ (by rw [List.length_take]; omega) (fun j u hj => ?_)
  rw [List.getElem?_take] at hj
  split at hj
  · rw [add_lit, cell_same (w := w) (by rw [hh])]
    exact hc j u hj
  · cases hj
theorem reads_nil {k : Nat} (ad : Option Addr) (cap : Nat) : Reads P w k 0 (.slice ad 0 cap) [] := by
  refine ⟨by simp, fun w' hh => ⟨by simp [Builtin.lenOf], fun q hq => ?_⟩⟩
  have : q = 0 := by omega
  subst this
  cases ad with
  | none => simp [Builtin.firstCells]
  | some ad => rw [List.take_nil]; exact run_firstCells_some (P := P) w' k 0 ad 0 cap [] (by simp) (fun j u hj => by simp at hj)
theorem bytesE_len (s : ByteArray) : (bytesE s).length = s.size := by rw [bytesE, List.length_map]; rfl
theorem bytesE_ks (s : ByteArray) : Ks 1 (bytesE s) := fun e he => by obtain ⟨b, _, rfl⟩ := List.mem_map.1 he; rfl
theorem ksB_Ks {k : Nat} {es : List (List CV)} (h : ksB k es = true) : Ks k es := fun e he => by simpa using (List.all_eq_true.1 h) e he
theorem sl_at (R : Rep G φ M h w) {l g off len : Nat} {q : TypeId × Nat × List (List CV)} (hq : objR h l g = some q) {u : Value} (hu : VA φ M (.one (.sl l g off len)) u) :
    ∃ p, φ l = some p ∧ p.g = g ∧ p.k = q.2.1 ∧ ((p.vir = true ∧ off = 0 ∧ len = 0 ∧ q.2.2 = [] ∧ ∃ a, u = .slice a 0 0) ∨ (p.vir = false ∧ u = .slice (some ⟨p.b, off * q.2.1, none⟩) len (p.cap - off))) := by
  obtain ⟨h1, p, h2, h3, h4⟩ := hu
  obtain ⟨p', h5, h6, h7, h8, _, h9, _⟩ := R.readR hq
  rw [h2] at h5
  cases h5
  refine ⟨p, h2, h6, h7, ?_⟩
  rcases h4 h6 with ⟨q1, q2, q3, q4⟩ | ⟨q1, q2⟩
  · exact .inl ⟨q1, q2, q3, h9 q1, q4⟩
  · exact .inr ⟨q1, by rw [← h7]; exact q2⟩
theorem obj_ks (R : Rep G φ M h w) {l g : Nat} {q : TypeId × Nat × Option Nat × List (List CV)} (hq : objA h l g = some q) : Ks q.2.1 q.2.2.2 := by
  obtain ⟨p', h5, h6, h7, h8, _, h10, h9, _⟩ := R.obj l _ (objA_spec hq)
  exact h10
theorem obj_row (R : Rep G φ M h w) {l g off len : Nat} {q : TypeId × Nat × List (List CV)} (hq : objR h l g = some q) (hle : off + len ≤ q.2.2.length) {p : Pl} (hp : φ l = some p) (hv : p.vir = false) :
    ∃ us, RowV φ M q.2.1 ((q.2.2.drop off).take len) us ∧ ∀ j u, us[j]? = some u → w.cell? ⟨p.b, off * q.2.1 + j, none⟩ = some u := by
  obtain ⟨p', h1, h2, h3, hks, _, _, h5⟩ := R.readR hq
  rw [hp] at h1
  cases h1
  refine row_of (m := len) (by simp; omega) (fun e he => hks e (List.mem_of_mem_drop (List.mem_of_mem_take he))) (fun i e j x hi hj => ?_)
  rw [List.getElem?_take] at hi
  split at hi
  · rw [List.getElem?_drop] at hi
    obtain ⟨v, h6, h7⟩ := (h5 _ e hi).2 j x hj
    exact ⟨v, by rw [← Nat.add_assoc, ← Nat.add_mul]; exact h6, h7⟩
  · cases hi
theorem rowA_spec (R : Rep G φ M h w) {k : Nat} {x : AV} {u : Value} {es : List (List CV)} (hv : VA φ M x u) (hr : rowA h k x = some es) : Ks k es ∧ ∃ us, RowV φ M k es us ∧ Reads P w k es.length u us := by
  have nil : ∀ (ad : Option Addr) (cap : Nat), Ks k [] ∧ ∃ us, RowV φ M k [] us ∧ Reads P w k ([] : List (List CV)).length (.slice ad 0 cap) us := fun ad cap =>
    ⟨fun e he => (by cases he), [], ⟨by simp, fun i e j x hi => by simp at hi⟩, reads_nil ad cap⟩
  unfold rowA at hr
  split at hr
  · cases hr
    cases (show V0 M .nl u from hv)
    exact nil _ _
  · cases hr
    cases (show V0 M .emp u from hv)
    exact nil _ _
  · split at hr
    · rename_i es' hk
      cases hr
      have hk := ksB_Ks hk
      cases (show V0 M (.im es) u from hv) with
      | im0 ad cap => exact nil _ _
      | im _ k' b o cap C hk' hc hm hV =>
        have hkk : es = [] ∨ k' = k := by
          cases es with
          | nil => exact .inl rfl
          | cons e r => exact .inr ((hk' e (by simp)).symm.trans (hk e (by simp)))
        rcases hkk with rfl | rfl
        · exact nil _ _
        obtain ⟨us, h1, h2⟩ := row_of (w := w) (φ := φ) (M := M) (b := b) (o := o) rfl hk (fun i e j x hi hj => ⟨C i j, (R.imm _ _ (hm i e j x hi hj)).1, V0_V (hV i e j x hi hj)⟩)
        exact ⟨hk, us, h1, reads_slice h1.1 h2⟩
    · cases hr
  · rename_i l g off len
    obtain ⟨q, hq, hr2⟩ := Option.bind_eq_some_iff.1 hr
    clear hr
    split at hr2
    · rename_i hc
      obtain ⟨rfl, hle⟩ := hc
      obtain rfl := Option.some.inj hr2
      obtain ⟨p, hp, hg, hk, hcase⟩ := sl_at R hq hv
      rcases hcase with ⟨_, rfl, rfl, he, ad, rfl⟩ | ⟨hvir, rfl⟩
      · simp only [List.take_zero]
        exact nil _ _
      · obtain ⟨us, h1, h2⟩ := obj_row R hq hle hp hvir
        have hl : ((q.2.2.drop off).take len).length = len := by simp; omega
        obtain ⟨_, _, _, _, hks, _⟩ := R.readR hq
        refine ⟨fun e he => hks e (List.mem_of_mem_drop (List.mem_of_mem_take he)), us, h1, ?_⟩
        rw [hl]
        exact reads_slice (by have := h1.1; rw [hl] at this; exact this) h2
    · cases hr2
  · rename_i s
    split at hr
    · rename_i hk
      subst hk
      cases hr
      have := VA_c hv
      subst this
      refine ⟨bytesE_ks s, s.data.toList.map fun b => .int .u8 b.toNat, ⟨by rw [bytesE_len, List.length_map, Nat.mul_one]; rfl, fun i e j x hi hj => ?_⟩, by rw [bytesE_len, List.length_map, Nat.mul_one]; rfl, fun w' _ => ⟨by rw [bytesE_len]; simp [Builtin.lenOf], fun q hq => ?_⟩⟩
      · rw [bytesE, List.getElem?_map] at hi
        obtain ⟨b, hb, rfl⟩ := Option.map_eq_some_iff.1 hi
        rcases j with _ | j
        · simp at hj
          subst hj
          exact ⟨_, by simp only [Nat.mul_one, Nat.add_zero, List.getElem?_map, hb]; rfl, V0.c _ rfl⟩
        · simp at hj
      · simp only [Builtin.firstCells, Sem.run_pure]
        congr 1
        apply Array.toList_inj.1
        rw [Array.toList_map, ByteArray.data_extract]
        simp [List.map_take]
    · cases hr
  · cases hr
inductive Src (P : Program) (w : World) (t2 : TypeId) (k by_ : Nat) (z : Array Value) : Value → Nat → List Value → Prop
  | row (u : Value) (m : Nat) (us : List Value) (hd : (∃ d, P.underlying t2 = some (.slice d)) ∨ P.underlying t2 = some .string) (hr : Reads P w k m u us) : Src P w t2 k by_ z u m us
  | zeros (ki kk : IntKind) (i : Int) (hd : P.underlying t2 = some (.int ki)) (h0 : 0 ≤ i) (h1 : i ≤ 9223372036854775807) (h2 : i.toNat * by_ ≤ 281474976710656) : Src P w t2 k by_ z (.int kk i) i.toNat (Builtin.zeroCells z i.toNat).toList
theorem zero_row {z : List CV} {k : Nat} {vz : Value} (hz : z = vz.cells.toList.map cvOf) (hz1 : ∀ u ∈ vz.cells.toList, u.oneCell' = true) (hzk : z.length = k) (m : Nat) : Ks k (List.replicate m z) ∧ RowV φ M k (List.replicate m z) (Builtin.zeroCells vz.cells m).toList := by
  have hs : vz.cells.size = k := by rw [← hzk, hz]; simp
  refine ⟨fun e he => by rw [(List.mem_replicate.1 he).2, hzk], by simp [Builtin.zeroCells, hs], fun i e j x hi hj => ?_⟩
  rw [List.getElem?_replicate] at hi
  split at hi
  · rename_i him
    cases hi
    have hjk : j < k := by rw [← hzk]; exact (List.getElem?_eq_some_iff.1 hj).1
    have hlt := place_lt him hjk
    rw [hz, List.getElem?_map] at hj
    obtain ⟨u, hu, rfl⟩ := Option.map_eq_some_iff.1 hj
    refine ⟨u, ?_, V_cvOf u (hz1 u (List.mem_of_getElem? hu))⟩
    have hju : vz.cells[j]? = some u := by simpa using hu
    have hj' : j < vz.cells.size := (Array.getElem?_eq_some_iff.1 hju).1
    simp only [Builtin.zeroCells, Array.toList_map, Array.toList_range, List.getElem?_map, hs, List.getElem?_range hlt, Option.map_some, (div_place hjk).2]
    rw [getElem!_pos vz.cells j hj']
    rw [Array.getElem?_eq_getElem hj'] at hju
    exact hju
  · cases hi
theorem srcA_spec (R : Rep G φ M h w) {t2 : TypeId} {k by_ : Nat} {z : List CV} {vz : Value} (hz : z = vz.cells.toList.map cvOf) (hz1 : ∀ u ∈ vz.cells.toList, u.oneCell' = true) (hzk : z.length = k) {x : AV} {u : Value} {es : List (List CV)} (hv : VA φ M x u) (hr : srcA P t2 h k by_ z x = some es) :
    Ks k es ∧ ∃ us, RowV φ M k es us ∧ Src P w t2 k by_ vz.cells u es.length us := by
  unfold srcA at hr
  split at hr
  · rename_i hd
    obtain ⟨h1, us, h2, h3⟩ := rowA_spec (P := P) R hv hr
    refine ⟨h1, us, h2, .row u _ us ?_ h3⟩
    rw [Bool.or_eq_true] at hd
    rcases hd with hd | hd
    · obtain ⟨e, he⟩ := Option.isSome_iff_exists.1 hd
      exact .inl ⟨e, elemA_spec he⟩
    · exact .inr (strA_spec hd)
  · split at hr
    · rename_i hki
      obtain ⟨ki, hki⟩ := Option.isSome_iff_exists.1 hki
      split at hr
      · rename_i kk i
        split at hr
        · rename_i hc
          obtain ⟨c1, c2, c3⟩ := hc
          cases hr
          obtain ⟨h1, h2⟩ := zero_row (φ := φ) (M := M) hz hz1 hzk i.toNat
          have := VA_c hv
          subst this
          refine ⟨h1, _, h2, ?_⟩
          rw [List.length_replicate]
          exact .zeros ki kk i (kindA_spec hki) c1 c2 c3
        · cases hr
      · cases hr
    · cases hr
theorem run_app_new {t e : TypeId} (t2 ty : TypeId) {k by_ : Nat} {i : TypeInfo} {zv : Value} (ht : P.underlying t = some (.slice e)) (hi : P.info? e = some i) (hiz : i.zero = some zv) (hsz : i.size = k) (hbt : i.bytes = by_) (hzs : zv.cells.size = k)
    (ba : Option Addr) (sLen sCap : Nat) (olds : List Value) (ho : Reads P w k sLen (.slice ba sLen sCap) olds) {u : Value} {m : Nat} {news : List Value} (hs : Src P w t2 k by_ zv.cells u m news)
    (hgt : sCap < sLen + m) (hbytes : (sLen + m) * by_ ≤ 140737488355328) (h63 : sLen + m ≤ maxLen) :
    (Builtin.append_ #[t, t2] ty #[.slice ba sLen sCap, u]).run P w = .ok (.slice (some ⟨w.heap.size, 0, none⟩) (sLen + m) (grownCap w (sLen + m) sCap e))
      (w.drew.alloc (.cells (olds.toArray ++ news.toArray ++ Builtin.zeroCells zv.cells (grownCap w (sLen + m) sCap e - (sLen + m))) e)) := by
  have hcap := grownCap_ge w (sLen + m) sCap e
  have hfit := growslice_fits (bytes := by_) hgt hbytes
  have hn : ¬ (sLen + m ≤ sCap) := by omega
  have h63' : ¬ (9223372036854775807 < ((sLen : Int) + (m : Int))) := by unfold maxLen at h63; omega
  have h48' : ¬ (281474976710656 < Builtin.nextslicecap (sLen + m) sCap * i.bytes) := by rw [hbt]; omega
  have holds : (Builtin.firstCells k sLen (.slice ba sLen sCap)).run P w.drew = .ok olds.toArray w.drew := by
    have := (ho.2 w.drew rfl).2 sLen (Nat.le_refl _)
    rw [List.take_of_length_le (by rw [ho.1]; exact Nat.le_refl _)] at this
    exact this
  subst hsz
  cases hs with
  | row _ _ _ hd hr =>
    have hlen := (hr.2 w rfl).1
    have hnews := (hr.2 w.drew rfl).2 m (Nat.le_refl _)
    rw [List.take_of_length_le (by rw [hr.1]; exact Nat.le_refl _)] at hnews
    rcases hd with ⟨d, hd⟩ | hd
    · simp [Builtin.append_, run_underlying ht, run_underlying hd, sizeOf, typeInfo, zeroValue, hi, hiz, hlen, hn, h63', h48', Question.forced, hnews, holds, newRow, grownCap]
      congr 2
      apply Array.toList_inj.1
      simp
    · simp [Builtin.append_, run_underlying ht, run_underlying hd, sizeOf, typeInfo, zeroValue, hi, hiz, hlen, hn, h63', h48', Question.forced, hnews, holds, newRow, grownCap]
      congr 2
      apply Array.toList_inj.1
      simp
  | zeros ki kk ii hd h0 h1 h2 =>
    have wl : IntKind.i64.wrap ii = ii := by rw [IntKind.wrap_i64]; omega
    have hneg : ¬ ii < 0 := by omega
    have hb : ¬ (281474976710656 < ii * (i.bytes : Int)) := by
      have : ((ii.toNat * by_ : Nat) : Int) = ii * (i.bytes : Int) := by rw [hbt, Int.natCast_mul]; congr 1; omega
      rw [← this]; omega
    have hsum2 : ¬ (9223372036854775807 < (sLen : Int) + max ii 0) := by omega
    by_cases hm0 : ii.toNat * i.size = 0
    · have hz0 : Builtin.zeroCells zv.cells ii.toNat = #[] := by
        apply Array.toList_inj.1
        simp [Builtin.zeroCells, hzs, hm0]
      simp [Builtin.append_, run_underlying ht, run_underlying hd, sizeOf, typeInfo, zeroValue, hi, hiz, hn, h63', h48', Question.forced, holds, newRow, grownCap, asInt, asIntOf, wl, hneg, hb, hm0, hsum2, hz0]
    · simp [Builtin.append_, run_underlying ht, run_underlying hd, sizeOf, typeInfo, zeroValue, hi, hiz, hn, h63', h48', Question.forced, holds, newRow, grownCap, asInt, asIntOf, wl, hneg, hb, hm0, hsum2]
theorem run_app_room {t e : TypeId} (t2 ty : TypeId) {k by_ : Nat} {i : TypeInfo} {zv : Value} (ht : P.underlying t = some (.slice e)) (hi : P.info? e = some i) (hiz : i.zero = some zv) (hsz : i.size = k) (hbt : i.bytes = by_) (hzs : zv.cells.size = k)
    (ba : Option Addr) (sLen sCap : Nat) {u : Value} {m : Nat} {news : List Value} (hs : Src P w t2 k by_ zv.cells u m news) (hle : sLen + m ≤ sCap) (w' : World)
    (hst : ∀ ad, ba = some ad → (storeCells (ad.add (sLen * k)) news).run P w = .ok () w') (hno : ba = none → w' = w) :
    (Builtin.append_ #[t, t2] ty #[.slice ba sLen sCap, u]).run P w = .ok (.slice ba (sLen + m) sCap) w' := by
  subst hsz
  cases hs with
  | row _ _ _ hd hr =>
    have hlen := (hr.2 w rfl).1
    have hnews := (hr.2 w rfl).2 m (Nat.le_refl _)
    rw [List.take_of_length_le (by rw [hr.1]; exact Nat.le_refl _)] at hnews
    cases ba with
    | none =>
      rw [hno rfl]
      rcases hd with ⟨d, hd⟩ | hd <;> simp [Builtin.append_, run_underlying ht, run_underlying hd, sizeOf, typeInfo, hi, hlen, hle, hnews]
    | some ad =>
      have h1 := hst ad rfl
      rcases hd with ⟨d, hd⟩ | hd <;> simp [Builtin.append_, run_underlying ht, run_underlying hd, sizeOf, typeInfo, hi, hlen, hle, hnews, h1]
  | zeros ki kk ii hd h0 h1 h2 =>
    have wl : IntKind.i64.wrap ii = ii := by rw [IntKind.wrap_i64]; omega
    have hneg : ¬ ii < 0 := by omega
    have hb : ¬ (281474976710656 < ii * (i.bytes : Int)) := by
      have : ((ii.toNat * by_ : Nat) : Int) = ii * (i.bytes : Int) := by rw [hbt, Int.natCast_mul]; congr 1; omega
      rw [← this]; omega
    by_cases hm0 : ii.toNat * i.size = 0
    · have hz0 : Builtin.zeroCells zv.cells ii.toNat = #[] := by
        apply Array.toList_inj.1
        simp [Builtin.zeroCells, hzs, hm0]
      rw [hz0] at hst
      cases ba with
      | none => rw [hno rfl]; simp [Builtin.append_, run_underlying ht, run_underlying hd, sizeOf, typeInfo, zeroValue, hi, hiz, hle, asInt, asIntOf, wl, hneg, hb, hm0, hz0]
      | some ad => have h1 := hst ad rfl; simp at h1; simp [Builtin.append_, run_underlying ht, run_underlying hd, sizeOf, typeInfo, zeroValue, hi, hiz, hle, asInt, asIntOf, wl, hneg, hb, hm0, hz0, h1]
    · cases ba with
      | none => rw [hno rfl]; simp [Builtin.append_, run_underlying ht, run_underlying hd, sizeOf, typeInfo, zeroValue, hi, hiz, hle, asInt, asIntOf, wl, hneg, hb, hm0]
      | some ad => have h1 := hst ad rfl; simp [Builtin.append_, run_underlying ht, run_underlying hd, sizeOf, typeInfo, zeroValue, hi, hiz, hle, asInt, asIntOf, wl, hneg, hb, hm0, h1]
theorem run_store_block {b o : Nat} {C : Array Value} {t : TypeId} {fr : Nat × Nat} (hb : w.heap[b]? = some (.cells C t fr)) {k : Nat} (hfr : okFr fr C k) (us : List Value) (hfit : o + us.length ≤ C.size) (h1 : ∀ u, u ∈ us → u.oneCell' = true) :
    (storeCells ⟨b, o, none⟩ us).run P w = .ok () (w.setCells b o us) := by
  have hst := run_storeCells_cells (P := P) b o us 0 w (fun j hj => by
      rw [Nat.add_zero, Joins.cell_of_block hb, Array.getElem?_eq_getElem (by omega)]; rfl) (fun j hj => by
      rw [Nat.add_zero]
      exact okFr_free hb hfr (by omega)) h1
  simpa using hst
theorem RowV.csetV {k : Nat} {es fs : List (List CV)} {C : Array Value} {us : List Value} (hes : Ks k es) (hfs : Ks k fs) (hS : Says φ M k C es) (H : RowV φ M k fs us) (i : Nat) (hi : i + fs.length ≤ es.length) (hC : i * k + us.length ≤ C.size) :
    Says φ M k (cset C.toList (i * k) us).toArray (cset es i fs) := by
  intro i' e j x hi' hj
  have hCl : i * k + us.length ≤ C.toList.length := by simpa using hC
  have hmem : e ∈ cset es i fs := List.mem_of_getElem? hi'
  have hek : e.length = k := by rcases cset_mem hmem with q | q; exact hes e q; exact hfs e q
  have hjk : j < k := by rw [← hek]; exact (List.getElem?_eq_some_iff.1 hj).1
  rw [cset_get _ _ _ _ hi] at hi'
  rw [List.getElem?_toArray, cset_get _ _ _ _ hCl, H.1]
  by_cases hc : i ≤ i' ∧ i' < i + fs.length
  · rw [if_pos hc] at hi'
    have h1 : (i' - i) * k + j < fs.length * k := place_lt (by omega) hjk
    have h2 : i' * k = i * k + (i' - i) * k := by rw [← Nat.add_mul]; congr 1; omega
    rw [if_pos (by omega), show i' * k + j - i * k = (i' - i) * k + j by omega]
    exact H.2 _ e j x hi' hj
  · rw [if_neg hc] at hi'
    rw [if_neg (fun q => hc (by
      refine ⟨?_, ?_⟩
      · refine Nat.le_of_not_lt fun q2 => ?_
        have : i' * k + j < i * k := place_lt q2 hjk
        omega
      · refine Nat.lt_of_not_le fun q2 => ?_
        have h3 : (i + fs.length) * k ≤ i' * k := Nat.mul_le_mul_right k q2
        rw [Nat.add_mul] at h3
        omega))]
    simpa using hS i' e j x hi' hj
end
section
variable {P : Program} {G : Cx} {φ : Phi} {M : Im} {h : AH} {w : World} {K : AV → AH → Prop}
theorem Rep.bumpv (R : Rep G φ M h w) {l g k : Nat} {t : TypeId} {cap : Option Nat} {es : List (List CV)} (hl : h[l]? = some (.own g t k cap es)) {p : Pl} (hp : φ l = some p) (hv : p.vir = true) :
    Rep G (phiAt φ l ⟨p.b, k, 0, g + 1, true⟩) M (h.set l (.own (g + 1) t k none [])) w ∧ Le φ (phiAt φ l ⟨p.b, k, 0, g + 1, true⟩) := by
  obtain ⟨p', h1, h2, _⟩ := R.obj l _ hl
  rw [hp] at h1
  cases h1
  have hle : Le φ (phiAt φ l ⟨p.b, k, 0, g + 1, true⟩) := Le.at_gen hp (by simp; omega)
  refine ⟨?_, hle⟩
  have hown : ∀ i q, Own (phiAt φ l ⟨p.b, k, 0, g + 1, true⟩) (h.set l (.own (g + 1) t k none [])) i q → Own φ h i q := by
    rintro i q ⟨g1, t1, k1, cap1, es1, hi, hq, hv1⟩
    rcases set_get hi with ⟨rfl, ho, _⟩ | ⟨hne, hi⟩
    · rw [phiAt_at] at hq
      cases hq
      cases hv1
    · rw [phiAt_ne φ _ hne] at hq
      exact ⟨g1, t1, k1, cap1, es1, hi, hq, hv1⟩
  refine ⟨R.os, R.tape, R.output, R.size, R.blk, R.mon, R.imm, R.imn, fun i hi => ?_, ?_, fun l p ho => R.new l p (hown l p ho), fun i j p q hi hj hne => R.inj i j p q (hown i p hi) (hown j q hj) hne, fun a v l p hm ho => R.dis a v l p hm (hown l p ho)⟩
  · simp at hi
    rw [phiAt_ne φ _ (by have := hlt hl; omega)]
    exact R.dom i hi
  · intro i o hi
    rcases set_get hi with ⟨rfl, rfl, _⟩ | ⟨hne, hi⟩
    · exact ⟨_, phiAt_at φ _ _, rfl, rfl, Nat.le_refl _, fun c hc => (by cases hc), fun e he => (by cases he), fun _ => rfl, fun hv => (by cases hv)⟩
    · exact (R.obj i o hi).move hle (MLe.refl _) (phiAt_ne φ _ hne) (fun _ _ _ _ => rfl)
theorem app_sound (R : Rep G φ M h w) {t e : TypeId} (t2 ty : TypeId) {k by_ : Nat} (z : List CV) (ht : elemA P t = some e) (hk : sizeA P e = some k) (hby : bytesA P e = some by_) (hz : zeroA P e = some z) (hzk : z.length = k) (hk0 : 0 < k) (hb0 : 0 < by_)
    {x s : AV} {u us : Value} {news : List (List CV)} (hx : VA φ M x u) (hs : VA φ M s us) (hr : srcA P t2 h k by_ z x = some news) (H : appA e k by_ h s news K) :
    ∃ φ' v u' h' w', (Builtin.append_ #[t, t2] ty #[us, u]).run P w = .ok u' w' ∧ VA φ' M v u' ∧ K v h' ∧ Rep G φ' M h' w' ∧ Le φ φ' ∧ Kept (toVal s) φ φ' h h' w w' := by
  obtain ⟨i, zv, hi, hiz, hzz, hz1⟩ := zeroA_spec hz
  have ht := elemA_spec ht
  have hsz : i.size = k := by unfold sizeA at hk; rw [hi] at hk; simpa using hk
  have hbt : i.bytes = by_ := by unfold bytesA at hby; rw [hi] at hby; simpa using hby
  have hzs : zv.cells.size = k := by rw [← hzk, hzz]; simp
  obtain ⟨hnk, ns, hnv, hsrc⟩ := srcA_spec (P := P) R hzz hz1 hzk hx hr
  have hmax : ∀ q, q * by_ ≤ 140737488355328 → q ≤ maxLen := fun q hq => by
    have : q * 1 ≤ q * by_ := Nat.mul_le_mul_left q hb0
    unfold maxLen
    omega
  have hnl := hnv.1
  -- a new block with old elements and new ones
  have fresh : ∀ (ba : Option Addr) (sLen sCap : Nat) (olds : List (List CV)) (os : List Value), Ks k olds → RowV φ M k olds os → olds.length = sLen → Reads P w k sLen (.slice ba sLen sCap) os → sCap < sLen + news.length → (sLen + news.length) * by_ ≤ 140737488355328 →
      ∃ n C, sLen + news.length ≤ n ∧ C.size = n * k ∧ okFr (0, 0) C k ∧ Says φ M k C (olds ++ news) ∧ (Builtin.append_ #[t, t2] ty #[.slice ba sLen sCap, u]).run P w = .ok (.slice (some ⟨w.heap.size, 0, none⟩) (sLen + news.length) n) (w.drew.alloc (.cells C e (0, 0))) := by
    intro ba sLen sCap olds os hok hov hol hrd hgt hby2
    have hcap := grownCap_ge w (sLen + news.length) sCap e
    refine ⟨grownCap w (sLen + news.length) sCap e, _, hcap, ?_, ?_, ?_, run_app_new t2 ty ht hi hiz hsz hbt hzs ba sLen sCap os hrd hsrc hgt hby2 (hmax _ hby2)⟩
    · simp only [Array.size_append, List.size_toArray, Builtin.zeroCells, Array.size_map, Array.size_range, hov.1, hnl, hzs, hol]
      rw [← Nat.add_mul, ← Nat.add_mul]
      congr 1
      omega
    · refine ⟨.inl (Nat.le_refl _), fun i v hv => ?_⟩
      have hm := Array.mem_of_getElem? hv
      simp only [Array.mem_append] at hm
      rcases hm with (hm | hm) | hm
      · exact hov.one hok v (by simpa using hm)
      · exact hnv.one hnk v (by simpa using hm)
      · obtain ⟨z1, z2⟩ := zero_row (φ := φ) (M := M) hzz hz1 hzk (grownCap w (sLen + news.length) sCap e - (sLen + news.length))
        exact z2.one z1 v (by simpa using hm)
    · refine (hov.app hnk hnv).says _ (fun j v hj => ?_)
      have e2 : os.toArray ++ ns.toArray = (os ++ ns).toArray := by simp
      rw [e2, Array.getElem?_append_left (by simpa using (List.getElem?_eq_some_iff.1 hj).1)]
      simpa using hj
  have nilcase : ∀ ad : Option Addr, us = .slice ad 0 0 → news.length * by_ ≤ 140737488355328 → K (.one (.sl h.length 0 0 news.length)) (h ++ [.own 0 e k none news]) →
      ∃ φ' v u' h' w', (Builtin.append_ #[t, t2] ty #[us, u]).run P w = .ok u' w' ∧ VA φ' M v u' ∧ K v h' ∧ Rep G φ' M h' w' ∧ Le φ φ' ∧ Kept (toVal s) φ φ' h h' w w' := by
    intro ad e1 hby2 hK
    subst e1
    by_cases hm : news.length = 0
    · have hn0 : news = [] := List.length_eq_zero_iff.1 hm
      subst hn0
      have hns : ns = [] := List.length_eq_zero_iff.1 (by rw [hnl]; simp)
      subst hns
      have hrun := run_app_room (P := P) (w := w) t2 ty ht hi hiz hsz hbt hzs ad 0 0 hsrc (Nat.le_refl _) w (fun a _ => by rfl) (fun _ => rfl)
      obtain ⟨R', hle⟩ := R.virt e k
      refine ⟨_, _, _, _, _, hrun, ?_, hK, R', hle, fun l p ho _ => ⟨rfl, ho.app _ _⟩⟩
      exact ⟨rfl, _, phiAt_at φ _ _, Nat.zero_le _, fun _ => .inl ⟨rfl, rfl, rfl, ad, rfl⟩⟩
    · obtain ⟨n, C, hn, hC, hF, hS, hrun⟩ := fresh ad 0 0 [] [] (fun e he => by cases he) ⟨by simp, fun i e j x hi => by simp at hi⟩ rfl (reads_nil ad 0) (by omega) (by rw [Nat.zero_add]; exact hby2)
      rw [Nat.zero_add] at hrun hn
      obtain ⟨R', hle⟩ := R.drew.alloc e k n none news C (0, 0) hk0 hC hF hn (fun c hc => by cases hc) hnk (by simpa using hS)
      refine ⟨_, _, _, _, _, hrun, ?_, hK, R', hle, Kept.alloc R.drew _ _ _⟩
      refine ⟨rfl, _, phiAt_at φ _ _, Nat.zero_le _, fun _ => .inr ⟨rfl, ?_⟩⟩
      simp
  unfold appA at H
  split at H
  · cases (show V0 M .nl us from hs)
    exact nilcase none rfl H.1 H.2
  · obtain ⟨ad, hus⟩ : ∃ ad, us = .slice ad 0 0 := by
      cases (show V0 M .emp us from hs) with
      | emp ad => exact ⟨ad, rfl⟩
    exact nilcase ad hus H.1 H.2
  · rename_i es
    obtain ⟨rfl, H⟩ := H
    have hns : ns = [] := List.length_eq_zero_iff.1 (by rw [hnl]; simp)
    subst hns
    have hcs : ∃ ad n cap, us = .slice ad n cap ∧ n ≤ cap := by
      cases (show V0 M (.im es) us from hs) with
      | im0 ad cap => exact ⟨_, _, _, rfl, Nat.zero_le _⟩
      | im _ _ b o cap C hk2 hc hm' hV => exact ⟨_, _, _, rfl, hc⟩
    obtain ⟨ad, n, cap, rfl, hnc⟩ := hcs
    exact ⟨φ, _, _, h, w, run_app_room (P := P) (w := w) t2 ty ht hi hiz hsz hbt hzs ad n cap hsrc hnc w (fun a _ => by rfl) (fun _ => rfl), hs, H, R, Le.refl _, Kept.refl _ _ _ _⟩
  · rename_i l g off len
    obtain ⟨q, hq, H⟩ := H.elim
    obtain ⟨te, tk, tcap, es⟩ := q
    obtain ⟨hte, htk, H⟩ := H
    simp only at hte htk H
    subst hte htk
    have hob : h[l]? = some (.own g te tk tcap es) := objA_spec hq
    have hks : Ks tk es := obj_ks R hq
    obtain ⟨p, hp, hg, hpk, hcase⟩ : ∃ p, φ l = some p ∧ p.g = g ∧ p.k = tk ∧ ((p.vir = true ∧ off = 0 ∧ len = 0 ∧ es = [] ∧ ∃ a, us = .slice a 0 0) ∨ (p.vir = false ∧ us = .slice (some ⟨p.b, off * tk, none⟩) len (p.cap - off))) := sl_at R (objA_R hq) hs
    have hOwn : p.vir = false → Own φ h l p := fun hv => ⟨_, _, _, _, _, hob, hp, hv⟩
    have kept : ∀ (hv : p.vir = false) (w' : World) (q : Pl) (o : AO), (∀ b, b ≠ p.b → w'.heap[b]? = w.heap[b]?) → Kept (toVal (.one (.sl l g off len))) φ (phiAt φ l q) h (h.set l o) w w' := by
      intro hv w' q o hw' l' p' ho' hs'
      have hne : l' ≠ l := by intro e; subst e; simp [toVal] at hs'
      exact ⟨hw' _ (R.inj l' l p' p ho' (hOwn hv) hne), ho'.set hne q o⟩
    have keptA : ∀ (ob : Obj) (q : Pl) (o : AO), Kept (toVal (.one (.sl l g off len))) φ (phiAt φ l q) h (h.set l o) w (w.drew.alloc ob) := by
      intro ob q o l' p' ho' hs'
      have hne : l' ≠ l := by intro e; subst e; simp [toVal] at hs'
      exact ⟨Below.heap_alloc w.drew _ _ (R.own_blk ho'), ho'.set hne q o⟩
    have keptV : ∀ (q : Pl) (o : AO), Kept (toVal (.one (.sl l g off len))) φ (phiAt φ l q) h (h.set l o) w w := by
      intro q o l' p' ho' hs'
      have hne : l' ≠ l := by intro e; subst e; simp [toVal] at hs'
      exact ⟨rfl, ho'.set hne q o⟩
    obtain ⟨p', hp', hpg, hpk2, hlc, hcapc, _, hvz, hnb⟩ := R.obj l _ hob
    rw [hp] at hp'
    cases hp'
    rcases H with ⟨hfit, H⟩ | ⟨rfl, hle, hby2, H⟩ | ⟨rfl, hle, hby2, ⟨c, hc, hclt⟩, H⟩
    · -- in place
      rcases hcase with ⟨hv, rfl, rfl, he, ad, rfl⟩ | ⟨hv, rfl⟩
      · subst he
        have hn0 : news = [] := List.length_eq_zero_iff.1 (by simpa using hfit)
        subst hn0
        have hns : ns = [] := List.length_eq_zero_iff.1 (by rw [hnl]; simp)
        subst hns
        have hrun := run_app_room (P := P) (w := w) t2 ty ht hi hiz hsz hbt hzs ad 0 0 hsrc (Nat.le_refl _) w (fun a _ => by rfl) (fun _ => rfl)
        have hset : h.set l (.own g te tk tcap (cset [] (0 + 0) [])) = h := by
          apply List.ext_getElem?
          intro j
          rw [List.getElem?_set]
          split
          · rename_i e; subst e; rw [if_pos (hlt hob), hob]; rfl
          · rfl
        rw [hset] at H
        exact ⟨φ, _, _, h, w, hrun, hs, H, R, Le.refl _, Kept.refl _ _ _ _⟩
      · obtain ⟨h8, C, fr, h9, h10, h11, h12⟩ := hnb hv
        have hin : (off + len) * tk + ns.length ≤ C.size := by
          rw [hnl, ← Nat.add_mul, h10, hpk]
          exact Nat.mul_le_mul_right _ (by omega)
        have h1 := hnv.one hnk
        have hst := run_store_block (P := P) h9 h11 (o := (off + len) * tk) ns hin h1
        have hrun := run_app_room (P := P) (w := w) t2 ty ht hi hiz hsz hbt hzs (some ⟨p.b, off * tk, none⟩) len (p.cap - off) hsrc (by omega) _ (fun a ha => by cases ha; rw [add_lit, ← Nat.add_mul]; exact hst) (fun hn => by cases hn)
        obtain ⟨s1, s2, s3, s4, s5⟩ := setCells_other p.b ns ((off + len) * tk) w
        have hb := heap_setCells p.b te fr ns ((off + len) * tk) w C.toList (by simpa using h9)
        have hcl : (cset C.toList ((off + len) * tk) ns).toArray.size = C.size := by simp [cset_length]
        have hS : Says φ M tk C es := fun i e j x hi hj => by rw [← hpk]; exact h12 i e j x hi hj
        obtain ⟨R', hle'⟩ := R.write hob hp hv s1 s2 s3 s4 s5 _ fr hb (by rw [hcl, h10]) (okFr_set h11 hin (hnv.one hnk)) p.g (.inl rfl) tcap hcapc (cset es (off + len) news) (by rw [cset_length]; exact hlc) (fun e he => by
            rcases cset_mem he with he | he
            · exact hks e he
            · exact hnk e he) (RowV.csetV hks hnk hS hnv (off + len) hfit hin)
        rw [hpg] at R' hle'
        refine ⟨_, _, _, _, _, hrun, ?_, H, R', hle', kept hv _ _ _ s5⟩
        exact ⟨rfl, _, phiAt_at φ _ _, Nat.le_refl _, fun _ => .inr ⟨hv, by rw [hpk]⟩⟩
    · -- regrown
      rcases hcase with ⟨hv, _, rfl, he, ad, rfl⟩ | ⟨hv, rfl⟩
      · subst he
        by_cases hm : news.length = 0
        · have hn0 : news = [] := List.length_eq_zero_iff.1 hm
          subst hn0
          have hns : ns = [] := List.length_eq_zero_iff.1 (by rw [hnl]; simp)
          subst hns
          have hrun := run_app_room (P := P) (w := w) t2 ty ht hi hiz hsz hbt hzs ad 0 0 hsrc (Nat.le_refl _) w (fun a _ => by rfl) (fun _ => rfl)
          obtain ⟨R', hle'⟩ := R.bumpv hob hp hv
          refine ⟨_, _, _, _, _, hrun, ?_, H, R', hle', keptV _ _⟩
          exact ⟨rfl, _, phiAt_at φ _ _, Nat.le_refl _, fun _ => .inl ⟨rfl, rfl, rfl, ad, rfl⟩⟩
        · obtain ⟨n, C, hn, hC, hF, hS, hrun⟩ := fresh ad 0 0 [] [] (fun e he => by cases he) ⟨by simp, fun i e j x hi => by simp at hi⟩ rfl (reads_nil ad 0) (by omega) hby2
          obtain ⟨R', hle'⟩ := R.drew.regrow hob te tk n news C (0, 0) hk0 hC hF (by omega) hnk (by simpa using hS)
          refine ⟨_, _, _, _, _, hrun, ?_, by simpa using H, R', hle', keptA _ _ _⟩
          refine ⟨rfl, _, phiAt_at φ _ _, Nat.le_refl _, fun _ => .inr ⟨rfl, ?_⟩⟩
          simp
      · obtain ⟨os, hov, hoc⟩ := obj_row R (objA_R hq) (off := 0) (len := len) (by simpa using hle) hp hv
        simp only [List.drop_zero, Nat.zero_mul] at hov hoc
        have hol : (es.take len).length = len := by rw [List.length_take]; omega
        have hok : Ks tk (es.take len) := fun e he => hks e (List.mem_of_mem_take he)
        have hosl : os.length = len * tk := by rw [hov.1, hol]
        have hrd : Reads P w tk len (.slice (some ⟨p.b, 0 * tk, none⟩) len (p.cap - 0)) os := by
          rw [Nat.zero_mul]
          exact reads_slice hosl hoc
        by_cases hroom : len + news.length ≤ p.cap
        · obtain ⟨h8, C, fr, h9, h10, h11, h12⟩ := hnb hv
          have hin : (len * tk) + ns.length ≤ C.size := by
            rw [hnl, ← Nat.add_mul, h10, hpk]
            exact Nat.mul_le_mul_right _ hroom
          have hst := run_store_block (P := P) h9 h11 (o := len * tk) ns hin (hnv.one hnk)
          have hrun := run_app_room (P := P) (w := w) t2 ty ht hi hiz hsz hbt hzs (some ⟨p.b, 0 * tk, none⟩) len (p.cap - 0) hsrc (by omega) _ (fun a ha => by cases ha; rw [add_lit, ← Nat.add_mul, Nat.zero_add]; exact hst) (fun hn => by cases hn)
          obtain ⟨s1, s2, s3, s4, s5⟩ := setCells_other p.b ns (len * tk) w
          have hb := heap_setCells p.b te fr ns (len * tk) w C.toList (by simpa using h9)
          have hcl : (cset C.toList (len * tk) ns).toArray.size = C.size := by simp [cset_length]
          have hS : Says φ M tk (cset C.toList (len * tk) ns).toArray (es.take len ++ news) := by
            refine (hov.app hnk hnv).says _ (fun j v hj => ?_)
            have hjl := (List.getElem?_eq_some_iff.1 hj).1
            rw [List.length_append] at hjl
            rw [List.getElem?_toArray, cset_get _ _ _ _ (by simpa using hin)]
            by_cases hj1 : j < os.length
            · rw [List.getElem?_append_left hj1] at hj
              rw [if_neg (by omega)]
              have := hoc j v hj
              rw [Nat.zero_add, Joins.cell_of_block h9] at this
              simpa using this
            · rw [List.getElem?_append_right (by omega)] at hj
              rw [if_pos (by omega), ← hosl]
              exact hj
          obtain ⟨R', hle'⟩ := R.write hob hp hv s1 s2 s3 s4 s5 _ fr hb (by rw [hcl, h10]) (okFr_set h11 hin (hnv.one hnk)) (g + 1) (.inr (by omega)) none (fun c hc => by cases hc) (es.take len ++ news) (by rw [List.length_append, hol]; exact hroom) (fun e he => by
              rcases List.mem_append.1 he with he | he
              · exact hok e he
              · exact hnk e he) hS
          refine ⟨_, _, _, _, _, hrun, ?_, H, R', hle', kept hv _ _ _ s5⟩
          exact ⟨rfl, _, phiAt_at φ _ _, Nat.le_refl _, fun _ => .inr ⟨hv, by simp⟩⟩
        · obtain ⟨n, C, hn, hC, hF, hS, hrun⟩ := fresh _ len _ (es.take len) os hok hov hol hrd (by omega) hby2
          obtain ⟨R', hle'⟩ := R.drew.regrow hob te tk n (es.take len ++ news) C (0, 0) hk0 hC hF (by rw [List.length_append, hol]; exact hn) (fun e he => by
              rcases List.mem_append.1 he with he | he
              · exact hok e he
              · exact hnk e he) hS
          refine ⟨_, _, _, _, _, hrun, ?_, H, R', hle', keptA _ _ _⟩
          refine ⟨rfl, _, phiAt_at φ _ _, Nat.le_refl _, fun _ => .inr ⟨rfl, ?_⟩⟩
          simp
    · -- a new row, the old one stays
      have hpc := hcapc c hc
      rcases hcase with ⟨hv, _, rfl, he, ad, rfl⟩ | ⟨hv, rfl⟩
      · subst he
        obtain ⟨n, C, hn, hC, hF, hS, hrun⟩ := fresh ad 0 0 [] [] (fun e he => by cases he) ⟨by simp, fun i e j x hi => by simp at hi⟩ rfl (reads_nil ad 0) (by omega) hby2
        obtain ⟨R', hle'⟩ := R.drew.alloc te tk n none news C (0, 0) hk0 hC hF (by omega) (fun c hc => by cases hc) hnk (by simpa using hS)
        refine ⟨_, _, _, _, _, hrun, ?_, by simpa using H, R', hle', Kept.alloc R.drew _ _ _⟩
        refine ⟨rfl, _, phiAt_at φ _ _, Nat.zero_le _, fun _ => .inr ⟨rfl, ?_⟩⟩
        simp
      · obtain ⟨os, hov, hoc⟩ := obj_row R (objA_R hq) (off := 0) (len := len) (by simpa using hle) hp hv
        simp only [List.drop_zero, Nat.zero_mul] at hov hoc
        have hol : (es.take len).length = len := by rw [List.length_take]; omega
        have hok : Ks tk (es.take len) := fun e he => hks e (List.mem_of_mem_take he)
        have hosl : os.length = len * tk := by rw [hov.1, hol]
        have hrd : Reads P w tk len (.slice (some ⟨p.b, 0 * tk, none⟩) len (p.cap - 0)) os := by
          rw [Nat.zero_mul]
          exact reads_slice hosl hoc
        obtain ⟨n, C, hn, hC, hF, hS, hrun⟩ := fresh _ len _ (es.take len) os hok hov hol hrd (by omega) hby2
        obtain ⟨R', hle'⟩ := R.drew.alloc te tk n none (es.take len ++ news) C (0, 0) hk0 hC hF (by rw [List.length_append, hol]; exact hn) (fun c hc => by cases hc) (fun e he => by
            rcases List.mem_append.1 he with he | he
            · exact hok e he
            · exact hnk e he) hS
        refine ⟨_, _, _, _, _, hrun, ?_, H, R', hle', Kept.alloc R.drew _ _ _⟩
        refine ⟨rfl, _, phiAt_at φ _ _, Nat.zero_le _, fun _ => .inr ⟨rfl, ?_⟩⟩
        simp
  · exact H.elim
end
end Go.BL
end
section
namespace Go.BL
open Go.RowKit
set_option linter.unusedVariables false
set_option linter.unusedSimpArgs false
section
variable {P : Program} {G : Cx} {φ : Phi} {M : Im} {h : AH} {w : World} {f : AF} {n : Nat} {a : Act} {S : Nat → Bool} {K : AV → AH → Prop} {next : Act → World → Prop} {Q : Exit → Act → World → Prop}
theorem boundA_spec {d : Nat} {x : Option AV} {i : Nat} (hx : boundA d x = some i) : (x = none ∧ i = d) ∨ ∃ k q, x = some (.one (.c (.int k q))) ∧ 0 ≤ q ∧ i = q.toNat := by
  unfold boundA at hx
  split at hx
  · cases hx; exact .inl ⟨rfl, rfl⟩
  · split at hx
    · rename_i k q h0
      cases hx
      exact .inr ⟨_, _, rfl, h0, rfl⟩
    · cases hx
  · cases hx
theorem run_bound {x : Option Operand} (E : ∀ y, x = some y → VA φ M (ev f y) (a.eval y)) (d i : Nat) (hx : boundA d (x.map (ev f)) = some i) (y : Nat) (hy : i ≤ y) (code : BoundsCode) (w : World) :
    (match x.map a.eval with | some v => Instr.sliceBound v y code | none => pure d).run P w = .ok i w := by
  rcases boundA_spec hx with ⟨h1, rfl⟩ | ⟨k, q, h1, h0, rfl⟩
  · cases x with
    | none => rfl
    | some z => cases h1
  · cases x with
    | none => cases h1
    | some z =>
      have e := E z rfl
      simp only [Option.map_some, Option.some.injEq] at h1
      rw [h1] at e
      have e := VA_c e
      simp only [Option.map_some, e, Instr.sliceBound, asIntOf, Sem.run_bind, Sem.run_pure, Result.andThen_ok]
      rw [if_pos ⟨h0, by omega⟩]
      rfl
theorem Vs.cset {cs vs : List CV} {us ws : List Value} (H : Vs φ M cs us) (H' : Vs φ M vs ws) (o : Nat) (hfit : o + vs.length ≤ cs.length) : Vs φ M (cset cs o vs) (BL.cset us o ws) := by
  have h1 := H.1
  have h2 := H'.1
  refine ⟨by rw [cset_length, cset_length, h1], fun j x hj => ?_⟩
  rw [cset_get _ _ _ _ hfit] at hj
  rw [cset_get _ _ _ _ (by omega), h2]
  split
  · rename_i hc
    rw [if_pos hc] at hj
    exact H'.2 _ x hj
  · rename_i hc
    rw [if_neg hc] at hj
    exact H.2 _ x hj
theorem fold_set (off : Nat) : ∀ (vs : List Value) (j : Nat) (C : Array Value), (vs.zipIdx j).foldl (fun cs (x : Value × Nat) => cs.setIfInBounds (off + x.2) x.1) C = (cset C.toList (off + j) vs).toArray
  | [], j, C => by simp [cset]
  | v :: r, j, C => by
    rw [List.zipIdx_cons, List.foldl_cons, fold_set off r (j + 1), cset]
    simp [Nat.add_assoc]
def PartsV (φ : Phi) (M : Im) (ps : List (Nat × List CV)) (qs : List (Nat × Value)) : Prop := ps.map (·.1) = qs.map (·.1) ∧ ∀ (i : Nat) (p : Nat × List CV) (q : Nat × Value), ps[i]? = some p → qs[i]? = some q → ∃ us, q.2.cells = us.toArray ∧ Vs φ M p.2 us
theorem PartsV.tail {p : Nat × List CV} {q : Nat × Value} {ps : List (Nat × List CV)} {qs : List (Nat × Value)} (H : PartsV φ M (p :: ps) (q :: qs)) : p.1 = q.1 ∧ PartsV φ M ps qs := by
  obtain ⟨h1, h2⟩ := H
  simp only [List.map_cons, List.cons.injEq] at h1
  exact ⟨h1.1, h1.2, fun i p' q' hp hq => h2 (i + 1) p' q' (by simpa using hp) (by simpa using hq)⟩
theorem fill_of (place : Nat → Option (Nat × Nat)) : ∀ (ps : List (Nat × List CV)) (qs : List (Nat × Value)) (cs cs' : List CV) (us : List Value), PartsV φ M ps qs → Vs φ M cs us → fillA place cs ps = some cs' → ∃ us', Instr.fill place us.toArray qs = some us'.toArray ∧ Vs φ M cs' us'
  | [], [], cs, cs', us, _, hus, hf => by simp [fillA] at hf; subst hf; exact ⟨us, by simp [Instr.fill], hus⟩
  | [], _ :: _, _, _, _, h, _, _ => by have := h.1; simp at this
  | _ :: _, [], _, _, _, h, _, _ => by have := h.1; simp at this
  | (i, v) :: r, (i', q) :: r', cs, cs', us, hp, hus, hf => by
    obtain ⟨he, ht⟩ := hp.tail
    simp only at he
    subst he
    obtain ⟨qs, hq, hqv⟩ := hp.2 0 (i, v) (i, q) rfl rfl
    simp only at hq hqv
    simp only [fillA] at hf
    split at hf
    · cases hf
    · rename_i off size hpl
      split at hf
      · rename_i hc
        obtain ⟨hc1, hc2⟩ := hc
        have h1 := hus.1
        have h2 := hqv.1
        simp only [Instr.fill, hpl]
        rw [if_neg (by simp [hq, h2, hc1]; omega)]
        obtain ⟨us', h3, h4⟩ := fill_of place r r' (cset cs off v) cs' (cset us off qs) ht (hus.cset hqv off (by omega)) hf
        refine ⟨us', ?_, h4⟩
        rw [hq]
        have hfs := fold_set off qs 0 us.toArray
        simp only [Nat.add_zero] at hfs
        have e : (qs.toArray.zipIdx.foldl (fun cs (x : Value × Nat) => cs.setIfInBounds (off + x.2) x.1) us.toArray) = (cset us off qs).toArray := by
          rw [← hfs]
          simp
        rw [← h3]
        exact congrArg (fun x => Instr.fill place x r') e
      · cases hf
theorem partsA_spec : ∀ (parts : List (Nat × Operand)) (ps : List (Nat × List CV)) (_ : ∀ x, x ∈ parts.map (·.2) → VA φ M (ev f x) (a.eval x)), partsA f parts = some ps → PartsV φ M ps (parts.map fun p => (p.1, a.eval p.2))
  | [], ps, _, hp => by
    simp [partsA] at hp
    subst hp
    exact ⟨rfl, fun i p q h => by simp at h⟩
  | (i, x) :: r, ps, E, hp => by
    simp only [partsA] at hp
    split at hp
    · rename_i cs q hc hq
      cases hp
      obtain ⟨h1, h2⟩ := partsA_spec r q (fun y hy => E y (by simp at hy ⊢; exact .inr hy)) hq
      refine ⟨by simp at h1 ⊢; exact h1, fun j p q hj hq => ?_⟩
      cases j with
      | zero =>
        simp at hj hq
        subst hj hq
        exact cellsA_V hc (E x (by simp))
      | succ j => exact h2 j p q (by simpa using hj) (by simpa using hq)
    · cases hp
theorem build_sound (dst : Option Tmp) (ty : TypeId) (pos : String) (aft : Array Edge) (guard : Option (Nat × Bool)) (t : TypeId) (parts : Array (Nat × Operand)) (R : Rep G φ M h w)
    (E : ∀ x, x ∈ parts.toList.map (·.2) → VA φ M (ev f x) (a.eval x)) (H : aop P (.build t parts) f h K) (A : After G φ M h w a S dst K next) :
    Oper.wp P ⟨dst, .build t parts, ty, pos, aft, guard⟩ a w next Q := by
  simp only [aop] at H
  obtain ⟨pl, hpl, H⟩ := H.elim
  obtain ⟨z, hz, H⟩ := H.elim
  obtain ⟨ps, hps, H⟩ := H.elim
  obtain ⟨cs, hcs, H⟩ := H.elim
  obtain ⟨i, v, hi, hiv, hzv, hz1⟩ := zeroA_spec hz
  have hp := partsA_spec (φ := φ) (M := M) (a := a) parts.toList ps E hps
  obtain ⟨us', hf, hv⟩ := fill_of (pl[·]?) ps _ z cs v.cells.toList hp (by rw [hzv]; exact Vs_cvOf _ hz1) hcs
  have hq : (parts.toList.map fun p => (p.1, a.eval p.2)) = (parts.map fun (i, x) => (i, a.eval x)).toList := by simp
  rw [hq] at hf
  have hb : P.built t (parts.map fun (i, x) => (i, a.eval x)).toList = some us'.toArray := by
    unfold placesA at hpl
    split at hpl
    · rename_i fs hfs
      simp only [Program.built, hi, hfs, hiv, hpl]
      simpa using hf
    · cases hpl
  have hr := run_build (P := P) w t _ _ hb
  simp only [Oper.wp, execOp, Sem.run_bind, hr, Sem.run_pure, Result.andThen_ok, Oper.upon]
  exact A.val (v := .agg cs) R H ⟨us', rfl, hv⟩
theorem flat_get {k : Nat} : ∀ {es : List (List CV)}, Ks k es → ∀ {i j : Nat} {e : List CV} {x : CV}, es[i]? = some e → e[j]? = some x → es.flatten[i * k + j]? = some x
  | [], _, i, j, e, x, hi, _ => by simp at hi
  | e0 :: r, hk, 0, j, e, x, hi, hj => by
    simp at hi
    subst hi
    rw [Nat.zero_mul, Nat.zero_add, List.flatten_cons, List.getElem?_append_left (List.getElem?_eq_some_iff.1 hj).1]
    exact hj
  | e0 :: r, hk, i + 1, j, e, x, hi, hj => by
    have h0 : e0.length = k := hk e0 (by simp)
    rw [List.flatten_cons, List.getElem?_append_right (by rw [Nat.succ_mul]; omega), h0, show (i + 1) * k + j - k = i * k + j by rw [Nat.succ_mul]; omega]
    exact flat_get (fun e he => hk e (List.mem_cons_of_mem _ he)) (by simpa using hi) hj
theorem flat_len {k : Nat} : ∀ {es : List (List CV)}, Ks k es → es.flatten.length = es.length * k
  | [], _ => by simp
  | e0 :: r, hk => by
    rw [List.flatten_cons, List.length_append, flat_len (fun e he => hk e (List.mem_cons_of_mem _ he)), hk e0 (by simp), List.length_cons, Nat.succ_mul, Nat.add_comm]
theorem flat_set {k : Nat} {v : List CV} (hv : v.length = k) : ∀ {es : List (List CV)}, Ks k es → ∀ {i : Nat}, i < es.length → (es.set i v).flatten = cset es.flatten (i * k) v
  | es, hk, i, hi => by
    have hk2 : Ks k (es.set i v) := fun e he => by
      rcases List.mem_or_eq_of_mem_set he with he | rfl
      · exact hk e he
      · exact hv
    have hfit : i * k + v.length ≤ es.flatten.length := by
      rw [flat_len hk, hv, ← Nat.succ_mul]
      exact Nat.mul_le_mul_right k hi
    apply List.ext_getElem?
    intro q
    by_cases hq : q < es.length * k
    · obtain ⟨a, b, ha, hb, rfl⟩ := place_of hq
      have hel : es[a].length = k := hk _ (List.getElem_mem ha)
      rw [cset_get _ _ _ _ hfit, hv]
      by_cases e : a = i
      · subst e
        rw [if_pos (by omega), show a * k + b - a * k = b by omega]
        have h1 : (es.set a v)[a]? = some v := List.getElem?_set_self hi
        rw [flat_get hk2 h1 (List.getElem?_eq_getElem (by omega : b < v.length))]
        exact (List.getElem?_eq_getElem (by omega)).symm
      · have h1 : (es.set i v)[a]? = some es[a] := by rw [List.getElem?_set_ne (Ne.symm e)]; exact List.getElem?_eq_getElem ha
        have h2 := flat_get hk2 h1 (List.getElem?_eq_getElem (by omega : b < es[a].length))
        have h3 := flat_get hk (List.getElem?_eq_getElem ha) (List.getElem?_eq_getElem (by omega : b < es[a].length))
        rw [if_neg (fun q => e (by
          have := place_ne (k := k) (i := a) (j := b) (i' := i) (j' := a * k + b - i * k) hb (by omega) (by omega)
          exact this.1)), h2, h3]
    · rw [List.getElem?_eq_none (by rw [flat_len hk2, List.length_set]; omega), List.getElem?_eq_none (by rw [cset_length, flat_len hk]; omega)]
theorem fillE_flat {k : Nat} : ∀ (ps : List (Nat × List CV)) (es es' : List (List CV)), Ks k es → fillE k es ps = some es' → Ks k es' ∧ es'.length = es.length ∧ fillA (fun i => some (i * k, k)) es.flatten ps = some es'.flatten
  | [], es, es', hk, h => by simp [fillE] at h; subst h; exact ⟨hk, rfl, rfl⟩
  | (i, v) :: r, es, es', hk, h => by
    simp only [fillE] at h
    split at h
    · rename_i hc
      obtain ⟨hc1, hc2⟩ := hc
      have hk2 : Ks k (es.set i v) := fun e he => by
        rcases List.mem_or_eq_of_mem_set he with he | rfl
        · exact hk e he
        · exact hc1
      obtain ⟨h1, h2, h3⟩ := fillE_flat r _ es' hk2 h
      refine ⟨h1, by rw [h2, List.length_set], ?_⟩
      have hfit : i * k + k ≤ es.flatten.length := by
        rw [flat_len hk, ← Nat.succ_mul]
        exact Nat.mul_le_mul_right k hc2
      simp only [fillA]
      rw [if_pos ⟨hc1, hfit⟩, ← flat_set hc1 hk hc2]
      exact h3
    · cases h
theorem Vs_flat {k : Nat} {es : List (List CV)} {us : List Value} (hk : Ks k es) (H : Vs φ M es.flatten us) : RowV φ M k es us := by
  refine ⟨by rw [H.1, flat_len hk], fun i e j x hi hj => H.2 _ x (flat_get hk hi hj)⟩
theorem flat_Vs {k : Nat} {es : List (List CV)} {us : List Value} (hk : Ks k es) (H : RowV φ M k es us) : Vs φ M es.flatten us := by
  refine ⟨by rw [H.1, flat_len hk], fun q x hq => ?_⟩
  have hql := (List.getElem?_eq_some_iff.1 hq).1
  rw [flat_len hk] at hql
  obtain ⟨i, j, hi, hj, rfl⟩ := place_of hql
  have hel : es[i].length = k := hk _ (List.getElem_mem hi)
  have h1 := flat_get hk (List.getElem?_eq_getElem hi) (List.getElem?_eq_getElem (by omega : j < es[i].length))
  rw [hq] at h1
  cases h1
  exact H.2 i _ j _ (List.getElem?_eq_getElem hi) (List.getElem?_eq_getElem (by omega))
theorem bytesRow_one {s : ByteArray} {c i : Nat} {v : Value} (hv : (bytesRow s c)[i]? = some v) : v.oneCell' = true := by
  have hm := Array.mem_of_getElem? hv
  unfold bytesRow at hm
  rcases Array.mem_append.1 hm with hm | hm
  · obtain ⟨b, _, rfl⟩ := Array.mem_map.1 hm; rfl
  · rw [(Array.mem_replicate.1 hm).2]; rfl
theorem buildSlice_sound (dst : Option Tmp) (ty : TypeId) (pos : String) (aft : Array Edge) (guard : Option (Nat × Bool)) (t : TypeId) (len : Nat) (parts : Array (Nat × Operand)) (R : Rep G φ M h w)
    (E : ∀ x, x ∈ parts.toList.map (·.2) → VA φ M (ev f x) (a.eval x)) (H : aop P (.buildSlice t len parts) f h K) (A : After G φ M h w a S dst K next) :
    Oper.wp P ⟨dst, .buildSlice t len parts, ty, pos, aft, guard⟩ a w next Q := by
  simp only [aop] at H
  obtain ⟨e, he, H⟩ := H.elim
  obtain ⟨k, hk, H⟩ := H.elim
  obtain ⟨z, hz, H⟩ := H.elim
  obtain ⟨ps, hps, H⟩ := H.elim
  obtain ⟨hzk, hk0, hlk, H⟩ := H
  obtain ⟨es, hes, H⟩ := H.elim
  obtain ⟨i, v, hi, hiv, hzv, hz1⟩ := zeroA_spec hz
  have ht := elemA_spec he
  have hsz : i.size = k := by unfold sizeA at hk; rw [hi] at hk; simpa using hk
  have hp := partsA_spec (φ := φ) (M := M) (a := a) parts.toList ps E hps
  obtain ⟨hzks, hzrow⟩ := zero_row (φ := φ) (M := M) hzv hz1 hzk len
  obtain ⟨hek, hel, hfl⟩ := fillE_flat ps _ es hzks hes
  rw [List.length_replicate] at hel
  obtain ⟨us', hf, hv⟩ := fill_of (fun i => some (i * k, k)) ps _ _ es.flatten _ hp (flat_Vs hzks hzrow) hfl
  have hq : (parts.toList.map fun p => (p.1, a.eval p.2)) = (parts.map fun (i, x) => (i, a.eval x)).toList := by simp
  rw [hq] at hf
  have hrow := Vs_flat hek hv
  have hvs : v.cells.size = k := by rw [← hzk, hzv]; simp
  have hr : (Instr.buildSlice t len (parts.map fun (i, x) => (i, a.eval x))).run P w = .ok (.slice (some ⟨w.heap.size, 0, none⟩) len len) (w.alloc (.cells us'.toArray e)) := by
    subst hsz
    by_cases hl0 : len = 0
    · subst hl0
      have hu0 : us' = [] := List.length_eq_zero_iff.1 (by rw [hrow.1, hel]; simp)
      subst hu0
      simp only [Builtin.zeroCells, Nat.zero_mul] at hf
      simp only [Instr.buildSlice, Sem.run_bind, run_underlying ht, Result.andThen_ok, sizeOf, typeInfo, run_program, hi, Sem.run_pure, Nat.zero_mul]
      have hr0 : ∀ (g : Nat → Value), (Array.range 0).map g = #[] := fun g => by simp
      rw [hr0] at hf
      rw [if_neg (by decide), if_pos trivial]
      simp only [Array.toArray_toList] at hf
      simp only [Sem.run_bind, Sem.run_pure, Result.andThen_ok, hr0, hf, newRow, run_newObj_alloc]
    · have hne : ¬ len * i.size = 0 := Nat.ne_of_gt (Nat.mul_pos (Nat.pos_of_ne_zero hl0) hk0)
      have hn24 : ¬ (len * i.size > 2 ^ 24) := by rw [show (2 : Nat) ^ 24 = 16777216 from rfl]; omega
      simp only [Builtin.zeroCells, hvs, Array.toArray_toList] at hf
      simp only [Instr.buildSlice, Sem.run_bind, run_underlying ht, Result.andThen_ok, sizeOf, typeInfo, run_program, hi, Sem.run_pure]
      rw [if_neg hn24, if_neg hne]
      simp only [Sem.run_bind, Sem.run_pure, Result.andThen_ok, zeroValue, typeInfo, run_program, hi, hiv, hvs, hf, newRow, run_newObj_alloc]
  obtain ⟨R', hle⟩ := R.alloc e k len (some len) es us'.toArray (0, 0) hk0 (by rw [List.size_toArray, hrow.1, hel]) (okFr_mem (hrow.one hek)) (by omega) (fun c hc => by cases hc; rfl) hek (hrow.says _ (fun j v hj => by simpa using hj))
  simp only [Oper.wp, execOp, Sem.run_bind, hr, Sem.run_pure, Result.andThen_ok, Oper.upon]
  refine A _ _ _ _ _ _ H R' hle (MLe.refl _) ?_ (Kept.alloc R _ _ _)
  exact ⟨rfl, _, phiAt_at φ _ _, Nat.zero_le _, fun _ => .inr ⟨rfl, by simp⟩⟩
theorem makeSlice_sound (dst : Option Tmp) (ty : TypeId) (pos : String) (aft : Array Edge) (guard : Option (Nat × Bool)) (t : TypeId) (l c : Operand) (R : Rep G φ M h w)
    (el : VA φ M (ev f l) (a.eval l)) (ec : VA φ M (ev f c) (a.eval c)) (H : aop P (.makeSlice t l c) f h K) (A : After G φ M h w a S dst K next) :
    Oper.wp P ⟨dst, .makeSlice t l c, ty, pos, aft, guard⟩ a w next Q := by
  simp only [aop] at H
  obtain ⟨e, he, H⟩ := H.elim
  obtain ⟨k, hk, H⟩ := H.elim
  obtain ⟨z, hz, H⟩ := H.elim
  obtain ⟨by_, hby, H⟩ := H.elim
  obtain ⟨n, hn, H⟩ := H.elim
  obtain ⟨n2, hn2, H⟩ := H.elim
  obtain ⟨hnn, hzk, hk0, hbn, hnm, H⟩ := H
  obtain ⟨i, v, hi, hiv, hzv, hz1⟩ := zeroA_spec hz
  have ht := elemA_spec he
  have hsz : i.size = k := by unfold sizeA at hk; rw [hi] at hk; simpa using hk
  have hbt : i.bytes = by_ := by unfold bytesA at hby; rw [hi] at hby; simpa using hby
  rcases boundA_spec hn with ⟨h', _⟩ | ⟨k1, q1, hx1, h10, h11⟩
  · cases h'
  rcases boundA_spec hn2 with ⟨h', _⟩ | ⟨k2, q2, hx2, h20, h21⟩
  · cases h'
  have hx1 := Option.some.inj hx1
  have hx2 := Option.some.inj hx2
  rw [hx1] at el
  rw [hx2] at ec
  have el := VA_c el
  have ec := VA_c ec
  have hbb : (i.bytes : Int) * q2 ≤ 281474976710656 := by
    have h2 : (n2 : Int) = q2 := by omega
    have h3 : (i.bytes : Int) * q2 = ((by_ * n2 : Nat) : Int) := by rw [hbt, ← h2]; exact (Int.natCast_mul _ _).symm
    rw [h3]
    generalize by_ * n2 = p at hbn ⊢
    omega
  have hr := run_make (P := P) (w := w) t e i v ht hi hiv k1 k2 q1 q2 h10 (by omega) hbb (by unfold maxLen at hnm; omega)
  have hvs : v.cells.size = k := by rw [← hzk, hzv]; simp
  obtain ⟨hzks, hzrow⟩ := zero_row (φ := φ) (M := M) hzv hz1 hzk n2
  have hzc : madeCells v.cells (n2 * k) = Builtin.zeroCells v.cells n2 := by simp [madeCells, Builtin.zeroCells, hvs]
  rw [hsz, ← h21, ← h11, hzc] at hr
  have hzr : Says φ M k (Builtin.zeroCells v.cells n2) (List.replicate n z) := fun i e j x hi hj => by
    rw [List.getElem?_replicate] at hi
    split at hi
    · rename_i hin
      obtain ⟨u, h1, h2⟩ := hzrow.2 i e j x (by rw [List.getElem?_replicate, if_pos (by omega)]; exact hi) hj
      exact ⟨u, by simpa using h1, h2⟩
    · cases hi
  obtain ⟨R', hle⟩ := R.alloc e k n2 (some n2) (List.replicate n z) (Builtin.zeroCells v.cells n2) (0, 0) hk0 (by simp [Builtin.zeroCells, hvs]) ⟨.inl (Nat.le_refl _), fun i v hv => hzrow.one hzks v (by simpa using Array.mem_of_getElem? hv)⟩ (by simpa using hnn) (fun c hc => by cases hc; rfl) (fun e he => by rw [(List.mem_replicate.1 he).2, hzk]) hzr
  simp only [Oper.wp, execOp, el, ec, Sem.run_bind, hr, Sem.run_pure, Result.andThen_ok, Oper.upon]
  refine A _ _ _ _ _ _ H R' hle (MLe.refl _) ?_ (Kept.alloc R _ _ _)
  exact ⟨rfl, _, phiAt_at φ _ _, Nat.zero_le _, fun _ => .inr ⟨rfl, by simp⟩⟩
theorem ptrs_of (R : Rep G φ M h w) {xs : List Operand} {ls : List Nat} (E : ∀ x, x ∈ xs → VA φ M (ev f x) (a.eval x))
    (hm : (xs.mapM fun x => match ev f x with | .one (.pt l 0 0 0) => if (objA h l 0).isSome = true then some l else none | _ => none) = some ls) : (xs.map a.eval).length = ls.length ∧ ∀ (j l : Nat), ls[j]? = some l → ∃ v, (xs.map a.eval)[j]? = some v ∧ Vp φ l 0 0 0 v := by
  induction xs generalizing ls with
  | nil => simp at hm; subst hm; exact ⟨rfl, fun j l hl => by simp at hl⟩
  | cons x r ih =>
    rw [List.mapM_cons] at hm
    simp only [Option.bind_eq_bind, Option.pure_def] at hm
    obtain ⟨l, hl, hm⟩ := Option.bind_eq_some_iff.1 hm
    obtain ⟨ls', hls, hm⟩ := Option.bind_eq_some_iff.1 hm
    cases hm
    obtain ⟨h1, h2⟩ := ih (fun y hy => E y (List.mem_cons_of_mem _ hy)) hls
    have ex := E x (by simp)
    split at hl
    · rename_i l' hx
      split at hl
      · cases hl
        rw [hx] at ex
        refine ⟨by simp at h1 ⊢; exact h1, fun j l hj => ?_⟩
        rcases j with _ | j
        · simp at hj
          subst hj
          exact ⟨_, rfl, ex⟩
        · exact h2 j l (by simpa using hj)
      · cases hl
    · cases hl
theorem makeFunc_sound (dst : Option Tmp) (ty : TypeId) (pos : String) (aft : Array Edge) (guard : Option (Nat × Bool)) (fn : Fn) (first captured : Array Operand) (R : Rep G φ M h w)
    (E : ∀ x, x ∈ captured.toList → VA φ M (ev f x) (a.eval x)) (H : aop P (.makeFunc fn first captured) f h K) (A : After G φ M h w a S dst K next) :
    Oper.wp P ⟨dst, .makeFunc fn first captured, ty, pos, aft, guard⟩ a w next Q := by
  simp only [aop] at H
  split at H
  · rename_i g
    obtain ⟨hf0, H0⟩ := H
    obtain ⟨ls, hls, H⟩ := H0.elim
    obtain ⟨h1, h2⟩ := ptrs_of R E hls
    have hfirst : first = #[] := Array.eq_empty_of_size_eq_zero hf0
    subst hfirst
    have e2 : (captured.toList.map a.eval).toArray = captured.map a.eval := by apply Array.toList_inj.1; simp
    have := A.val (v := .one (.clo g ls)) (u := .func (.func g) #[] (captured.toList.map a.eval).toArray) R H ⟨_, rfl, h1, h2⟩
    simp only [Oper.wp, execOp, Instr.makeFunc, Sem.run_bind, Sem.run_pure, Result.andThen_ok, Oper.upon]
    rw [e2] at this
    simpa using this
  · exact H.elim
theorem slice_sound (dst : Option Tmp) (ty : TypeId) (pos : String) (aft : Array Edge) (guard : Option (Nat × Bool)) (t : TypeId) (x : Operand) (lo hi mx : Option Operand) (R : Rep G φ M h w)
    (E : ∀ y, y ∈ (Op.slice t x lo hi mx).operands → VA φ M (ev f y) (a.eval y)) (H : aop P (.slice t x lo hi mx) f h K) (A : After G φ M h w a S dst K next) :
    Oper.wp P ⟨dst, .slice t x lo hi mx, ty, pos, aft, guard⟩ a w next Q := by
  simp only [Op.operands] at E
  have ex := E x (by simp)
  have elo : ∀ y, lo = some y → VA φ M (ev f y) (a.eval y) := fun y hy => E y (by simp [hy])
  have ehi : ∀ y, hi = some y → VA φ M (ev f y) (a.eval y) := fun y hy => E y (by simp [hy])
  have emx : ∀ y, mx = some y → VA φ M (ev f y) (a.eval y) := fun y hy => E y (by simp [hy])
  have bounds : ∀ (b : Bool) (len cap i j : Nat) (m : Nat), boundA 0 (lo.map (ev f)) = some i → boundA len (hi.map (ev f)) = some j → boundA cap (mx.map (ev f)) = some m → i ≤ j → j ≤ m → m ≤ cap → (mx.isSome = true → hi.isSome = true) →
      (Instr.sliceBounds b len cap (lo.map a.eval) (hi.map a.eval) (mx.map a.eval)).run P w = .ok (i, j, m) w := by
    intro b len cap i j m h1 h2 h3 hij hjm hmc hmh
    have r1 := fun code => run_bound (P := P) elo _ _ h1 j hij code w
    have r2 := fun code => run_bound (P := P) ehi _ _ h2 m hjm code w
    have r3 := fun code => run_bound (P := P) emx _ _ h3 cap hmc code w
    unfold Instr.sliceBounds
    cases mx with
    | none =>
      simp [boundA] at h3
      subst h3
      cases hi with
      | none =>
        simp [boundA] at h2
        subst h2
        cases lo with
        | none => simp [boundA] at h1; subst h1; simp
        | some y => simp only [Option.map_some, Option.map_none] at r1 ⊢; simp [r1]
      | some y2 =>
        simp only [Option.map_some, Option.map_none] at r2 ⊢
        cases lo with
        | none => simp [boundA] at h1; subst h1; simp [r2]
        | some y => simp only [Option.map_some, Option.map_none] at r1 ⊢; simp [r1, r2]
    | some y3 =>
      cases hi with
      | none => simp at hmh
      | some y2 =>
        simp only [Option.map_some, Option.map_none] at r2 r3 ⊢
        cases lo with
        | none => simp [boundA] at h1; subst h1; simp [r2, r3]
        | some y => simp only [Option.map_some, Option.map_none] at r1 ⊢; simp [r1, r2, r3]
  -- a concrete slice, cut
  have cut : ∀ (e : TypeId) (k : Nat) (ad : Option Addr) (len cap i j m : Nat), elemA P t = some e → sizeA P e = some k → a.eval x = .slice ad len cap → boundA 0 (lo.map (ev f)) = some i → boundA len (hi.map (ev f)) = some j → boundA cap (mx.map (ev f)) = some m → i ≤ j → j ≤ m → m ≤ cap → (mx.isSome = true → hi.isSome = true) →
      next (a.put dst (.slice (if m = i then ad else ad.map (·.add (i * k))) (j - i) (m - i))) w → Oper.wp P ⟨dst, .slice t x lo hi mx, ty, pos, aft, guard⟩ a w next Q := by
    intro e k ad len cap i j m he hk eu h1 h2 h3 hij hjm hmc hmh hn
    have hu := elemA_spec he
    have hb := bounds true len cap i j m h1 h2 h3 hij hjm hmc hmh
    simp only [Oper.wp, execOp, Instr.sliceAt, Instr.slice, eu, Sem.run_bind, run_underlying hu, Result.andThen_ok, hb, run_sizeA hk, Sem.run_pure, Oper.upon]
    exact hn
  simp only [aop] at H
  split at H
  · rename_i s hx
    obtain ⟨hs, hmx, H0⟩ := H
    obtain ⟨i, hi', H1⟩ := H0.elim
    obtain ⟨j, hj', H2⟩ := H1.elim
    obtain ⟨hij, hjs, H3⟩ := H2
    have hmx0 : mx = none := by cases mx with
      | none => rfl
      | some _ => simp at hmx
    subst hmx0
    have hb := bounds false s.size s.size i j s.size hi' hj' rfl hij hjs (Nat.le_refl _) (fun h => by simp at h)
    rw [hx] at ex
    have ex := VA_c ex
    have hu := strA_spec hs
    simp only [Option.map_none] at hb
    simp only [Oper.wp, execOp, Instr.sliceAt, Instr.slice, ex, Sem.run_bind, run_underlying hu, Result.andThen_ok, Option.map_none, Option.isSome_none, hb, Sem.run_pure, Oper.upon, Bool.false_eq_true, if_false]
    exact A.val (v := .one (.c (.string (s.extract i j)))) R H3 rfl
  · rename_i hx
    obtain ⟨e, he, H⟩ := H.elim
    obtain ⟨hsz, H0⟩ := H
    obtain ⟨sz, hsz⟩ := Option.isSome_iff_exists.1 hsz
    obtain ⟨i, hi', H1⟩ := H0.elim
    obtain ⟨j, hj', H2⟩ := H1.elim
    obtain ⟨m, hm', H3⟩ := H2.elim
    obtain ⟨rfl, rfl, rfl, hmh, H4⟩ := H3
    rw [hx] at ex
    have hex : a.eval x = .slice none 0 0 := by
      generalize a.eval x = ux at ex
      cases (show V0 M .nl ux from ex)
      rfl
    exact cut e sz none 0 0 0 0 0 he hsz hex hi' hj' hm' (Nat.le_refl _) (Nat.le_refl _) (Nat.le_refl _) hmh (A.val (v := .one .nl) R H4 V0.nl)
  · rename_i hx
    obtain ⟨e, he, H⟩ := H.elim
    obtain ⟨hsz, H0⟩ := H
    obtain ⟨sz, hsz⟩ := Option.isSome_iff_exists.1 hsz
    obtain ⟨i, hi', H1⟩ := H0.elim
    obtain ⟨j, hj', H2⟩ := H1.elim
    obtain ⟨m, hm', H3⟩ := H2.elim
    obtain ⟨rfl, rfl, rfl, hmh, H4⟩ := H3
    rw [hx] at ex
    have hex : ∃ ad, a.eval x = .slice ad 0 0 := by
      generalize a.eval x = ux at ex
      cases (show V0 M .emp ux from ex) with
      | emp ad => exact ⟨ad, rfl⟩
    obtain ⟨ad, hex⟩ := hex
    refine cut e sz ad 0 0 0 0 0 he hsz hex hi' hj' hm' (Nat.le_refl _) (Nat.le_refl _) (Nat.le_refl _) hmh (A.val (v := .one .emp) R H4 ?_)
    exact V0.emp _
  · rename_i es hx
    obtain ⟨e, he, H0⟩ := H.elim
    obtain ⟨k, hk, hkes, H1⟩ := H0.elim
    have hkes := ksB_Ks hkes
    obtain ⟨i, hi', H2⟩ := H1.elim
    obtain ⟨j, hj', H3⟩ := H2.elim
    obtain ⟨hij, hjl, H4⟩ := H3
    rw [hx] at ex
    have hex : ∃ ad cap, a.eval x = .slice ad es.length cap ∧ es.length ≤ cap ∧ ∀ m, j ≤ m → m ≤ cap → V0 M (.im ((es.drop i).take (j - i))) (.slice (if m = i then ad else ad.map (·.add (i * k))) (j - i) (m - i)) := by
      generalize a.eval x = ux at ex
      cases (show V0 M (.im es) ux from ex) with
      | im0 ad cap =>
        refine ⟨ad, cap, rfl, Nat.zero_le _, fun m _ _ => ?_⟩
        simp only [List.length_nil] at hjl
        have h1 : j = 0 := by omega
        have h2 : i = 0 := by omega
        subst h1 h2
        simp only [List.drop_nil, List.take_nil, Nat.sub_zero]
        exact V0.im0 _ _
      | im _ k' b o cap C hks hc hm hV =>
        refine ⟨_, cap, rfl, hc, fun m hjm hmc => ?_⟩
        have hlen : ((es.drop i).take (j - i)).length = j - i := by simp; omega
        by_cases he : j - i = 0
        · rw [he, List.take_zero]
          exact V0.im0 _ _
        · have hkk : k' = k := by
            cases es with
            | nil => simp at hlen; omega
            | cons e r => exact (hks e (by simp)).symm.trans (hkes e (by simp))
          subst hkk
          have hmi : ¬ m = i := by omega
          have hget : ∀ (q : Nat) (e : List CV), ((es.drop i).take (j - i))[q]? = some e → es[i + q]? = some e := fun q e hq => by
            rw [List.getElem?_take] at hq
            split at hq
            · rwa [List.getElem?_drop] at hq
            · cases hq
          have hv := V0.im (M := M) ((es.drop i).take (j - i)) k' b (o + i * k') (m - i) (fun q j' => C (i + q) j') (fun e he => hks e (List.mem_of_mem_drop (List.mem_of_mem_take he))) (by rw [hlen]; omega) (fun q e j' y hq hj' => by
              have := hm (i + q) e j' y (hget q e hq) hj'
              rw [Nat.add_mul] at this
              rw [show o + i * k' + (q * k' + j') = o + (i * k' + q * k' + j') by omega]
              exact this) (fun q e j' y hq hj' => hV (i + q) e j' y (hget q e hq) hj')
          rw [hlen] at hv
          rw [if_neg hmi, Option.map_some, add_lit]
          exact hv
    obtain ⟨ad, cap, hex, hlc, hV⟩ := hex
    cases mx with
    | none =>
      simp only at H4
      refine cut e k ad es.length cap i j cap he hk hex hi' hj' rfl hij (by omega) (Nat.le_refl _) (fun h => by simp at h) (A.val (v := .one (.im ((es.drop i).take (j - i)))) R H4 ?_)
      exact hV cap (by omega) (Nat.le_refl _)
    | some m0 =>
      simp only at H4
      obtain ⟨m, hm', H5⟩ := H4.elim
      obtain ⟨hjm, hml, hhi, rfl, H6⟩ := H5
      have hm2 : boundA cap (Option.map (ev f) (some m0)) = some m := by
        rcases boundA_spec hm' with ⟨h', _⟩ | ⟨k1, q1, hx1, h10, h11⟩
        · cases h'
        · rw [Option.map_some, hx1]; simp only [boundA]; rw [if_pos h10, h11]
      have hjm2 : j = m := by omega
      subst hjm2
      refine cut e k ad es.length cap j j j he hk hex hi' hj' hm2 (Nat.le_refl _) (Nat.le_refl _) (by omega) (fun _ => hhi) (A.val (v := .one .emp) R H6 ?_)
      rw [if_pos rfl, Nat.sub_self]
      exact V0.emp _
  · rename_i l g off len hx
    obtain ⟨e, he, H0⟩ := H.elim
    obtain ⟨q, hq, H0⟩ := H0.elim
    obtain ⟨hk, hk0, H1⟩ := H0
    obtain ⟨i, hi', H2⟩ := H1.elim
    obtain ⟨j, hj', H3⟩ := H2.elim
    obtain ⟨hij, hjl, H4⟩ := H3
    rw [hx] at ex
    have ex0 := ex
    obtain ⟨p, hp, hg, hpk, hcase⟩ := sl_at R hq ex
    obtain ⟨p', hp', _, _, _, hlc, _⟩ := R.readR hq
    rw [hp] at hp'
    cases hp'
    have hcap : ∃ ad cap, a.eval x = .slice ad len cap ∧ j ≤ cap ∧ (∀ m, m + off ≤ q.2.2.length → m ≤ cap) ∧ ((off + i < q.2.2.length ∨ i = 0) → VA φ M (.one (.sl l g (off + i) (j - i))) (.slice (if cap = i then ad else ad.map (·.add (i * q.2.1))) (j - i) (cap - i))) := by
      rcases hcase with ⟨hv, rfl, rfl, hes, ad, hu⟩ | ⟨hv, hu⟩
      · rw [hes] at hjl
        simp at hjl
        have h1 : j = 0 := by omega
        have h2 : i = 0 := by omega
        subst h1 h2
        refine ⟨ad, 0, hu, Nat.le_refl _, fun m hm => by rw [hes] at hm; simp at hm; omega, fun _ => ?_⟩
        exact ⟨rfl, p, hp, by omega, fun _ => .inl ⟨hv, rfl, rfl, ad, rfl⟩⟩
      · refine ⟨_, p.cap - off, hu, by omega, fun m hm => by omega, fun hc => ?_⟩
        refine ⟨rfl, p, hp, by omega, fun _ => .inr ⟨hv, ?_⟩⟩
        rw [hpk, Nat.add_mul, Nat.sub_sub]
        congr 1
        split
        · rename_i hci
          have : i = 0 := by omega
          subst this
          simp
        · rw [Option.map_some, add_lit]
    obtain ⟨ad, cap, hex, hjc, hmc, hV⟩ := hcap
    cases mx with
    | none =>
      simp only at H4
      refine cut e q.2.1 ad len cap i j cap he hk hex hi' hj' rfl hij hjc (Nat.le_refl _) (fun h => by simp at h) ?_
      split at H4
      · rename_i hc
        exact A.val R H4 (hV hc)
      · rename_i hc
        refine A.val R H4 ?_
        have : j - i = 0 := by omega
        rw [this]
        exact V0.im0 _ _
    | some m0 =>
      simp only at H4
      obtain ⟨m, hm', H5⟩ := H4.elim
      obtain ⟨hjm, hml, hhi, H6⟩ := H5
      have hm2 : boundA cap (Option.map (ev f) (some m0)) = some m := by
        rcases boundA_spec hm' with ⟨h', _⟩ | ⟨k1, q1, hx1, h10, h11⟩
        · cases h'
        · rw [Option.map_some, hx1]; simp only [boundA]; rw [if_pos h10, h11]
      have hmc2 : m ≤ cap := hmc m (by omega)
      refine cut e q.2.1 ad len cap i j m he hk hex hi' hj' hm2 hij hjm hmc2 (fun _ => hhi) ?_
      split at H6
      · rename_i hmi
        subst hmi
        have hjm2 : j = m := by omega
        subst hjm2
        refine A.val (v := .one .emp) R H6 ?_
        rw [if_pos rfl, Nat.sub_self]
        exact V0.emp _
      · exact A.val (v := .one .junk) R H6 (V0.junk _ rfl)
  · exact H.elim
theorem bytesOf_spec : ∀ {es : List (List CV)} {xs : List Int}, bytesOf es = some xs → es = xs.map fun x => [CV.c (.int .u8 x)]
  | [], xs, h => by simp [bytesOf] at h; subst h; rfl
  | e :: r, xs, h => by
    simp only [bytesOf] at h
    split at h
    · rename_i x ys hx hy
      cases h
      rw [bytesOf_spec hy, List.map_cons]
      congr 1
      unfold byteOf at hx
      split at hx
      · cases hx; rfl
      · cases hx
    · cases h
theorem push_strOf : ∀ (xs : List Int) (s : ByteArray), xs.foldl (fun r n => r.push (UInt8.ofNat n.toNat)) s = ⟨(s.data.toList ++ xs.map fun n => UInt8.ofNat n.toNat).toArray⟩
  | [], s => by cases s; simp
  | x :: r, s => by
    rw [List.foldl_cons, push_strOf r]
    congr 1
    simp [ByteArray.push]
theorem bytes_us {us : List Value} {xs : List Int} (H : RowV φ M 1 (xs.map fun x => [CV.c (.int .u8 x)]) us) : us = xs.map (Value.int .u8) := by
  apply List.ext_getElem?
  intro i
  by_cases hi : i < xs.length
  · obtain ⟨v, h1, h2⟩ := H.2 i [CV.c (.int .u8 xs[i])] 0 (CV.c (.int .u8 xs[i])) (by simp [hi]) rfl
    rw [V_c h2] at h1
    simp only [Nat.mul_one, Nat.add_zero] at h1
    rw [h1]
    simp [hi]
  · have := H.1
    simp at this
    rw [List.getElem?_eq_none (by omega), List.getElem?_eq_none (by simp; omega)]
theorem convert_sound (dst : Option Tmp) (ty : TypeId) (pos : String) (aft : Array Edge) (guard : Option (Nat × Bool)) (src td : TypeId) (x : Operand) (R : Rep G φ M h w) (F : FOk n φ M f a) (hb : ∀ t, x = Operand.tmp t → t < n)
    (H : aop P (.convert src td x) f h K) (A : After G φ M h w a S dst K next) : Oper.wp P ⟨dst, .convert src td x, ty, pos, aft, guard⟩ a w next Q := by
  have ex := ev_V F hb
  simp only [aop] at H
  split at H
  · rename_i s hx
    rw [hx] at ex
    have ex := VA_c ex
    split at H
    · rename_i hs
      obtain ⟨hsrc, H⟩ := H
      have hu := strA_spec hs
      obtain ⟨d, hd⟩ := Option.isSome_iff_exists.1 hsrc
      have hr : (convert src td (.string s)).run P w = .ok (.string s) w := by simp [convert, run_underlying hd, run_underlying hu]
      simp only [Oper.wp, execOp, ex, Sem.run_bind, hr, Sem.run_pure, Result.andThen_ok, Oper.upon]
      exact A.val (v := .one (.c (.string s))) R H rfl
    · obtain ⟨hs, H0⟩ := H
      obtain ⟨e, he, H1⟩ := H0.elim
      obtain ⟨hk, hsm, H2⟩ := H1
      have hr := run_bytes_of_string (P := P) w src td e s (strA_spec hs) (elemA_spec he) (kindA_spec hk)
      have hge := grownCap_ge w s.size 0 e
      have hbl := bytesE_len s
      have hCs : (bytesRow s (grownCap w s.size 0 e)).size = grownCap w s.size 0 e := by
        unfold bytesRow
        rw [Array.size_append, Array.size_map, Array.size_replicate]
        show s.size + _ = _
        omega
      obtain ⟨R', hle⟩ := R.drew.alloc e 1 (grownCap w s.size 0 e) none (bytesE s) (bytesRow s (grownCap w s.size 0 e)) ((bytesRow s (grownCap w s.size 0 e)).size, (bytesRow s (grownCap w s.size 0 e)).size + 1) (by decide) (by rw [hCs, Nat.mul_one]) ⟨.inr ⟨Nat.le_refl _, rfl⟩, fun i v hv => bytesRow_one hv⟩ (by rw [hbl]; exact hge) (fun c hc => by cases hc) (bytesE_ks s)
        (fun i el j y hi hj => by
          have hil := (List.getElem?_eq_some_iff.1 hi).1
          rw [hbl] at hil
          unfold bytesE at hi
          rw [List.getElem?_map] at hi
          obtain ⟨b, hb, rfl⟩ := Option.map_eq_some_iff.1 hi
          rcases j with _ | j
          · simp at hj
            subst hj
            refine ⟨.int .u8 b.toNat, ?_, V0.c _ rfl⟩
            unfold bytesRow
            rw [Nat.mul_one, Nat.add_zero, Array.getElem?_append_left (by rw [Array.size_map]; exact hil), Array.getElem?_map]
            simp only [Array.getElem?_toList] at hb
            rw [hb]
            rfl
          · simp at hj)
      simp only [Oper.wp, execOp, ex, Sem.run_bind, hr, Sem.run_pure, Result.andThen_ok, Oper.upon]
      refine A _ _ _ _ _ _ H2 R' hle (MLe.refl _) ?_ (Kept.alloc R.drew _ _ _)
      refine ⟨rfl, _, phiAt_at φ _ _, Nat.zero_le _, fun _ => .inr ⟨rfl, ?_⟩⟩
      simp [hCs]
  · rename_i k q hx
    exact aop1_sound ⟨dst, .convert src td x, ty, pos, aft, guard⟩ R F (fun t ht => hb t (by simp [Op.operands] at ht; exact ht.symm)) H (fun t x y l g i off he => by cases he) A
  · rename_i v hv1 hv2
    obtain ⟨hs, H0⟩ := H
    obtain ⟨e, he, H1⟩ := H0.elim
    obtain ⟨hk, H2⟩ := H1
    obtain ⟨es, hr, H3⟩ := H2.elim
    obtain ⟨xs, hxs, H4⟩ := H3.elim
    have hes := bytesOf_spec hxs
    subst hes
    obtain ⟨_, us, hrow, hrd⟩ := rowA_spec (P := P) R ex hr
    have hus := bytes_us hrow
    subst hus
    rw [List.length_map] at hrd
    have hfc := (hrd.2 w rfl).2 xs.length (Nat.le_refl _)
    rw [Nat.mul_one, List.take_of_length_le (by simp)] at hfc
    have hconv : (convert src td (a.eval x)).run P w = .ok (.string (strOf xs)) w := by
      have shape : ∃ ad n c, a.eval x = .slice ad n c ∧ (ad = none → xs = []) ∧ (n = xs.length) := by
        have hln := (hrd.2 w rfl).1
        generalize ev f x = y at *
        generalize a.eval x = ux at *
        have hsl : ∃ ad n c, ux = .slice ad n c := by
          unfold rowA at hr
          split at hr
          · cases (show V0 M .nl ux from ex); exact ⟨_, _, _, rfl⟩
          · cases (show V0 M .emp ux from ex); exact ⟨_, _, _, rfl⟩
          · rename_i es'
            cases (show V0 M (.im es') ux from ex) <;> exact ⟨_, _, _, rfl⟩
          · obtain ⟨q, hq, _⟩ := Option.bind_eq_some_iff.1 hr
            obtain ⟨p, _, _, _, hcase⟩ := sl_at R hq ex
            rcases hcase with ⟨_, _, _, _, ad, rfl⟩ | ⟨_, rfl⟩ <;> exact ⟨_, _, _, rfl⟩
          · exact absurd rfl (hv1 _)
          · cases hr
        obtain ⟨ad, n, c, rfl⟩ := hsl
        have hn : n = xs.length := by
          simp only [Builtin.lenOf, Sem.run_pure] at hln
          injection hln
        refine ⟨ad, n, c, rfl, fun e0 => ?_, hn⟩
        subst e0
        simp only [Builtin.firstCells, Sem.run_pure] at hfc
        injection hfc with h1 h2
        have := congrArg Array.size h1
        simp at this
        exact List.length_eq_zero_iff.1 this.symm
      obtain ⟨ad, n, c, hex, hnil, hn⟩ := shape
      rw [hex] at hfc ⊢
      rw [run_convert_bytes_string w src td e ad n c (elemA_spec he) (kindA_spec hk) (strA_spec hs)]
      cases ad with
      | none =>
        rw [hnil rfl]
        simp [Conv.bytesToString, strOf]
        rfl
      | some ad =>
        subst hn
        simp only [Builtin.firstCells, Nat.mul_one] at hfc
        rw [run_bytesToString w ad xs.length c xs hfc, push_strOf]
        simp [strOf]
    simp only [Oper.wp, execOp, Sem.run_bind, hconv, Sem.run_pure, Result.andThen_ok, Oper.upon]
    exact A.val (v := .one (.c (.string (strOf xs)))) R H4 rfl
theorem hasBody_enters {g : Nat} (hg : hasBody P g = true) (args : Array Value) (w : World) : (callFunc g args).run P w = .ok (.enter g args) w := by
  unfold hasBody at hg
  split at hg
  · rename_i fn hfn
    rw [Bool.and_eq_true] at hg
    obtain ⟨h1, h2⟩ := hg
    obtain ⟨c, hc⟩ := Option.isSome_iff_exists.1 h1
    have hne : fn.name ≠ "runtime.NumGoroutine" := by simpa using h2
    simp [callFunc, hfn, hne, hc, mark]
  · cases hg
end
end Go.BL
end
section
namespace Go.BL
open Go.RowKit
set_option linter.unusedVariables false
set_option linter.unusedSimpArgs false
section
variable {P : Program} {G : Cx} {φ : Phi} {M : Im} {h : AH} {w : World} {f : AF} {n : Nat} {a : Act} {S : Nat → Bool} {K : AV → AH → Prop} {next : Act → World → Prop} {Q : Exit → Act → World → Prop}
theorem Rep.put (R : Rep G φ M h w) {l g off : Nat} {q : TypeId × Nat × Option Nat × List (List CV)} (hq : objA h l g = some q) {p : Pl} (hp : φ l = some p) (hv : p.vir = false) {fs : List (List CV)} {us : List Value} (hfk : Ks q.2.1 fs) (hrow : RowV φ M q.2.1 fs us) (hfit : off + fs.length ≤ q.2.2.2.length) :
    (storeCells ⟨p.b, off * q.2.1, none⟩ us).run P w = .ok () (w.setCells p.b (off * q.2.1) us) ∧ (∀ b, b ≠ p.b → (w.setCells p.b (off * q.2.1) us).heap[b]? = w.heap[b]?) ∧
      ∃ φ', Rep G φ' M (h.set l (.own g q.1 q.2.1 q.2.2.1 (BL.cset q.2.2.2 off fs))) (w.setCells p.b (off * q.2.1) us) ∧ Le φ φ' ∧ ∀ j, j ≠ l → φ' j = φ j := by
  obtain ⟨t, k, cap, es⟩ := q
  simp only at *
  have hob : h[l]? = some (.own g t k cap es) := objA_spec hq
  have hks : Ks k es := obj_ks R hq
  obtain ⟨p', hp', hpg, hpk, hlc, hcapc, _, hvz, hnb⟩ := R.obj l _ hob
  rw [hp] at hp'
  cases hp'
  obtain ⟨h8, C, fr, h9, h10, h11, h12⟩ := hnb hv
  have hin : off * k + us.length ≤ C.size := by
    rw [hrow.1, ← Nat.add_mul, h10, hpk]
    exact Nat.mul_le_mul_right _ (by omega)
  obtain ⟨s1, s2, s3, s4, s5⟩ := setCells_other p.b us (off * k) w
  have hb := heap_setCells p.b t fr us (off * k) w C.toList (by simpa using h9)
  have hcl : (cset C.toList (off * k) us).toArray.size = C.size := by simp [cset_length]
  have hS : Says φ M k C es := fun i e j x hi hj => by rw [← hpk]; exact h12 i e j x hi hj
  obtain ⟨R', hle'⟩ := R.write hob hp hv s1 s2 s3 s4 s5 _ fr hb (by rw [hcl, h10]) (okFr_set h11 hin (hrow.one hfk)) p.g (.inl rfl) cap hcapc (cset es off fs) (by rw [cset_length]; exact hlc) (fun e he => by
      rcases cset_mem he with he | he
      · exact hks e he
      · exact hfk e he) (RowV.csetV hks hfk hS hrow off hfit hin)
  rw [hpg] at R' hle'
  exact ⟨run_store_block (P := P) h9 h11 us hin (hrow.one hfk), s5, _, R', hle', fun j hj => phiAt_ne φ _ hj⟩
theorem kept_of (R : Rep G φ M h w) {l : Nat} {p : Pl} (ho : Own φ h l p) {w' : World} (s5 : ∀ b, b ≠ p.b → w'.heap[b]? = w.heap[b]?) (hS : ∀ j, S j = false → j ≠ l) {φ' : Phi} (hφ : ∀ j, j ≠ l → φ' j = φ j) (o : AO) : Kept S φ φ' h (h.set l o) w w' :=
  fun l' p' ho' hs' => by
    have hne := hS l' hs'
    refine ⟨s5 _ (R.inj l' l p' p ho' ho hne), ?_⟩
    obtain ⟨g, t, k, cap, es, hl, hp, hv⟩ := ho'
    exact ⟨g, t, k, cap, es, by rw [List.getElem?_set_ne (Ne.symm hne)]; exact hl, by rw [hφ _ hne]; exact hp, hv⟩
theorem set_same {l : Nat} {o : AO} (hl : h[l]? = some o) : h.set l o = h := by
  apply List.ext_getElem?
  intro j
  rw [List.getElem?_set]
  split
  · rename_i e; subst e
    rw [if_pos (hlt hl), hl]
  · rfl
theorem copy_sound (R : Rep G φ M h w) {t e : TypeId} (t2 ty : TypeId) {k : Nat} (ht : elemA P t = some e) (hk : sizeA P e = some k) {x s : AV} {u us : Value} {news : List (List CV)} (hx : VA φ M x u) (hs : VA φ M s us) (hr : rowA h k x = some news) (H : copA h s news k K) :
    ∃ φ' v u' h' w', (Builtin.copy_ #[t, t2] ty #[us, u]).run P w = .ok u' w' ∧ VA φ' M v u' ∧ K v h' ∧ Rep G φ' M h' w' ∧ Le φ φ' ∧ Kept (toVal s) φ φ' h h' w w' := by
  have ht := elemA_spec ht
  obtain ⟨hnk, ns, hrow, hrd⟩ := rowA_spec (P := P) R hx hr
  obtain ⟨hlen, hfc⟩ := hrd.2 w rfl
  have nilcase : ∀ (ad : Option Addr) (c : Nat), us = .slice ad 0 c → K (.one (.c (.int .i64 0))) h → ∃ φ' v u' h' w', (Builtin.copy_ #[t, t2] ty #[us, u]).run P w = .ok u' w' ∧ VA φ' M v u' ∧ K v h' ∧ Rep G φ' M h' w' ∧ Le φ φ' ∧ Kept (toVal s) φ φ' h h' w w' := by
    intro ad c hu hK
    subst hu
    have h0 := hfc 0 (Nat.zero_le _)
    have hmin : Nat.min news.length 0 = 0 := Nat.min_zero _
    refine ⟨φ, _, .int .i64 0, h, w, ?_, mk_c _, hK, R, Le.refl _, Kept.refl _ _ _ _⟩
    cases ad <;> simp [Builtin.copy_, run_underlying ht, run_sizeA hk, hlen, hmin, h0, goInt, storeCells]
  unfold copA at H
  split at H
  · cases (show V0 M .nl us from hs)
    exact nilcase none 0 rfl H
  · obtain ⟨ad, hus⟩ : ∃ ad, us = .slice ad 0 0 := by
      cases (show V0 M .emp us from hs) with
      | emp ad => exact ⟨ad, rfl⟩
    exact nilcase ad 0 hus H
  · rename_i l g off len
    obtain ⟨q, hq, H⟩ := H.elim
    obtain ⟨hqk, hle, H⟩ := H
    obtain ⟨p, hp, hg, hpk, hcase⟩ := sl_at R (objA_R hq) hs
    have hnv : (if news.length ≤ len then news.length else len) = min news.length len := rfl
    have hmin : Nat.min news.length len = min news.length len := rfl
    rcases hcase with ⟨hv, rfl, rfl, hes, ad, rfl⟩ | ⟨hv, rfl⟩
    · have hob := objA_spec hq
      rw [Nat.min_zero, List.take_zero] at H
      have hset : h.set l (.own g q.1 k q.2.2.1 (cset q.2.2.2 0 [])) = h := by
        rw [← hqk]; exact set_same hob
      rw [hset] at H
      exact nilcase ad 0 rfl H
    · subst hqk
      have hrow2 := hrow.take hnk (min news.length len) (Nat.min_le_left _ _)
      have hnk2 : Ks q.2.1 (news.take (min news.length len)) := fun e he => hnk e (List.mem_of_mem_take he)
      have hl2 : (news.take (min news.length len)).length = min news.length len := by rw [List.length_take]; omega
      obtain ⟨hst, s5, φ', R', hle', hφ'⟩ := R.put (P := P) (off := off) hq hp hv hnk2 hrow2 (by rw [hl2]; omega)
      have h0 := hfc (min news.length len) (Nat.min_le_left _ _)
      refine ⟨φ', _, .int .i64 ((min news.length len : Nat) : Int), _, _, ?_, mk_c _, H, R', hle', kept_of R ⟨_, _, _, _, _, objA_spec hq, hp, hv⟩ s5 (fun j hj e => by subst e; simp [toVal] at hj) hφ' _⟩
      simp only [Builtin.copy_, Sem.run_bind, run_underlying ht, Result.andThen_ok, hlen, hmin, run_sizeA hk, h0, hst, Sem.run_pure, goInt]
      simp [run_underlying ht, hlen, hmin, run_sizeA hk, h0, hst, goInt]
  · exact H.elim
theorem clear_sound (R : Rep G φ M h w) {t e : TypeId} (ty : TypeId) {z : List CV} (ht : elemA P t = some e) (hz : zeroA P e = some z) (hz0 : 0 < z.length) {s : AV} {us : Value} (hs : VA φ M s us) (H : clrA h s z K) :
    ∃ φ' v u' h' w', (Builtin.clear_ #[t] ty #[us]).run P w = .ok u' w' ∧ VA φ' M v u' ∧ K v h' ∧ Rep G φ' M h' w' ∧ Le φ φ' ∧ Kept (toVal s) φ φ' h h' w w' := by
  obtain ⟨i, zv, hi, hiz, hzz, hz1⟩ := zeroA_spec hz
  have ht := elemA_spec ht
  have tup : ∀ φ', VA φ' M (.tup []) (.tuple #[]) := fun φ' => ⟨[], rfl, rfl, fun j x hj => by simp at hj⟩
  have nilcase : ∀ (ad : Option Addr) (c : Nat), us = .slice ad 0 c → K (.tup []) h → ∃ φ' v u' h' w', (Builtin.clear_ #[t] ty #[us]).run P w = .ok u' w' ∧ VA φ' M v u' ∧ K v h' ∧ Rep G φ' M h' w' ∧ Le φ φ' ∧ Kept (toVal s) φ φ' h h' w w' := by
    intro ad c hu hK
    subst hu
    refine ⟨φ, _, _, h, w, ?_, tup φ, hK, R, Le.refl _, Kept.refl _ _ _ _⟩
    cases ad <;> simp [Builtin.clear_, run_underlying ht]
  unfold clrA at H
  split at H
  · cases (show V0 M .nl us from hs)
    exact nilcase none 0 rfl H
  · obtain ⟨ad, hus⟩ : ∃ ad, us = .slice ad 0 0 := by
      cases (show V0 M .emp us from hs) with
      | emp ad => exact ⟨ad, rfl⟩
    exact nilcase ad 0 hus H
  · obtain ⟨ad, c, hus⟩ : ∃ ad c, us = .slice ad 0 c := by
      cases (show V0 M (.im []) us from hs) <;> exact ⟨_, _, rfl⟩
    exact nilcase ad c hus H
  · rename_i l g off len
    obtain ⟨q, hq, H⟩ := H.elim
    obtain ⟨hqk, hle, H⟩ := H
    obtain ⟨p, hp, hg, hpk, hcase⟩ := sl_at R (objA_R hq) hs
    rcases hcase with ⟨hv, rfl, rfl, hes, ad, rfl⟩ | ⟨hv, rfl⟩
    · have hob := objA_spec hq
      have hset : h.set l (.own g q.1 q.2.1 q.2.2.1 (cset q.2.2.2 0 (List.replicate 0 z))) = h := set_same hob
      rw [hset] at H
      exact nilcase ad 0 rfl H
    · by_cases hl0 : len = 0
      · subst hl0
        have hob := objA_spec hq
        have hset : h.set l (.own g q.1 q.2.1 q.2.2.1 (cset q.2.2.2 off (List.replicate 0 z))) = h := set_same hob
        rw [hset] at H
        exact nilcase _ _ rfl H
      · obtain ⟨hzks, hzrow⟩ := zero_row (φ := φ) (M := M) hzz hz1 hqk.symm len
        obtain ⟨hst, s5, φ', R', hle', hφ'⟩ := R.put (P := P) (off := off) hq hp hv hzks hzrow (by rw [List.length_replicate]; exact hle)
        refine ⟨φ', _, .tuple #[], _, _, ?_, tup φ', H, R', hle', kept_of R ⟨_, _, _, _, _, objA_spec hq, hp, hv⟩ s5 (fun j hj e => by subst e; simp [toVal] at hj) hφ' _⟩
        simp [Builtin.clear_, run_underlying ht, zeroValue, typeInfo, hi, hiz, hst]
  · exact H.elim
theorem Rep.spare (R : Rep G φ M h w) {l g k c : Nat} {t : TypeId} {es : List (List CV)} (hl : h[l]? = some (.own g t k (some c) es)) : Rep G φ M (h.set l (.own g t k (some c) (spareE k c es))) w := by
  have hown : ∀ i p, Own φ (h.set l (.own g t k (some c) (spareE k c es))) i p → Own φ h i p := by
    rintro i p ⟨g1, t1, k1, cap1, es1, hi, hp, hv⟩
    rcases set_get hi with ⟨rfl, _, _⟩ | ⟨_, hi⟩
    · exact ⟨_, _, _, _, _, hl, hp, hv⟩
    · exact ⟨g1, t1, k1, cap1, es1, hi, hp, hv⟩
  refine ⟨R.os, R.tape, R.output, R.size, R.blk, R.mon, R.imm, R.imn, fun i hi => R.dom i (by simpa using hi), fun i o hi => ?_, fun i p ho => R.new i p (hown i p ho), fun i j p q hi hj hne => R.inj i j p q (hown i p hi) (hown j q hj) hne, fun a v i p hm ho => R.dis a v i p hm (hown i p ho)⟩
  rcases set_get hi with ⟨rfl, rfl, _⟩ | ⟨_, hi⟩
  · obtain ⟨p, h1, h2, h3, h4, h5, h6, h7, h8⟩ := R.obj i _ hl
    have hc := h5 c rfl
    refine ⟨p, h1, h2, h3, by simp [spareE]; omega, h5, fun e he => ?_, h7, fun hv => ?_⟩
    · rcases List.mem_append.1 he with he | he
      · exact h6 e he
      · rw [(List.mem_replicate.1 he).2, List.length_replicate]
    · obtain ⟨h9, C, fr, h10, h11, h12, h13⟩ := h8 hv
      refine ⟨h9, C, fr, h10, h11, h12, fun i e j x hi hj => ?_⟩
      unfold spareE at hi
      by_cases hlt : i < es.length
      · rw [List.getElem?_append_left hlt] at hi
        exact h13 i e j x hi hj
      · rw [List.getElem?_append_right (by omega), List.getElem?_replicate] at hi
        split at hi
        · rename_i hil
          cases hi
          rw [List.getElem?_replicate] at hj
          split at hj
          · rename_i hjk
            cases hj
            have hin : i * p.k + j < C.size := by rw [h11]; exact cell_in (by omega) (by omega)
            exact ⟨C[i * p.k + j], Array.getElem?_eq_getElem hin, V0.junk _ (h12.2 _ _ (Array.getElem?_eq_getElem hin))⟩
          · cases hj
        · cases hi
  · exact R.obj i o hi
theorem cap_sound (R : Rep G φ M h w) {t e : TypeId} (ty : TypeId) (ht : elemA P t = some e) {s : AV} {us : Value} (hs : VA φ M s us) (H : capG0 h s K) :
    ∃ v u' h', (Builtin.cap_ #[t] ty #[us]).run P w = .ok u' w ∧ VA φ M v u' ∧ K v h' ∧ Rep G φ M h' w ∧ ∀ l p, Own φ h l p → Own φ h' l p := by
  have ht := elemA_spec ht
  have run : ∀ (ad : Option Addr) (m c : Nat), us = .slice ad m c → (Builtin.cap_ #[t] ty #[us]).run P w = .ok (.int .i64 c) w := by
    intro ad m c hu
    subst hu
    simp [Builtin.cap_, run_underlying ht, goInt]
  unfold capG0 at H
  split at H
  · cases (show V0 M .nl us from hs)
    exact ⟨_, _, h, run _ _ _ rfl, mk_c _, H, R, fun _ _ ho => ho⟩
  · obtain ⟨ad, hus⟩ : ∃ ad, us = .slice ad 0 0 := by
      cases (show V0 M .emp us from hs) with
      | emp ad => exact ⟨ad, rfl⟩
    exact ⟨_, _, h, run _ _ _ hus, mk_c _, H, R, fun _ _ ho => ho⟩
  · rename_i es
    obtain ⟨ad, c, hus, hc⟩ : ∃ ad c, us = .slice ad es.length c ∧ es.length ≤ c := by
      cases (show V0 M (.im es) us from hs) with
      | im0 ad c => exact ⟨_, _, rfl, Nat.zero_le _⟩
      | im _ _ b o c C hks hc hm hV => exact ⟨_, _, rfl, hc⟩
    exact ⟨_, _, h, run _ _ _ hus, mk_c _, H c hc, R, fun _ _ ho => ho⟩
  · rename_i l g off len
    obtain ⟨q, hq, H⟩ := H.elim
    obtain ⟨tq, kq, cq, es⟩ := q
    have hob : h[l]? = some (.own g tq kq cq es) := objA_spec hq
    obtain ⟨p, hp, hg, hpk, hcase⟩ := sl_at R (objA_R hq) hs
    obtain ⟨p', hp', hpg, hpk', hlc, hcapc, hks, hvz, hnb⟩ := R.obj l _ hob
    rw [hp] at hp'
    cases hp'
    have hK := H p.cap hlc hcapc
    have hown : ∀ i r, Own φ (h.set l (.own g tq kq (some p.cap) es)) i r → Own φ h i r := by
      rintro i r ⟨g1, t1, k1, cap1, es1, hi, hr, hv1⟩
      rcases set_get hi with ⟨rfl, ho, _⟩ | ⟨hne, hi⟩
      · rw [hp] at hr
        cases hr
        exact ⟨_, _, _, _, _, hob, hp, hv1⟩
      · exact ⟨g1, t1, k1, cap1, es1, hi, hr, hv1⟩
    have R' : Rep G φ M (h.set l (.own g tq kq (some p.cap) es)) w := by
      refine ⟨R.os, R.tape, R.output, R.size, R.blk, R.mon, R.imm, R.imn, fun i hi => R.dom i (by simpa using hi), ?_, fun l p ho => R.new l p (hown l p ho), fun i j p q hi hj hne => R.inj i j p q (hown i p hi) (hown j q hj) hne, fun a v l p hm ho => R.dis a v l p hm (hown l p ho)⟩
      intro i o hi
      rcases set_get hi with ⟨rfl, rfl, _⟩ | ⟨hne, hi⟩
      · exact ⟨p, hp, hpg, hpk', hlc, fun c hc => (by cases hc; rfl), hks, hvz, hnb⟩
      · exact R.obj i o hi
    have hown2 : ∀ es' i r, Own φ h i r → Own φ (h.set l (.own g tq kq (some p.cap) es')) i r := by
      rintro es' i r ⟨g1, t1, k1, cap1, es1, hi, hr, hv1⟩
      by_cases hne : i = l
      · subst hne
        exact ⟨_, _, _, _, _, List.getElem?_set_self (hlt hob), hr, hv1⟩
      · exact ⟨g1, t1, k1, cap1, es1, by rw [List.getElem?_set_ne (Ne.symm hne)]; exact hi, hr, hv1⟩
    have R2 : Rep G φ M (h.set l (.own g tq kq (some p.cap) (spareE kq p.cap es))) w := by
      have := R'.spare (l := l) (g := g) (k := kq) (c := p.cap) (t := tq) (es := es) (List.getElem?_set_self (hlt hob))
      rwa [List.set_set] at this
    rcases hcase with ⟨hv, rfl, rfl, hes, ad, rfl⟩ | ⟨hv, rfl⟩
    · have h0 := hvz hv
      rcases hK with hK | hK
      · refine ⟨_, .int .i64 ((p.cap - 0 : Nat) : Int), _, ?_, mk_c _, hK, R', hown2 _⟩
        rw [run _ _ _ rfl, h0]
      · refine ⟨_, .int .i64 ((p.cap - 0 : Nat) : Int), _, ?_, mk_c _, hK, R2, hown2 _⟩
        rw [run _ _ _ rfl, h0]
    · rcases hK with hK | hK
      · exact ⟨_, _, _, run _ _ _ rfl, mk_c _, hK, R', hown2 _⟩
      · exact ⟨_, _, _, run _ _ _ rfl, mk_c _, hK, R2, hown2 _⟩
  · exact H.elim
/-! ### What stands for good, or for the time of a call -/
theorem clz_V0 {x : CV} {u : Value} (h : V φ M x u) : V0 M (clz x) u := by
  cases x with
  | pt l g i off => exact V0.junk u h.1
  | sl l g off len => exact V0.junk u h.1
  | clo g caps =>
    obtain ⟨vs, rfl, h2, h3⟩ := h
    cases caps with
    | nil =>
      have : vs = [] := List.length_eq_zero_iff.1 (by simpa using h2)
      subst this
      exact V0.clo g
    | cons c r => exact V0.junk _ rfl
  | _ => exact h
theorem Rep.freeze1 (R : Rep G φ M h w) {l : Nat} {o : AO} (hl : h[l]? = some o) : ∃ M', Rep G φ M' (h.set l (frO o)) w ∧ MLe M M' ∧ ∀ p, Own φ h l p → ∀ (o : Nat) v, w.cell? ⟨p.b, o, none⟩ = some v → M' ⟨p.b, o, none⟩ v := by
  cases o with
  | dead => exact ⟨M, by rw [show frO AO.dead = .dead from rfl, set_same hl]; exact R, MLe.refl _, fun p ho => by obtain ⟨_, _, _, _, _, hl', _⟩ := ho; rw [hl] at hl'; cases hl'⟩
  | ro g t k es => exact ⟨M, by rw [show frO (AO.ro g t k es) = .ro g t k es from rfl, set_same hl]; exact R, MLe.refl _, fun p ho => by obtain ⟨_, _, _, _, _, hl', _⟩ := ho; rw [hl] at hl'; cases hl'⟩
  | own g t k cap es =>
    obtain ⟨p, h1, h2, h3, h4, h5, h6, h7, h8⟩ := R.obj l _ hl
    have hown : ∀ i r, Own φ (h.set l (frO (.own g t k cap es))) i r → i ≠ l ∧ Own φ h i r := by
      rintro i r ⟨g1, t1, k1, cap1, es1, hi, hr, hv1⟩
      rcases set_get hi with ⟨rfl, ho, _⟩ | ⟨hne, hi⟩
      · cases ho
      · exact ⟨hne, g1, t1, k1, cap1, es1, hi, hr, hv1⟩
    refine ⟨fun a v => M a v ∨ (p.vir = false ∧ a.block = p.b ∧ a.spot = none ∧ w.cell? a = some v), ?_, fun a v q => .inl q, fun p' ho o v hc => ?_⟩
    · refine ⟨R.os, R.tape, R.output, R.size, R.blk, fun a v q => .inl (R.mon a v q), fun a v q => ?_, fun a v q => ?_, fun i hi => R.dom i (by simpa using hi), fun i o hi => ?_, fun i r ho => R.new i r (hown i r ho).2, fun i j r s hi hj hne => R.inj i j r s (hown i r hi).2 (hown j s hj).2 hne, fun a v i r q ho => ?_⟩
      · rcases q with q | ⟨hv, q1, q2, q3⟩
        · exact R.imm a v q
        · refine ⟨q3, ?_⟩
          rw [q1]
          exact R.own_blk ⟨g, t, k, cap, es, hl, h1, hv⟩
      · rcases q with q | ⟨hv, q1, q2, q3⟩
        · exact R.imn a v q
        · have := R.new l p ⟨g, t, k, cap, es, hl, h1, hv⟩
          rw [q1]
          exact .inr this
      · rcases set_get hi with ⟨rfl, rfl, _⟩ | ⟨hne, hi⟩
        · refine ⟨p, h1, h2, h3, fun e he => ?_, by simpa using h4, h7, fun hv => ?_⟩
          · obtain ⟨e', he', rfl⟩ := List.mem_map.1 he
            simpa using h6 e' he'
          · obtain ⟨h9, C, fr, h10, h11, h12, h13⟩ := h8 hv
            refine ⟨h9, fun i j => C.getD (i * p.k + j) undef, fun i' e j x hi' hj => ?_⟩
            rw [List.getElem?_map] at hi'
            obtain ⟨e', he', rfl⟩ := Option.map_eq_some_iff.1 hi'
            rw [List.getElem?_map] at hj
            obtain ⟨x', hx', rfl⟩ := Option.map_eq_some_iff.1 hj
            obtain ⟨v, hv1, hv2⟩ := h13 i' e' j x' he' hx'
            have hgd : C.getD (i' * p.k + j) undef = v := by rw [Array.getD_eq_getD_getElem?, hv1]; rfl
            simp only [hgd]
            exact ⟨.inr ⟨hv, by simp, by simp, by rw [Joins.cell_of_block h10]; exact hv1⟩, (clz_V0 hv2).mono fun a v q => .inl q⟩
        · exact (R.obj i o hi).move (Le.refl _) (fun a v q => .inl q) rfl (fun _ _ _ _ => rfl)
      · obtain ⟨hne, ho⟩ := hown i r ho
        rcases q with q | ⟨hv, q1, q2, q3⟩
        · exact R.dis a v i r q ho
        · rw [q1]
          exact R.inj l i p r ⟨g, t, k, cap, es, hl, h1, hv⟩ ho (Ne.symm hne)
    · obtain ⟨g1, t1, k1, cap1, es1, hl', hp', hv'⟩ := ho
      rw [h1] at hp'
      cases hp'
      exact .inr ⟨hv', rfl, rfl, hc⟩
theorem frH_length : ∀ (L : List Nat) (h : AH), (frH L h).length = h.length
  | [], h => rfl
  | l :: r, h => by
    rw [frH, frH_length r]
    split
    · simp
    · rfl
theorem Rep.freeze (L : List Nat) : ∀ {M : Im} {h : AH} (_ : Rep G φ M h w), ∃ M', Rep G φ M' (frH L h) w ∧ MLe M M' ∧ ∀ l, l ∈ L → ∀ p, Own φ h l p → ∀ (o : Nat) v, w.cell? ⟨p.b, o, none⟩ = some v → M' ⟨p.b, o, none⟩ v := by
  induction L with
  | nil => intro M h R; exact ⟨M, R, MLe.refl _, fun l hl => by cases hl⟩
  | cons l0 r ih =>
    intro M h R
    rw [frH]
    split
    · rename_i o hl
      obtain ⟨M1, R1, hM1, hc1⟩ := R.freeze1 hl
      obtain ⟨M2, R2, hM2, hc2⟩ := ih R1
      refine ⟨M2, R2, hM1.trans hM2, fun l hlm p ho o' v hc => ?_⟩
      by_cases e : l = l0
      · subst e
        exact hM2 _ _ (hc1 p ho o' v hc)
      · rcases List.mem_cons.1 hlm with q | q
        · exact absurd q e
        · exact hc2 l q p (ho.set0 e _) o' v hc
    · rename_i hno
      obtain ⟨M2, R2, hM2, hc2⟩ := ih R
      refine ⟨M2, R2, hM2, fun l hlm p ho o' v hc => ?_⟩
      rcases List.mem_cons.1 hlm with q | q
      · subst q
        obtain ⟨_, _, _, _, _, hl', _⟩ := ho
        rw [hno] at hl'
        cases hl'
      · exact hc2 l q p ho o' v hc
theorem imV_V0 (R : Rep G φ M h w) {M' : Im} (hM : MLe M M') {x : CV} (hc : ∀ l, l ∈ locV x → ∀ p, Own φ h l p → ∀ (o : Nat) v, w.cell? ⟨p.b, o, none⟩ = some v → M' ⟨p.b, o, none⟩ v) {u : Value} (hv : V φ M x u) : V0 M' (imV h x) u := by
  cases x with
  | nl => cases (show V0 M .nl u from hv); exact V0.im0 _ _
  | emp => cases (show V0 M .emp u from hv); exact V0.im0 _ _
  | sl l g off len =>
    have h1 : u.oneCell' = true := hv.1
    simp only [imV]
    split
    · rename_i q hq
      split
      · rename_i hle
        obtain ⟨p, hp, hg, hk, hcase⟩ := sl_at R hq (V_VA hv)
        rcases hcase with ⟨_, rfl, rfl, he, ad, rfl⟩ | ⟨hvir, rfl⟩
        · simp only [List.take_zero, List.map_nil]
          exact V0.im0 _ _
        · obtain ⟨p', h2, h3, h4, hks, hlc, _, h5⟩ := R.readR hq
          rw [hp] at h2
          cases h2
          have hlen : (((q.2.2.drop off).take len).map (·.map clz)).length = len := by simp; omega
          have hgt : ∀ (i : Nat) (e : List CV), (((q.2.2.drop off).take len).map (·.map clz))[i]? = some e → ∃ e', q.2.2[off + i]? = some e' ∧ e = e'.map clz := fun i e hi => by
            rw [List.getElem?_map] at hi
            obtain ⟨e', he', rfl⟩ := Option.map_eq_some_iff.1 hi
            rw [List.getElem?_take] at he'
            split at he'
            · rw [List.getElem?_drop] at he'
              exact ⟨e', he', rfl⟩
            · cases he'
          -- facts for good, whether owned or not
          have facts : ∀ (i : Nat) (e' : List CV) (j : Nat) (x : CV), q.2.2[off + i]? = some e' → e'[j]? = some x → ∃ v, w.cell? ⟨p.b, (off + i) * q.2.1 + j, none⟩ = some v ∧ M' ⟨p.b, (off + i) * q.2.1 + j, none⟩ v ∧ V0 M' (clz x) v := by
            intro i e' j x hi hj
            unfold objR at hq
            split at hq
            · rename_i g' t k cap es hl
              split at hq
              · rename_i e
                subst e
                cases hq
                obtain ⟨v, hv1, hv2⟩ := (h5 _ e' hi).2 j x hj
                exact ⟨v, hv1, hc l (by simp [locV]) p ⟨_, _, _, _, _, hl, hp, hvir⟩ _ v hv1, (clz_V0 hv2).mono hM⟩
              · cases hq
            · rename_i g' t k es hl
              split at hq
              · rename_i e
                subst e
                cases hq
                obtain ⟨p2, q1, q2, q3, q4, q5, q6, q7⟩ := R.obj l _ hl
                rw [hp] at q1
                cases q1
                obtain ⟨q8, C, q9⟩ := q7 hvir
                obtain ⟨q10, q11⟩ := q9 _ e' j x hi hj
                rw [q3] at q10
                exact ⟨_, (R.imm _ _ q10).1, hM _ _ q10, (clz_V0 (V0_V (φ := φ) q11)).mono hM⟩
              · cases hq
            · cases hq
          have hC : ∀ ij : Nat × Nat, ∃ v : Value, ∀ e' x, q.2.2[off + ij.1]? = some e' → e'[ij.2]? = some x → w.cell? ⟨p.b, (off + ij.1) * q.2.1 + ij.2, none⟩ = some v ∧ M' ⟨p.b, (off + ij.1) * q.2.1 + ij.2, none⟩ v ∧ V0 M' (clz x) v := fun ij => by
            by_cases hh : ∃ e' x, q.2.2[off + ij.1]? = some e' ∧ e'[ij.2]? = some x
            · obtain ⟨e', x, hi, hj⟩ := hh
              obtain ⟨v, f1, f2, f3⟩ := facts ij.1 e' ij.2 x hi hj
              exact ⟨v, fun e2 x2 hi2 hj2 => by rw [hi] at hi2; cases hi2; rw [hj] at hj2; cases hj2; exact ⟨f1, f2, f3⟩⟩
            · exact ⟨undef, fun e' x hi hj => absurd ⟨e', x, hi, hj⟩ hh⟩
          obtain ⟨C, hC⟩ := Classical.axiomOfChoice hC
          have := V0.im (M := M') (((q.2.2.drop off).take len).map (·.map clz)) q.2.1 p.b (off * q.2.1) (p.cap - off) (fun i j => C (i, j)) (fun e he => by
              obtain ⟨e', he', rfl⟩ := List.mem_map.1 he
              simpa using hks e' (List.mem_of_mem_drop (List.mem_of_mem_take he'))) (by rw [hlen]; omega) (fun i e j x hi hj => by
              obtain ⟨e', he', rfl⟩ := hgt i e hi
              rw [List.getElem?_map] at hj
              obtain ⟨x', hx', rfl⟩ := Option.map_eq_some_iff.1 hj
              have := (hC (i, j) e' x' he' hx').2.1
              rw [Nat.add_mul] at this
              rw [← Nat.add_assoc]
              exact this) (fun i e j x hi hj => by
              obtain ⟨e', he', rfl⟩ := hgt i e hi
              rw [List.getElem?_map] at hj
              obtain ⟨x', hx', rfl⟩ := Option.map_eq_some_iff.1 hj
              exact (hC (i, j) e' x' he' hx').2.2)
          rw [hlen] at this
          exact this
      · exact V0.junk u h1
    · exact V0.junk u h1
  | pt l g i off => exact V0.junk u hv.1
  | clo g caps => exact (clz_V0 hv).mono hM
  | _ => exact V0.mono hM hv
theorem imA_V (R : Rep G φ M h w) {M' : Im} (hM : MLe M M') {x : AV} (hc : ∀ l, l ∈ locA x → ∀ p, Own φ h l p → ∀ (o : Nat) v, w.cell? ⟨p.b, o, none⟩ = some v → M' ⟨p.b, o, none⟩ v) {u : Value} (hv : VA φ M x u) : VA (fun _ => none) M' (imA h x) u := by
  cases x with
  | one x =>
    cases x with
    | c v => exact hv
    | _ => exact V_VA (V0_V (imV_V0 R hM (x := _) (by simpa only [locA] using hc) (by simpa only [VA, VA1] using hv)))
  | agg xs =>
    obtain ⟨us, h1, h2, h3⟩ := hv
    refine ⟨us, h1, by simpa using h2, fun j x hj => ?_⟩
    rw [List.getElem?_map] at hj
    obtain ⟨x', hx', rfl⟩ := Option.map_eq_some_iff.1 hj
    obtain ⟨u, h4, h5⟩ := h3 j x' hx'
    exact ⟨u, h4, V0_V (imV_V0 R hM (fun l hl => hc l (by simp only [locA, List.mem_flatMap]; exact ⟨x', List.mem_of_getElem? hx', hl⟩)) h5)⟩
  | tup xs => trivial
  | any => trivial
theorem noloc_closed {x : AV} (hx : clA x = true) : locA x = [] := by
  have one : ∀ y : CV, clB y = true → locV y = [] := fun y hy => by cases y <;> first | rfl | cases hy
  cases x with
  | one x => exact one x hx
  | agg xs =>
    simp only [locA, List.flatMap_eq_nil_iff]
    exact fun y hy => one y ((List.all_eq_true.1 hx) y hy)
  | tup xs => rfl
  | any => rfl
theorem free_V {x : CV} (hx : freeC x = true) {M' : Im} {u : Value} (hv : V φ M x u) : V φ M' x u := by
  cases x with
  | im es => cases hx
  | pel e off => cases hx
  | c v => cases (show V0 M (.c v) u from hv) with | c _ h => exact V0.c _ h
  | nl => cases (show V0 M .nl u from hv); exact V0.nl
  | emp => cases (show V0 M .emp u from hv) with | emp a => exact V0.emp a
  | junk => exact V0.junk u (V0.one (show V0 M .junk u from hv))
  | pt _ _ _ _ => exact hv
  | sl _ _ _ _ => exact hv
  | clo _ _ => exact hv
theorem free_VA1 {x : AV} (hx : freeA1 x = true) {M' : Im} {u : Value} (hv : VA1 φ M x u) : VA1 φ M' x u := by
  cases x with
  | one x =>
    cases x with
    | c v => exact hv
    | nl => exact free_V (φ := φ) (M := M) (M' := M') (x := .nl) rfl hv
    | emp => exact free_V (φ := φ) (M := M) (M' := M') (x := .emp) rfl hv
    | im es => cases hx
    | pel e off => cases hx
    | pt l g i off => exact free_V (φ := φ) (M := M) (M' := M') (x := .pt l g i off) rfl hv
    | sl l g off len => exact free_V (φ := φ) (M := M) (M' := M') (x := .sl l g off len) rfl hv
    | clo g caps => exact free_V (φ := φ) (M := M) (M' := M') (x := .clo g caps) rfl hv
    | junk => exact free_V (φ := φ) (M := M) (M' := M') (x := .junk) rfl hv
  | agg xs =>
    obtain ⟨us, h1, h2, h3⟩ := hv
    refine ⟨us, h1, h2, fun j x hj => ?_⟩
    obtain ⟨u, h4, h5⟩ := h3 j x hj
    exact ⟨u, h4, free_V ((List.all_eq_true.1 hx) x (List.mem_of_getElem? hj)) h5⟩
  | _ => cases hx
theorem free_VA {x : AV} (hx : freeA x = true) {M' : Im} {u : Value} (hv : VA φ M x u) : VA φ M' x u := by
  cases x with
  | tup xs =>
    obtain ⟨us, h1, h2, h3⟩ := hv
    refine ⟨us, h1, h2, fun j x hj => ?_⟩
    obtain ⟨u, h4, h5⟩ := h3 j x hj
    exact ⟨u, h4, free_VA1 ((List.all_eq_true.1 hx) x (List.mem_of_getElem? hj)) h5⟩
  | one x => exact VA1_VA (free_VA1 (x := .one x) hx (by cases x <;> exact hv))
  | agg xs => exact VA1_VA (free_VA1 (x := .agg xs) hx hv)
  | any => cases hx
theorem Rep.unlend {M' M1 : Im} {φ1 : Phi} {h' : AH} {w w' : World} (R : Rep G φ M h w) (hM : MLe M M') (R1 : Rep ⟨w, owned (fun _ => none) [], M'⟩ φ1 M1 h' w') (hf : h'.all freeO = true) : Rep ⟨w, owned (fun _ => none) [], M⟩ φ1 M h' w' := by
  have hM1 : MLe M M1 := hM.trans R1.mon
  refine ⟨R1.os, R1.tape, ⟨R1.output.1, R1.output.2.of rfl fun _ q => q⟩, R1.size, R1.blk, MLe.refl _, fun a v q => R1.imm a v (hM1 a v q), fun a v q => .inl q, R1.dom, fun l o hl => ?_, R1.new, R1.inj, fun a v l p q ho => R1.dis a v l p (hM1 a v q) ho⟩
  have ho := (List.all_eq_true.1 hf) o (List.mem_of_getElem? hl)
  have H := R1.obj l o hl
  cases o with
  | dead => trivial
  | ro _ _ _ _ => cases ho
  | own g t k cap es =>
    obtain ⟨p, h1, h2, h3, h4, h5, h6, h7, h8⟩ := H
    refine ⟨p, h1, h2, h3, h4, h5, h6, h7, fun hv => ?_⟩
    obtain ⟨h9, C, fr, h10, h11, h12, h13⟩ := h8 hv
    refine ⟨h9, C, fr, h10, h11, h12, fun i e j x hi hj => ?_⟩
    obtain ⟨v, hv1, hv2⟩ := h13 i e j x hi hj
    exact ⟨v, hv1, free_V ((List.all_eq_true.1 ((List.all_eq_true.1 ho) e (List.mem_of_getElem? hi))) x (List.mem_of_getElem? hj)) hv2⟩
theorem frH_get : ∀ (L : List Nat) (h : AH) {l : Nat}, l ∉ L → (frH L h)[l]? = h[l]?
  | [], h, l, _ => rfl
  | l0 :: r, h, l, hl => by
    simp only [List.mem_cons, not_or] at hl
    rw [frH, frH_get r _ hl.2]
    split
    · rw [List.getElem?_set_ne (Ne.symm hl.1)]
    · rfl
theorem content_gen {Kl : AV → AH → Prop} (R : Rep G φ M h w) {g : Nat} {args args' : List AV} {vs : List Value} (hvs0 : ∀ M', MLe M M' → (∀ l, l ∈ args.flatMap locA → ∀ p, Own φ h l p → ∀ (o : Nat) v, w.cell? ⟨p.b, o, none⟩ = some v → M' ⟨p.b, o, none⟩ v) → VAs (fun _ => none) M' args' vs) (H : ACall P g args' [] (calK2 args h K Kl)) :
    Calls P g vs.toArray w fun e w' => ∃ v r h' φ' M', e = .returned v ∧ VA φ' M' r v ∧ Rep G φ' M' h' w' ∧ Le φ φ' ∧ MLe M M' ∧ ((Kl r h' ∧ Kept (fun _ => false) φ φ' h h' w w') ∨ (K r h' ∧ Kept (fun l => decide (l ∈ args.flatMap locA)) φ φ' h h' w w')) := by
  obtain ⟨M', RF, hM, hc⟩ := R.freeze (args.flatMap locA)
  have hvs := hvs0 M' hM hc
  refine (H (fun _ => none) M' w vs RF.empty hvs).mono ?_
  rintro e w' ⟨v, r, h', φ1, M1, rfl, hv, hk, R1, _⟩
  have hno : ∀ b, ¬ owned (fun _ => none) [] b := by rintro b ⟨l, p, ⟨_, _, _, _, _, hl, _⟩, _⟩; simp at hl
  unfold calK2 at hk
  split at hk
  · rename_i hp
    obtain ⟨R2, hle, hlow, hblk⟩ := R.join (R.unlend hM R1 hp.2)
    refine ⟨v, _, _, _, M, rfl, VA_shift (free_VA hp.1 hv), R2, hle, MLe.refl _, .inl ⟨hk, fun l p ho _ => ⟨hblk _ (R.own_blk ho), ?_⟩⟩⟩
    obtain ⟨g1, t1, k1, cap1, es1, hl, hp, hv1⟩ := ho
    have := hlt hl
    exact ⟨g1, t1, k1, cap1, es1, by rw [List.getElem?_append_left this]; exact hl, by rw [hlow _ this]; exact hp, hv1⟩
  · obtain ⟨R2, hle, hlow, hblk⟩ := RF.join R1
    rw [frH_length] at R2 hle hlow
    refine ⟨v, _, _, _, M1, rfl, VA_shift hv, R2, hle, hM.trans R1.mon, .inr ⟨hk, fun l p ho hs => ⟨hblk _ (R.own_blk ho), ?_⟩⟩⟩
    obtain ⟨g1, t1, k1, cap1, es1, hl, hp, hv1⟩ := ho
    have := hlt hl
    exact ⟨g1, t1, k1, cap1, es1, by rw [List.getElem?_append_left (by rw [frH_length]; exact this), frH_get _ _ (of_decide_eq_false hs)]; exact hl, by rw [hlow _ this]; exact hp, hv1⟩
theorem content_call2 {Kl : AV → AH → Prop} (R : Rep G φ M h w) {g : Nat} {args : List AV} {vs : List Value} (hv : VAs φ M args vs) (H : ACall P g (args.map (imA h)) [] (calK2 args h K Kl)) :
    Calls P g vs.toArray w fun e w' => ∃ v r h' φ' M', e = .returned v ∧ VA φ' M' r v ∧ Rep G φ' M' h' w' ∧ Le φ φ' ∧ MLe M M' ∧ ((Kl r h' ∧ Kept (fun _ => false) φ φ' h h' w w') ∨ (K r h' ∧ Kept (fun l => decide (l ∈ args.flatMap locA)) φ φ' h h' w w')) := by
  refine content_gen R (fun M' hM hc => ?_) H
  refine ⟨by simpa using hv.1, fun j x hj => ?_⟩
  rw [List.getElem?_map] at hj
  obtain ⟨x', hx', rfl⟩ := Option.map_eq_some_iff.1 hj
  obtain ⟨u, h1, h2⟩ := hv.2 j x' hx'
  exact ⟨u, h1, imA_V R hM (fun l hl => hc l (List.mem_flatMap.2 ⟨x', List.mem_of_getElem? hx', hl⟩)) h2⟩
theorem clB_V {φ' : Phi} {x : CV} {u : Value} (hx : clB x = true) (hv : V φ M x u) : V φ' M x u := by
  cases x with
  | pt _ _ _ _ => cases hx
  | sl _ _ _ _ => cases hx
  | clo g caps =>
    cases caps with
    | nil => obtain ⟨vs, h1, h2, _⟩ := hv; exact ⟨vs, h1, h2, fun j l hj => by simp at hj⟩
    | cons _ _ => cases hx
  | _ => exact hv
theorem clA_VA {φ' : Phi} {x : AV} {u : Value} (hx : clA x = true) (hv : VA φ M x u) : VA φ' M x u := by
  cases x with
  | one x =>
    have hx' : clB x = true := hx
    cases x with
    | c v => exact hv
    | _ => exact clB_V (φ' := φ') hx' (show V φ M _ u from hv)
  | agg xs =>
    obtain ⟨us, h1, h2, h3⟩ := hv
    refine ⟨us, h1, h2, fun j y hj => ?_⟩
    obtain ⟨u, h4, h5⟩ := h3 j y hj
    exact ⟨u, h4, clB_V ((List.all_eq_true.1 hx) y (List.mem_of_getElem? hj)) h5⟩
  | tup xs => cases hx
  | any => trivial
theorem closed_call {Kl : AV → AH → Prop} (R : Rep G φ M h w) {g : Nat} {args : List AV} {vs : List Value} (hcl : args.all clA = true) (hv : VAs φ M args vs) (H : ACall P g args [] (calK2 args h K Kl)) :
    Calls P g vs.toArray w fun e w' => ∃ v r h' φ' M', e = .returned v ∧ VA φ' M' r v ∧ Rep G φ' M' h' w' ∧ Le φ φ' ∧ MLe M M' ∧ ((Kl r h' ∧ Kept (fun _ => false) φ φ' h h' w w') ∨ (K r h' ∧ Kept (fun l => decide (l ∈ args.flatMap locA)) φ φ' h h' w w')) := by
  refine content_gen R (fun M' hM _ => ⟨hv.1, fun j x hj => ?_⟩) H
  obtain ⟨u, h1, h2⟩ := hv.2 j x hj
  exact ⟨u, h1, (clA_VA ((List.all_eq_true.1 hcl) x (List.mem_of_getElem? hj)) h2).mono (Le.refl _) hM⟩
theorem args_ev (F : FOk n φ M f a) (xs : Array Operand) (hb : ∀ x, x ∈ xs → ∀ t, x = Operand.tmp t → t < n) : VAs φ M (xs.toList.map (ev f)) (xs.toList.map a.eval) := by
  refine ⟨by simp, fun j x hj => ?_⟩
  rw [List.getElem?_map] at hj
  obtain ⟨y, hy, rfl⟩ := Option.map_eq_some_iff.1 hj
  refine ⟨a.eval y, by rw [List.getElem?_map, hy]; rfl, ev_V F (fun t ht => hb y ?_ t ht)⟩
  exact Array.mem_toList_iff.1 (List.mem_of_getElem? hy)
theorem locs_or (args : List AV) : args.all clA = false ∨ args.flatMap locA = [] := by
  cases hcl : args.all clA with
  | false => exact .inl rfl
  | true =>
    refine .inr ?_
    simp only [List.flatMap_eq_nil_iff]
    exact fun x hx => noloc_closed ((List.all_eq_true.1 hcl) x hx)
set_option maxHeartbeats 1000000 in
theorem callv_sound {Kl : AV → AH → Prop} {Kf : List Nat → AV → AH → Prop} (dst : Option Tmp) (ty : TypeId) (pos : String) (aft : Array Edge) (guard : Option (Nat × Bool)) (g : Operand) (args : Array Operand) (tys : Array TypeId) (R : Rep G φ M h w) (F : FOk n φ M f a) (hb : ∀ t, Operand.tmp t ∈ (⟨.value g, args, tys⟩ : Call).operands → t < n)
    {gg : Nat} {caps : List Nat} (hgc : ev f g = .one (.clo gg caps)) (H : callA2 P gg (args.toList.map (ev f) ++ caps.map fun l => .one (.pt l 0 0 0)) h K Kl Kf) (hS : ∀ l, S l = false → touchA (.call ⟨.value g, args, tys⟩) f l = false) (A : After G φ M h w a S dst K next) (Al : After G φ M h w a (fun _ => false) dst Kl next) (Af : ∀ q : List Nat, ((args.toList.map (ev f) ++ caps.map fun l => AV.one (.pt l 0 0 0)).all clA = false ∨ q = []) → After G φ M h w a (fun l => decide (l ∈ q)) dst (Kf q) next) : Oper.wp P ⟨dst, .call ⟨.value g, args, tys⟩, ty, pos, aft, guard⟩ a w next Q := by
  have E : ∀ x, x ∈ (⟨.value g, args, tys⟩ : Call).operands → VA φ M (ev f x) (a.eval x) := fun x hx => ev_V F (fun t ht => hb t (ht ▸ hx))
  simp only [Call.operands] at E hb
  have eg := E g (by simp)
  rw [hgc] at eg
  obtain ⟨cvs, eg, hcl, hcv⟩ := eg
  have eargs := args_ev F args (fun x hx t ht => hb t (by subst ht; simp [hx]))
  have wargs : VAs φ M (args.toList.map (ev f) ++ caps.map fun l => AV.one (.pt l 0 0 0)) (args.toList.map a.eval ++ cvs) := by
    refine ⟨by simp [hcl], fun j x hj => ?_⟩
    rcases Nat.lt_or_ge j (args.toList.map (ev f)).length with hlt | hge
    · rw [List.getElem?_append_left hlt] at hj
      obtain ⟨u, h1, h2⟩ := eargs.2 j x hj
      exact ⟨u, by rw [List.getElem?_append_left (by simpa using hlt)]; exact h1, h2⟩
    · rw [List.getElem?_append_right hge, List.getElem?_map] at hj
      obtain ⟨l, hl, rfl⟩ := Option.map_eq_some_iff.1 hj
      obtain ⟨v, h1, h2⟩ := hcv _ l hl
      refine ⟨v, ?_, h2⟩
      rw [List.getElem?_append_right (by simpa using hge)]
      simpa using h1
  have hargs : (args.toList.map a.eval ++ cvs).toArray = args.map a.eval ++ cvs.toArray := by
    apply Array.toList_inj.1; simp
  have fin : ∀ (hbody : hasBody P gg = true), Calls P gg (args.toList.map a.eval ++ cvs).toArray w (fun e w' => ∃ v r h' φ' M', e = .returned v ∧ VA φ' M' r v ∧ Rep G φ' M' h' w' ∧ Le φ φ' ∧ MLe M M' ∧ ((Kl r h' ∧ Kept (fun _ => false) φ φ' h h' w w') ∨ (K r h' ∧ Kept S φ φ' h h' w w'))) → Oper.wp P ⟨dst, .call ⟨.value g, args, tys⟩, ty, pos, aft, guard⟩ a w next Q := by
    intro hbody hC
    rw [hargs] at hC
    simp only [Oper.wp, execOp, resolve, eg, Deferred.ofValue, Sem.run_bind, Sem.run_pure, Result.andThen_ok, invoke]
    simp only [Array.empty_append, Array.append_empty, hasBody_enters hbody, Oper.upon]
    refine Calls.mono hC fun e w' he => ?_
    obtain ⟨v, r, h', φ', M', rfl, hv, R', hle, hM, hk⟩ := he
    rcases hk with ⟨hk, hK⟩ | ⟨hk, hK⟩
    · exact Al r v h' φ' M' w' hk R' hle hM hv hK
    · exact A r v h' φ' M' w' hk R' hle hM hv hK
  unfold callA2 at H
  rcases H with ⟨hbody, hcall⟩ | ⟨hncl, hbody, hcall⟩ | hext | ⟨hcla, hbody, hcall⟩ | ⟨q, hncl, hbody, hcall⟩
  · have hC : Calls P gg (args.map a.eval ++ cvs.toArray) w _ := hargs ▸ content_call2 R wargs hcall
    simp only [Oper.wp, execOp, resolve, eg, Deferred.ofValue, Sem.run_bind, Sem.run_pure, Result.andThen_ok, invoke]
    simp only [Array.empty_append, Array.append_empty, hasBody_enters hbody, Oper.upon]
    refine Calls.mono hC fun e w' he => ?_
    obtain ⟨v, r, h', φ', M', rfl, hv, R1, hle, hM, hk⟩ := he
    rcases hk with ⟨hk, hK⟩ | ⟨hk, hK⟩
    · exact Al r v h' φ' M' w' hk R1 hle hM hv hK
    · exact Af _ (locs_or _) r v h' φ' M' w' hk R1 hle hM hv hK
  · refine fin hbody ?_
    refine (hcall φ M w _ R.rebase wargs).mono ?_
    rintro e w' ⟨v, r, h', φ', M', rfl, hv, hk, R1, hle⟩
    refine ⟨v, r, h', φ', M', rfl, hv, R.back R1, hle, R1.mon, .inr ⟨hk, fun l p ho hs => ?_⟩⟩
    have := hS l hs
    simp only [touchA, hgc] at this
    rw [Bool.not_eq_false'] at this
    rw [this] at hncl
    cases hncl
  · obtain ⟨v, r, hrun, hv, hk⟩ := hext G φ M w _ R wargs
    rw [hargs] at hrun
    simp only [Oper.wp, execOp, resolve, eg, Deferred.ofValue, Sem.run_bind, Sem.run_pure, Result.andThen_ok, invoke, Array.empty_append, Array.append_empty, hrun, Oper.upon]
    exact Al r v h φ M w hk R (Le.refl _) (MLe.refl _) hv (Kept.refl _ _ _ _)
  · have hC : Calls P gg (args.map a.eval ++ cvs.toArray) w _ := hargs ▸ closed_call R hcla wargs hcall
    simp only [Oper.wp, execOp, resolve, eg, Deferred.ofValue, Sem.run_bind, Sem.run_pure, Result.andThen_ok, invoke]
    simp only [Array.empty_append, Array.append_empty, hasBody_enters hbody, Oper.upon]
    refine Calls.mono hC fun e w' he => ?_
    obtain ⟨v, r, h', φ', M', rfl, hv, R1, hle, hM, hk⟩ := he
    rcases hk with ⟨hk, hK⟩ | ⟨hk, hK⟩
    · exact Al r v h' φ' M' w' hk R1 hle hM hv hK
    · exact Af _ (locs_or _) r v h' φ' M' w' hk R1 hle hM hv hK
  · have hc : Calls P gg (args.map a.eval ++ cvs.toArray) w _ := hargs ▸ hcall φ M w _ R.rebase wargs
    simp only [Oper.wp, execOp, resolve, eg, Deferred.ofValue, Sem.run_bind, Sem.run_pure, Result.andThen_ok, invoke]
    simp only [Array.empty_append, Array.append_empty, hasBody_enters hbody, Oper.upon]
    refine Calls.mono hc fun e w' he => ?_
    obtain ⟨v, r, h', φ', M', rfl, hv, hk, R1, hle, hK⟩ := he
    exact Af q (.inl hncl) r v h' φ' M' w' hk (R.back R1) hle R1.mon hv hK
set_option maxHeartbeats 1000000 in
theorem call_sound (dst : Option Tmp) (ty : TypeId) (pos : String) (aft : Array Edge) (guard : Option (Nat × Bool)) (c : Call) (R : Rep G φ M h w) (F : FOk n φ M f a) (hb : ∀ t, Operand.tmp t ∈ c.operands → t < n)
    (H : aop P (.call c) f h K) (hS : ∀ l, S l = false → touchA (.call c) f l = false) (A : After G φ M h w a S dst K next) : Oper.wp P ⟨dst, .call c, ty, pos, aft, guard⟩ a w next Q := by
  obtain ⟨callee, args, tys⟩ := c
  have E : ∀ x, x ∈ (⟨callee, args, tys⟩ : Call).operands → VA φ M (ev f x) (a.eval x) := fun x hx => ev_V F (fun t ht => hb t (ht ▸ hx))
  simp only [aop] at H
  split at H
  · rename_i g
    split at H
    · rename_i gg caps hgc
      refine callv_sound (Kl := K) (Kf := fun _ => K) dst ty pos aft guard g args tys R F hb hgc H hS A (fun v u h' φ' M' w' hk R' hle hM hv hK => A v u h' φ' M' w' hk R' hle hM hv (fun l p ho _ => hK l p ho rfl)) (fun q hncl v u h' φ' M' w' hk R' hle hM hv hK => A v u h' φ' M' w' hk R' hle hM hv (fun l p ho hs => ?_))
      rcases hncl with hncl | rfl
      · have := hS l hs
        simp only [touchA, hgc] at this
        rw [Bool.not_eq_false'] at this
        rw [this] at hncl
        cases hncl
      · exact hK l p ho (by simp)
    · exact H.elim
  · -- len
    simp only [Call.operands] at E hb
    split at H
    · rename_i x t hxs hts
      have hargs : args = #[x] := Array.toList_inj.1 hxs
      have htys : tys = #[t] := Array.toList_inj.1 hts
      subst hargs htys
      have ex := E x (by simp)
      have fin : ∀ (q : Int), (Builtin.len_ #[t] ty #[a.eval x]).run P w = .ok (.int .i64 q) w → K (.one (.c (.int .i64 q))) h → Oper.wp P ⟨dst, .call ⟨.builtin .len, #[x], #[t]⟩, ty, pos, aft, guard⟩ a w next Q := by
        intro q hr hk
        have := A.val (v := .one (.c (.int .i64 q))) R hk (mk_c _)
        simpa [Oper.wp, execOp, resolve, invoke, builtin, hr, Oper.upon] using this
      have sl : ∀ (ad : Option Addr) (m c : Nat), (elemA P t).isSome = true → a.eval x = .slice ad m c → (Builtin.len_ #[t] ty #[a.eval x]).run P w = .ok (.int .i64 m) w := by
        intro ad m c he hu
        obtain ⟨e, he⟩ := Option.isSome_iff_exists.1 he
        rw [hu]
        simp [Builtin.len_, run_underlying (elemA_spec he), goInt]
      split at H
      · rename_i s hx
        rw [hx] at ex
        have ex := VA_c ex
        exact fin _ (by rw [ex]; exact run_len_string (P := P) (w := w) t ty s (strA_spec H.1)) H.2
      · rename_i hx
        rw [hx] at ex
        have hu : a.eval x = .slice none 0 0 := by
          generalize a.eval x = ux at ex
          cases (show V0 M .nl ux from ex)
          rfl
        exact fin _ (sl _ _ _ H.1 hu) H.2
      · rename_i hx
        rw [hx] at ex
        have hu : ∃ ad, a.eval x = .slice ad 0 0 := by
          generalize a.eval x = ux at ex
          cases (show V0 M .emp ux from ex) with
          | emp ad => exact ⟨ad, rfl⟩
        obtain ⟨ad, hu⟩ := hu
        exact fin _ (sl _ _ _ H.1 hu) H.2
      · rename_i es hx
        rw [hx] at ex
        have hu : ∃ ad c, a.eval x = .slice ad es.length c := by
          generalize a.eval x = ux at ex
          cases (show V0 M (.im es) ux from ex) with
          | im0 ad c => exact ⟨_, _, rfl⟩
          | im _ _ b o c C hks hc hm hV => exact ⟨_, _, rfl⟩
        obtain ⟨ad, c, hu⟩ := hu
        exact fin _ (sl _ _ _ H.1 hu) H.2
      · rename_i l g off len hx
        obtain ⟨he, ho, H⟩ := H
        obtain ⟨q, hq⟩ := Option.isSome_iff_exists.1 ho
        rw [hx] at ex
        obtain ⟨p, _, _, _, hcase⟩ := sl_at R hq ex
        rcases hcase with ⟨_, _, rfl, _, ad, hu⟩ | ⟨_, hu⟩
        · exact fin _ (sl _ _ _ he hu) H
        · exact fin _ (sl _ _ _ he hu) H
      · exact H.elim
    · exact H.elim
  · -- cap
    simp only [Call.operands] at E hb
    split at H
    · rename_i x t hxs hts
      have hargs : args = #[x] := Array.toList_inj.1 hxs
      have htys : tys = #[t] := Array.toList_inj.1 hts
      subst hargs htys
      have ex := E x (by simp)
      obtain ⟨he, H⟩ := H
      obtain ⟨e, he⟩ := Option.isSome_iff_exists.1 he
      obtain ⟨v, u', h', hrun, hv, hk, R', hko⟩ := cap_sound (P := P) R ty he ex H
      have := A v u' h' φ M w hk R' (Le.refl _) (MLe.refl _) hv (fun l p ho _ => ⟨rfl, hko l p ho⟩)
      simpa [Oper.wp, execOp, resolve, invoke, builtin, hrun, Oper.upon] using this
    · exact H.elim
  · -- append
    simp only [Call.operands] at E hb
    split at H
    · rename_i s x t t2 hxs hts
      have hargs : args = #[s, x] := Array.toList_inj.1 hxs
      have htys : tys = #[t, t2] := Array.toList_inj.1 hts
      subst hargs htys
      have es := E s (by simp)
      have ex := E x (by simp)
      obtain ⟨e, he, H⟩ := H.elim
      obtain ⟨k, hk, H⟩ := H.elim
      obtain ⟨by_, hby, H⟩ := H.elim
      obtain ⟨z, hz, H⟩ := H.elim
      obtain ⟨hzk, hk0, hb0, H⟩ := H
      obtain ⟨r, hr, H⟩ := H.elim
      obtain ⟨φ', v, u', h', w', hrun, hv, hkv, R', hle, hkept⟩ := app_sound R t2 ty z he hk hby hz hzk hk0 hb0 ex es hr H
      have := A v u' h' φ' M w' hkv R' hle (MLe.refl _) hv (fun l p ho hs => hkept l p ho (by simpa [touchA] using hS l hs))
      simpa [Oper.wp, execOp, resolve, invoke, builtin, hrun, Oper.upon] using this
    · exact H.elim
  · -- copy
    simp only [Call.operands] at E hb
    split at H
    · rename_i s x t t2 hxs hts
      have hargs : args = #[s, x] := Array.toList_inj.1 hxs
      have htys : tys = #[t, t2] := Array.toList_inj.1 hts
      subst hargs htys
      have es := E s (by simp)
      have ex := E x (by simp)
      obtain ⟨e, he, H⟩ := H.elim
      obtain ⟨k, hk, H⟩ := H.elim
      obtain ⟨r, hr, H⟩ := H.elim
      obtain ⟨φ', v, u', h', w', hrun, hv, hkv, R', hle, hkept⟩ := copy_sound (P := P) R t2 ty he hk ex es hr H
      have := A v u' h' φ' M w' hkv R' hle (MLe.refl _) hv (fun l p ho hs => hkept l p ho (by simpa [touchA] using hS l hs))
      simpa [Oper.wp, execOp, resolve, invoke, builtin, hrun, Oper.upon] using this
    · exact H.elim
  · -- clear
    simp only [Call.operands] at E hb
    split at H
    · rename_i s t hxs hts
      have hargs : args = #[s] := Array.toList_inj.1 hxs
      have htys : tys = #[t] := Array.toList_inj.1 hts
      subst hargs htys
      have es := E s (by simp)
      obtain ⟨e, he, H⟩ := H.elim
      obtain ⟨z, hz, H⟩ := H.elim
      obtain ⟨hz0, H⟩ := H
      obtain ⟨φ', v, u', h', w', hrun, hv, hkv, R', hle, hkept⟩ := clear_sound (P := P) R ty he hz hz0 es H
      have := A v u' h' φ' M w' hkv R' hle (MLe.refl _) hv (fun l p ho hs => hkept l p ho (by simpa [touchA] using hS l hs))
      simpa [Oper.wp, execOp, resolve, invoke, builtin, hrun, Oper.upon] using this
    · exact H.elim
  · -- min
    simp only [Call.operands] at E hb
    split at H
    · rename_i x y hxs
      have hargs : args = #[x, y] := Array.toList_inj.1 hxs
      subst hargs
      have ex := E x (by simp)
      have ey := E y (by simp)
      split at H
      · rename_i k p k' q hx hy
        rw [hx] at ex
        rw [hy] at ey
        have ex := VA_c ex
        have ey := VA_c ey
        have := A.val (v := .one (.c (.int k (if q < p then q else p)))) R H (mk_c _)
        simpa [Oper.wp, execOp, resolve, invoke, builtin, ex, ey, Builtin.min_, Builtin.min2, Oper.upon] using this
      · exact H.elim
    · exact H.elim
  · -- max
    simp only [Call.operands] at E hb
    split at H
    · rename_i x y hxs
      have hargs : args = #[x, y] := Array.toList_inj.1 hxs
      subst hargs
      have ex := E x (by simp)
      have ey := E y (by simp)
      split at H
      · rename_i k p k' q hx hy
        rw [hx] at ex
        rw [hy] at ey
        have ex := VA_c ex
        have ey := VA_c ey
        have := A.val (v := .one (.c (.int k (if p < q then q else p)))) R H (mk_c _)
        simpa [Oper.wp, execOp, resolve, invoke, builtin, ex, ey, Builtin.max_, Builtin.max2, Oper.upon] using this
      · exact H.elim
    · exact H.elim
  · exact H.elim
theorem aop_sound (o : Oper) (R : Rep G φ M h w) (F : FOk n φ M f a) (hb : ∀ t, Operand.tmp t ∈ o.op.operands → t < n) (H : aop P o.op f h K) (hS : ∀ l, S l = false → touchA o.op f l = false) (A : After G φ M h w a S o.dst K next) : o.wp P a w next Q := by
  have E : ∀ x, x ∈ o.op.operands → VA φ M (ev f x) (a.eval x) := fun x hx => ev_V F (fun t ht => hb t (ht ▸ hx))
  obtain ⟨dst, op, ty, pos, aft, guard⟩ := o
  cases op
  case build t parts => exact build_sound dst ty pos aft guard t parts R (fun x hx => E x (by simpa [Op.operands] using hx)) H A
  case buildSlice t len parts => exact buildSlice_sound dst ty pos aft guard t len parts R (fun x hx => E x (by simpa [Op.operands] using hx)) H A
  case makeSlice t l c => exact makeSlice_sound dst ty pos aft guard t l c R (E l (by simp [Op.operands])) (E c (by simp [Op.operands])) H A
  case slice t x lo hi mx => exact slice_sound dst ty pos aft guard t x lo hi mx R E H A
  case makeFunc fn first captured => exact makeFunc_sound dst ty pos aft guard fn first captured R (fun x hx => E x (by simp only [Op.operands, Array.mem_append]; exact .inr (by simpa using hx))) H A
  case convert src td x => exact convert_sound dst ty pos aft guard src td x R F (fun t ht => hb t (by simp [Op.operands, ht])) H A
  case call c => exact call_sound dst ty pos aft guard c R F hb H hS A
  case store t x y =>
    refine aop1_sound ⟨dst, _, ty, pos, aft, guard⟩ R F hb H (fun t' x' y' l g i off he hx j hj => ?_) A
    cases he
    have := hS j hj
    intro e
    subst e
    simp [touchA, hx, toVal] at this
  all_goals exact aop1_sound ⟨dst, _, ty, pos, aft, guard⟩ R F hb H (fun t x y l g i off he => by cases he) A
theorem aop2_sound {Kl : AV → AH → Prop} {Kf : List Nat → AV → AH → Prop} (o : Oper) (R : Rep G φ M h w) (F : FOk n φ M f a) (hb : ∀ t, Operand.tmp t ∈ o.op.operands → t < n) (H : aop2 P o.op f h K Kl Kf) (hS : ∀ l, S l = false → touchA o.op f l = false) (A : After G φ M h w a S o.dst K next) (Al : After G φ M h w a (fun _ => false) o.dst Kl next) (Af : ∀ q : List Nat, After G φ M h w a (fun l => decide (l ∈ q)) o.dst (Kf q) next) : o.wp P a w next Q := by
  obtain ⟨dst, op, ty, pos, aft, guard⟩ := o
  cases op
  case call c =>
    obtain ⟨callee, args, tys⟩ := c
    cases callee with
    | value g =>
      simp only [aop2] at H
      split at H
      · rename_i gg caps hgc
        exact callv_sound dst ty pos aft guard g args tys R F hb hgc H hS A Al (fun q _ => Af q)
      · exact H.elim
    | _ => exact aop_sound ⟨dst, _, ty, pos, aft, guard⟩ R F hb H hS A
  all_goals exact aop_sound ⟨dst, _, ty, pos, aft, guard⟩ R F hb H hS A
end
end Go.BL
end
section
namespace Go.BL
open Go.RowKit
set_option linter.unusedVariables false
set_option linter.unusedSimpArgs false
def lenA (P : Program) (h : AH) (t : TypeId) (v : AV) : Option AV := match v with
  | .one (.c (.string s)) => if strA P t = true then some (.one (.c (.int .i64 s.size))) else none
  | .one .nl => if (elemA P t).isSome = true then some (.one (.c (.int .i64 0))) else none
  | .one .emp => if (elemA P t).isSome = true then some (.one (.c (.int .i64 0))) else none
  | .one (.im es) => if (elemA P t).isSome = true then some (.one (.c (.int .i64 es.length))) else none
  | .one (.sl l g _ len) => if (elemA P t).isSome = true ∧ (objR h l g).isSome = true then some (.one (.c (.int .i64 len))) else none
  | _ => none
def mmT (b : Bool) (x y : AV) : Option (AV × Option Nat) := match x, y with
  | .one (.c (.int ki a)), .one (.c (.int _ c)) => some (.one (.c (.int ki (if b = true then (if a < c then c else a) else (if c < a then c else a)))), none)
  | _, _ => none
def takeA (P : Program) (op : Op) (f : AF) (h : AH) : Option (AV × Option Nat) :=
  match op with
  | .move x => some (ev f x, none)
  | .assign x => some (ev f x, none)
  | .pick c a b => (match ev f c with | .one (.c (.bool t)) => some (if t = true then ev f a else ev f b, none) | _ => none)
  | .load t a => (match ev f a with
    | .one (.pt l g i off) => (objR h l g).bind fun q => (q.2.2[i]?).bind fun e => (partA P t e off).map fun v => (v, some l)
    | .one (.pel e off) => (partA P t e off).map fun v => (v, none)
    | _ => none)
  | .fieldAddr s x i => (match ev f x with
    | .one (.pt l g j off) => if (objR h l g).isSome = true then (offA P s i).map fun q => (.one (.pt l g j (off + q.1)), none) else none
    | .one (.pel e off) => (offA P s i).map fun q => (.one (.pel e (off + q.1)), none)
    | _ => none)
  | .indexAddr t x ix => (elemA P t).bind fun e => (sizeA P e).bind fun n => (match ev f x, ev f ix with
    | .one (.sl l g off len), .one (.c (.int _ i)) => (objR h l g).bind fun q => if q.2.1 = n ∧ 0 ≤ i ∧ i < len then some (.one (.pt l g (off + i.toNat) 0), none) else none
    | .one (.im es), .one (.c (.int _ i)) => (es[i.toNat]?).bind fun e => if 0 ≤ i ∧ e.length = n then some (.one (.pel e 0), none) else none
    | _, _ => none)
  | .build t parts => (placesA P t).bind fun pl => (zeroA P t).bind fun z => (partsA f parts.toList).bind fun ps => (fillA (pl[·]?) z ps).map fun cs => (.agg cs, none)
  | .nilCheck x => (match ev f x with
    | .one (.pt l g i off) => if (objR h l g).isSome = true then some (.one (.pt l g i off), none) else none
    | .one (.pel e off) => some (.one (.pel e off), none)
    | _ => none)
  | .binOp op t x y _ => (match ev f x, ev f y with
    | .one (.c a), .one (.c b) => (binA P op t a b).map fun v => (.one (.c v), none)
    | _, _ => none)
  | .unOp op _ x => (match ev f x with
    | .one (.c a) => (unA op a).map fun v => (.one (.c v), none)
    | _ => none)
  | .extract x i => (match ev f x with
    | .tup xs => (xs[i]?).map fun v => (v, none)
    | _ => none)
  | .convert src dst x => (match kindA P dst, ev f x with
    | some k, .one (.c (.int _ n)) => if (P.underlying src).isSome = true then some (.one (.c (.int k (k.wrap n))), none) else none
    | _, _ => none)
  | .call c => (match c.callee, c.args.toList, c.argTypes.toList with
    | .builtin .len, [x], [t] => (lenA P h t (ev f x)).map fun v => (v, none)
    | .builtin .min, [x, y], _ => mmT false (ev f x) (ev f y)
    | .builtin .max, [x, y], _ => mmT true (ev f x) (ev f y)
    | _, _, _ => none)
  | .slice t x lo hi mx => (match mx, ev f x with
    | none, .one (.im es) => (elemA P t).bind fun e => (sizeA P e).bind fun k => (boundA 0 (lo.map (ev f))).bind fun i => (boundA es.length (hi.map (ev f))).bind fun j =>
      if ksB k es = true ∧ i ≤ j ∧ j ≤ es.length then some (.one (.im ((es.drop i).take (j - i))), none) else none
    | none, .one (.sl l g off len) => (elemA P t).bind fun e => (objR h l g).bind fun q => (boundA 0 (lo.map (ev f))).bind fun i => (boundA len (hi.map (ev f))).bind fun j =>
      if sizeA P e = some q.2.1 ∧ i ≤ j ∧ off + j ≤ q.2.2.length then some (if off + i < q.2.2.length ∨ i = 0 then .one (.sl l g (off + i) (j - i)) else .one (.im []), none) else none
    | none, .one (.c (.string s)) => (boundA 0 (lo.map (ev f))).bind fun i => (boundA s.size (hi.map (ev f))).bind fun j =>
      if strA P t = true ∧ i ≤ j ∧ j ≤ s.size then some (.one (.c (.string (s.extract i j))), none) else none
    | _, _ => none)
  | _ => none
section
variable {P : Program} {G : Cx} {φ : Phi} {M : Im} {h : AH} {w : World} {f : AF} {n : Nat} {a : Act}
def ImOk (M : Im) (w : World) : Prop := ∀ a v, M a v → w.cell? a = some v
def Anywhere (P : Program) (a : Act) (o : Oper) (u : Value) : Prop := ∀ w : World, (execOp a.eval o).run P w = .ok (.value u) w
def loadOp : Op → Bool
  | .load .. => true
  | _ => false
structure Take (P : Program) (G : Cx) (φ : Phi) (M : Im) (h : AH) (w : World) (a : Act) (o : Oper) (v : AV) (ol : Option Nat) (u : Value) (Hf : World → Prop) : Prop where
  val : VA φ M v u
  now : Hf w
  run : ∀ w' : World, Hf w' → (execOp a.eval o).run P w' = .ok (.value u) w'
  none : ol = none → ∀ w', ImOk M w' → Hf w'
  free : loadOp o.op = false → ∀ w', Hf w'
  strong : ∀ l, ol = some l → ∃ ob, h[l]? = some ob ∧ (∀ pl, φ l = some pl → pl.vir = false) ∧ (ob.isOwn = false → ∀ w', ImOk M w' → Hf w') ∧ (∀ p, Own φ h l p → ∀ w' : World, w'.heap[p.b]? = w.heap[p.b]? → Hf w') ∧
    (plainA v = true → ∀ G' φ' M' h' w', Rep G' φ' M' h' w' → Le φ φ' → h'[l]? = some ob → Hf w')
theorem plain_det1 {x : AV} (hx : plainA1 x = true) {φ' : Phi} {M' : Im} {u u' : Value} (hv : VA1 φ M x u) (hv' : VA1 φ' M' x u') : u = u' := by
  cases x with
  | one x =>
    cases x with
    | c v => exact (show u = v from hv).trans (show u' = v from hv').symm
    | _ => cases hx
  | agg xs =>
    obtain ⟨us, rfl, h2, h3⟩ := hv
    obtain ⟨us', rfl, h2', h3'⟩ := hv'
    congr 1
    have : us = us' := by
      apply List.ext_getElem?
      intro j
      cases hj : xs[j]? with
      | none =>
        have := List.getElem?_eq_none_iff.1 hj
        rw [List.getElem?_eq_none (by omega), List.getElem?_eq_none (by omega)]
      | some x =>
        obtain ⟨u1, q1, q2⟩ := h3 j x hj
        obtain ⟨u2, q3, q4⟩ := h3' j x hj
        have hp := (List.all_eq_true.1 hx) x (List.mem_of_getElem? hj)
        cases x with
        | c v => rw [q1, q3, V_c q2, V_c q4]
        | _ => cases hp
    rw [this]
  | _ => cases hx
theorem part_plain1 {P : Program} {t : TypeId} {cs : List CV} {off : Nat} {v : AV} (hv : partA P t cs off = some v) (hp : plainA v = true) : plainA1 v = true := by
  unfold partA at hv
  split at hv
  · split at hv
    · split at hv
      · cases hv; exact hp
      · cases hv
    · cases hv
  · obtain ⟨x, _, rfl⟩ := Option.map_eq_some_iff.1 hv; exact hp
  · cases hv
set_option maxHeartbeats 1000000 in
theorem im_cut {φ : Phi} {M : Im} {es : List (List CV)} {u : Value} {k i j : Nat} (ex : VA φ M (.one (.im es)) u) (hkes : ∀ e, e ∈ es → e.length = k) (hij : i ≤ j) (hjl : j ≤ es.length) : ∃ ad cap, u = .slice ad es.length cap ∧ es.length ≤ cap ∧ ∀ m, j ≤ m → m ≤ cap → V0 M (.im ((es.drop i).take (j - i))) (.slice (if m = i then ad else ad.map (·.add (i * k))) (j - i) (m - i)) := by
  cases (show V0 M (.im es) u from ex) with
  | im0 ad cap =>
    refine ⟨ad, cap, rfl, Nat.zero_le _, fun m _ _ => ?_⟩
    simp only [List.length_nil] at hjl
    have h1 : j = 0 := by omega
    have h2 : i = 0 := by omega
    subst h1 h2
    simp only [List.drop_nil, List.take_nil, Nat.sub_zero]
    exact V0.im0 _ _
  | im _ k' b o cap C hks hc hm hV =>
    refine ⟨_, cap, rfl, hc, fun m hjm hmc => ?_⟩
    have hlen : ((es.drop i).take (j - i)).length = j - i := by simp; omega
    by_cases he : j - i = 0
    · rw [he, List.take_zero]
      exact V0.im0 _ _
    · have hkk : k' = k := by
        cases es with
        | nil => simp at hlen; omega
        | cons e r => exact (hks e (by simp)).symm.trans (hkes e (by simp))
      subst hkk
      have hmi : ¬ m = i := by omega
      have hget : ∀ (q : Nat) (e : List CV), ((es.drop i).take (j - i))[q]? = some e → es[i + q]? = some e := fun q e hq => by
        rw [List.getElem?_take] at hq
        split at hq
        · rwa [List.getElem?_drop] at hq
        · cases hq
      have hv := V0.im (M := M) ((es.drop i).take (j - i)) k' b (o + i * k') (m - i) (fun q j' => C (i + q) j') (fun e he => hks e (List.mem_of_mem_drop (List.mem_of_mem_take he))) (by rw [hlen]; omega) (fun q e j' y hq hj' => by
          have := hm (i + q) e j' y (hget q e hq) hj'
          rw [Nat.add_mul] at this
          rw [show o + i * k' + (q * k' + j') = o + (i * k' + q * k' + j') by omega]
          exact this) (fun q e j' y hq hj' => hV (i + q) e j' y (hget q e hq) hj')
      rw [hlen] at hv
      rw [if_neg hmi, Option.map_some, add_lit]
      exact hv
theorem bounds0 {lo hi : Option Operand} (elo : ∀ y, lo = some y → VA φ M (ev f y) (a.eval y)) (ehi : ∀ y, hi = some y → VA φ M (ev f y) (a.eval y)) (b : Bool) (len cap i j : Nat) (h1 : boundA 0 (lo.map (ev f)) = some i) (h2 : boundA len (hi.map (ev f)) = some j) (hij : i ≤ j) (hjc : j ≤ cap) (w : World) :
    (Instr.sliceBounds b len cap (lo.map a.eval) (hi.map a.eval) none).run P w = .ok (i, j, cap) w := by
  have r1 := fun code => run_bound (P := P) elo _ _ h1 j hij code w
  have r2 := fun code => run_bound (P := P) ehi _ _ h2 cap hjc code w
  unfold Instr.sliceBounds
  cases hi with
  | none =>
    simp [boundA] at h2
    subst h2
    cases lo with
    | none => simp [boundA] at h1; subst h1; simp
    | some y => simp only [Option.map_some, Option.map_none] at r1 ⊢; simp [r1]
  | some y2 =>
    simp only [Option.map_some, Option.map_none] at r2 ⊢
    cases lo with
    | none => simp [boundA] at h1; subst h1; simp [r2]
    | some y => simp only [Option.map_some, Option.map_none] at r1 ⊢; simp [r1, r2]
theorem sl_cut {φ : Phi} (R : Rep G φ M h w) {l g off len i j : Nat} {q : TypeId × Nat × List (List CV)} (hq : objR h l g = some q) {u : Value} (ex : VA φ M (.one (.sl l g off len)) u) (hij : i ≤ j) (hjl : off + j ≤ q.2.2.length) :
    ∃ ad cap, u = .slice ad len cap ∧ j ≤ cap ∧ ((off + i < q.2.2.length ∨ i = 0) → VA φ M (.one (.sl l g (off + i) (j - i))) (.slice (if cap = i then ad else ad.map (·.add (i * q.2.1))) (j - i) (cap - i))) := by
  obtain ⟨p, hp, hg, hpk, hcase⟩ := sl_at R hq ex
  obtain ⟨p', hp', _, _, _, hlc, _⟩ := R.readR hq
  rw [hp] at hp'
  cases hp'
  rcases hcase with ⟨hv, rfl, rfl, hes, ad, hu⟩ | ⟨hv, hu⟩
  · rw [hes] at hjl
    simp at hjl
    have h1 : j = 0 := by omega
    have h2 : i = 0 := by omega
    subst h1 h2
    refine ⟨ad, 0, hu, Nat.le_refl _, fun _ => ?_⟩
    exact ⟨rfl, p, hp, by omega, fun _ => .inl ⟨hv, rfl, rfl, ad, rfl⟩⟩
  · refine ⟨_, p.cap - off, hu, by omega, fun hc => ?_⟩
    refine ⟨rfl, p, hp, by omega, fun _ => .inr ⟨hv, ?_⟩⟩
    rw [hpk, Nat.add_mul, Nat.sub_sub]
    congr 1
    split
    · rename_i hci
      have : i = 0 := by omega
      subst this
      simp
    · rw [Option.map_some, add_lit]
theorem takeA_run (o : Oper) (R : Rep G φ M h w) (F : FOk n φ M f a) (hb : ∀ t, Operand.tmp t ∈ o.op.operands → t < n) {v : AV} {ol : Option Nat} (H : takeA P o.op f h = some (v, ol)) : ∃ u Hf, Take P G φ M h w a o v ol u Hf := by
  have E : ∀ x, x ∈ o.op.operands → VA φ M (ev f x) (a.eval x) := fun x hx => ev_V F (fun t ht => hb t (ht ▸ hx))
  clear hb F
  have any : ∀ u, VA φ M v u → Anywhere P a o u → ol = none → ∃ u Hf, Take P G φ M h w a o v ol u Hf := fun u hu hr ho =>
    ⟨u, fun _ => True, hu, trivial, fun w' _ => hr w', fun _ _ _ => trivial, fun _ _ => trivial, fun l hl => by rw [ho] at hl; cases hl⟩
  obtain ⟨dst, op, ty, pos, aft, guard⟩ := o
  cases op <;> simp only [Op.operands] at E <;> simp only [takeA] at H <;> try (cases H; done)
  case slice t x lo hi mx =>
    split at H
    · rename_i _ es hx
      obtain ⟨e0, he, H⟩ := Option.bind_eq_some_iff.1 H
      obtain ⟨k, hk, H⟩ := Option.bind_eq_some_iff.1 H
      obtain ⟨i, hi', H⟩ := Option.bind_eq_some_iff.1 H
      obtain ⟨j, hj', H⟩ := Option.bind_eq_some_iff.1 H
      split at H
      · rename_i hc
        cases H
        have e := E x (by simp)
        rw [hx] at e
        obtain ⟨ad, cap, eu, hcap, hval⟩ := im_cut e (ksB_Ks hc.1) hc.2.1 hc.2.2
        have hu := elemA_spec he
        have hjc : j ≤ cap := Nat.le_trans hc.2.2 hcap
        refine any _ (V_VA (φ := φ) (M := M) (x := .im ((es.drop i).take (j - i))) (hval cap hjc (Nat.le_refl _))) (fun w => ?_) rfl
        have hb := bounds0 (P := P) (fun y hy => E y (by simp [hy])) (fun y hy => E y (by simp [hy])) true es.length cap i j hi' hj' hc.2.1 hjc w
        simp only [execOp, Instr.sliceAt, Instr.slice, eu, Sem.run_bind, run_underlying hu, Result.andThen_ok, Option.map_none, Option.isSome_none, hb, run_sizeA hk, Sem.run_pure]
      · cases H
    · rename_i _ l g off len hx
      obtain ⟨e0, he, H⟩ := Option.bind_eq_some_iff.1 H
      obtain ⟨q, hq, H⟩ := Option.bind_eq_some_iff.1 H
      obtain ⟨i, hi', H⟩ := Option.bind_eq_some_iff.1 H
      obtain ⟨j, hj', H⟩ := Option.bind_eq_some_iff.1 H
      split at H
      · rename_i hc
        cases H
        have e := E x (by simp)
        rw [hx] at e
        obtain ⟨hk, hij, hjl⟩ := hc
        obtain ⟨ad, cap, hex, hjc, hV⟩ := sl_cut R hq e hij hjl
        have hu := elemA_spec he
        have hVV : VA φ M (if off + i < q.2.2.length ∨ i = 0 then .one (.sl l g (off + i) (j - i)) else .one (.im [])) (.slice (if cap = i then ad else ad.map (·.add (i * q.2.1))) (j - i) (cap - i)) := by
          split
          · rename_i hcc
            exact hV hcc
          · rename_i hcc
            have hji : j - i = 0 := by omega
            rw [hji]
            exact V_VA (V0.im0 _ _)
        refine any _ hVV (fun w => ?_) rfl
        have hb := bounds0 (P := P) (fun y hy => E y (by simp [hy])) (fun y hy => E y (by simp [hy])) true len cap i j hi' hj' hij hjc w
        simp only [execOp, Instr.sliceAt, Instr.slice, hex, Sem.run_bind, run_underlying hu, Result.andThen_ok, Option.map_none, Option.isSome_none, hb, run_sizeA hk, Sem.run_pure]
      · cases H
    · rename_i _ s hx
      obtain ⟨i, hi', H⟩ := Option.bind_eq_some_iff.1 H
      obtain ⟨j, hj', H⟩ := Option.bind_eq_some_iff.1 H
      split at H
      · rename_i hc
        cases H
        obtain ⟨hs, hij, hjl⟩ := hc
        have e := E x (by simp)
        rw [hx] at e
        have ex := VA_c e
        have hu := strA_spec hs
        refine any (.string (s.extract i j)) rfl (fun w => ?_) rfl
        have hb := bounds0 (P := P) (fun y hy => E y (by simp [hy])) (fun y hy => E y (by simp [hy])) false s.size s.size i j hi' hj' hij hjl w
        simp only [execOp, Instr.sliceAt, Instr.slice, ex, Sem.run_bind, run_underlying hu, Result.andThen_ok, Option.map_none, Option.isSome_none, hb, Sem.run_pure, Bool.false_eq_true, if_false]
      · cases H
    · cases H
  case move x =>
    cases H
    exact any _ (E x (by simp)) (fun w => by simp only [execOp, Sem.run_pure]) rfl
  case assign x =>
    cases H
    exact any _ (E x (by simp)) (fun w => by simp only [execOp, Sem.run_pure]) rfl
  case pick c x y =>
    split at H
    · rename_i t hc
      have ec := E c (by simp)
      rw [hc] at ec
      have ec := VA_c ec
      simp only [Option.some.injEq, Prod.mk.injEq] at H
      obtain ⟨rfl, rfl⟩ := H
      cases t
      · exact any (a.eval y) (E y (by simp)) (fun w => by simp only [execOp, ec, asBool, Sem.run_bind, Sem.run_pure, Result.andThen_ok]; rfl) rfl
      · exact any (a.eval x) (E x (by simp)) (fun w => by simp only [execOp, ec, asBool, Sem.run_bind, Sem.run_pure, Result.andThen_ok]; rfl) rfl
    · cases H
  case load t x =>
    have e := E x (by simp)
    split at H
    · rename_i l g i off hx
      obtain ⟨q, hq, H⟩ := Option.bind_eq_some_iff.1 H
      obtain ⟨el, hel, H⟩ := Option.bind_eq_some_iff.1 H
      obtain ⟨v', hv, H⟩ := Option.map_eq_some_iff.1 H
      simp only [Prod.mk.injEq] at H
      obtain ⟨rfl, rfl⟩ := H
      rw [hx] at e
      obtain ⟨p, hp, hg, hk, hvir, eu⟩ := pt_at R hq e
      obtain ⟨p', hp', _, _, _, _, _, hcc⟩ := R.readR hq
      rw [hp] at hp'
      cases hp'
      have hc := (hcc i el hel).2
      obtain ⟨C, hC⟩ := choose_cells hc
      obtain ⟨u, hu, hr⟩ := run_loadVarA (P := P) (b := p.b) (o := i * q.2.1) hv C (fun j y hj => (hC j y hj).2)
      have exec : ∀ w' : World, (loadVar t ⟨p.b, i * q.2.1 + off, none⟩).run P w' = .ok u w' → (execOp a.eval ⟨dst, .load t x, ty, pos, aft, guard⟩).run P w' = .ok (.value u) w' := fun w' hw => by
        rw [← hk] at hw
        simp only [execOp, Instr.loadAt, Instr.sureAddr, eu, Sem.run_bind, Sem.run_pure, Result.andThen_ok, hw]
      have hob : ∃ ob, h[l]? = some ob := by
        unfold objR at hq
        split at hq
        · exact ⟨_, by assumption⟩
        · exact ⟨_, by assumption⟩
        · cases hq
      obtain ⟨ob, hob⟩ := hob
      refine ⟨u, fun w' => (loadVar t ⟨p.b, i * q.2.1 + off, none⟩).run P w' = .ok u w', hu, hr w (fun j y hj => (hC j y hj).1), exec, fun h0 => by (cases h0), fun h0 => by (cases h0), fun l' hl' => ?_⟩
      cases hl'
      refine ⟨ob, hob, fun pl hpl => (by rw [hp] at hpl; cases hpl; exact hvir), fun hno w' hi => ?_, fun p2 ho w' hw' => ?_, fun hpl G' φ' M' h' w' R' hle hl' => ?_⟩
      · -- stands for good
        refine hr w' (fun j y hj => ?_)
        unfold objR at hq
        rw [hob] at hq
        cases ob with
        | dead => simp at hq
        | own _ _ _ _ _ => cases hno
        | ro g' t' k' es' =>
          simp only at hq
          split at hq
          · cases hq
            obtain ⟨p2, q1, q2, q3, q4, q5, q6, q7⟩ := R.obj l _ hob
            rw [hp] at q1
            cases q1
            obtain ⟨q8, C2, q9⟩ := q7 hvir
            obtain ⟨q10, q11⟩ := q9 _ el j y hel hj
            rw [q3] at q10
            have h1 := (R.imm _ _ q10).1
            have h2 := (hC j y hj).1
            rw [h1] at h2
            rw [← h2]
            exact hi _ _ q10
          · cases hq
      · have : p2 = p := by obtain ⟨_, _, _, _, _, _, hp2, _⟩ := ho; rw [hp] at hp2; cases hp2; rfl
        subst this
        refine hr w' (fun j y hj => ?_)
        rw [cell_same (w := w) hw']
        exact (hC j y hj).1
      · have hq' : objR h' l g = some q := by
          unfold objR at hq ⊢
          rw [hob] at hq
          rw [hl']
          exact hq
        obtain ⟨p', h1, h2, h3, _, _, _, hcc'⟩ := R'.readR hq'
        have hpp : p' = p := by
          obtain ⟨p2, h4, h5⟩ := hle l p hp
          rw [h1] at h4
          cases h4
          rcases h5 with h5 | h5
          · exact h5
          · omega
        subst hpp
        obtain ⟨C', hC'⟩ := choose_cells (hcc' i el hel).2
        obtain ⟨u', hu', hr'⟩ := run_loadVarA (P := P) (b := p'.b) (o := i * q.2.1) hv C' (fun j y hj => (hC' j y hj).2)
        have hp1 := part_plain1 hv hpl
        have conv : ∀ (φ : Phi) (M : Im) (u : Value), VA φ M v' u → VA1 φ M v' u := fun φ M u hu => by
          cases v' with
          | tup _ => cases hp1
          | one x => exact hu
          | agg x => exact hu
          | any => trivial
        have := plain_det1 hp1 (conv _ _ _ hu) (conv _ _ _ hu')
        rw [this]
        exact hr' w' (fun j y hj => (hC' j y hj).1)
    · rename_i el off hx
      obtain ⟨v', hv, H⟩ := Option.map_eq_some_iff.1 H
      simp only [Prod.mk.injEq] at H
      obtain ⟨rfl, rfl⟩ := H
      rw [hx] at e
      generalize hax : a.eval x = ux at e
      cases (show V0 M (.pel el off) ux from e) with
      | pel _ _ b o C hm hV =>
        obtain ⟨u, hu, hr⟩ := run_loadVarA (P := P) (φ := φ) (M := M) (b := b) (o := o) hv C (fun j y hj => V0_V (hV j y hj))
        refine ⟨u, ImOk M, hu, fun a v q => (R.imm a v q).1, fun w' hi => ?_, fun _ w' hi => hi, fun h0 => by (cases h0), fun l hl => by cases hl⟩
        have hr := hr w' (fun j y hj => hi _ _ (hm j y hj))
        simp only [execOp, Instr.loadAt, Instr.sureAddr, hax, Sem.run_bind, Sem.run_pure, Result.andThen_ok, hr]
    · cases H
  case build t parts =>
    obtain ⟨pl, hpl, H⟩ := Option.bind_eq_some_iff.1 H
    obtain ⟨z, hz, H⟩ := Option.bind_eq_some_iff.1 H
    obtain ⟨ps, hps, H⟩ := Option.bind_eq_some_iff.1 H
    obtain ⟨cs, hcs, H⟩ := Option.map_eq_some_iff.1 H
    simp only [Prod.mk.injEq] at H
    obtain ⟨rfl, rfl⟩ := H
    obtain ⟨i, v, hi, hiv, hzv, hz1⟩ := zeroA_spec hz
    have hp := partsA_spec (φ := φ) (M := M) (a := a) parts.toList ps (fun x hx => E x (by simpa using hx)) hps
    obtain ⟨us', hf, hv⟩ := fill_of (pl[·]?) ps _ z cs v.cells.toList hp (by rw [hzv]; exact Vs_cvOf _ hz1) hcs
    have hq : (parts.toList.map fun p => (p.1, a.eval p.2)) = (parts.map fun (i, x) => (i, a.eval x)).toList := by simp
    rw [hq] at hf
    have hb : P.built t (parts.map fun (i, x) => (i, a.eval x)).toList = some us'.toArray := by
      unfold placesA at hpl
      split at hpl
      · rename_i fs hfs
        simp only [Program.built, hi, hfs, hiv, hpl]
        simpa using hf
      · cases hpl
    exact any _ ⟨us', rfl, hv⟩ (fun w' => by
      have hr := run_build (P := P) w' t _ _ hb
      simp only [execOp, Sem.run_bind, hr, Sem.run_pure, Result.andThen_ok]) rfl
  case nilCheck x =>
    have e := E x (by simp)
    split at H
    · rename_i l g i off hx
      split at H
      · rename_i ho
        cases H
        obtain ⟨qo, hqo⟩ := Option.isSome_iff_exists.1 ho
        rw [hx] at e
        obtain ⟨p, hp, hg, hk, hvir, eu⟩ := pt_at R hqo e
        exact any _ e (fun w' => by simp only [execOp, eu, Sem.run_pure]) rfl
      · cases H
    · rename_i el off hx
      cases H
      rw [hx] at e
      have hp : ∃ b o, a.eval x = .pointer (some ⟨b, o, none⟩) := by
        generalize a.eval x = ux at e
        cases (show V0 M (.pel el off) ux from e) with
        | pel _ _ b o C hm hV => exact ⟨_, _, rfl⟩
      obtain ⟨b, o, hax⟩ := hp
      exact any _ e (fun w' => by simp only [execOp, hax, Sem.run_pure]) rfl
    · cases H
  case fieldAddr s x i =>
    have e := E x (by simp)
    have key : ∀ (b o : Nat) (q : Nat × TypeId), offA P s i = some q → a.eval x = .pointer (some ⟨b, o, none⟩) → Anywhere P a ⟨dst, .fieldAddr s x i, ty, pos, aft, guard⟩ (.pointer (some ⟨b, o + q.1, none⟩)) := by
      intro b o q hq eu w'
      unfold offA at hq
      split at hq
      · rename_i fs hfs
        obtain ⟨fd, hfd, hq⟩ := Option.bind_eq_some_iff.1 hq
        split at hq
        · cases hq
        · rename_i hne
          cases hq
          cases hi : P.info? fd.type with
          | none => simp [hi] at hne
          | some inf =>
            simp [hi] at hne
            simp [execOp, Instr.fieldAt, Instr.sureAddr, eu, underlying, hfs, hfd, fieldPlace, sizeOf, typeInfo, hi, hne, add_lit, Nat.add_assoc]
      · cases hq
    split at H
    · rename_i l g j off hx
      split at H
      · rename_i ho
        obtain ⟨qo, hqo⟩ := Option.isSome_iff_exists.1 ho
        obtain ⟨q, hq, H⟩ := Option.map_eq_some_iff.1 H
        simp only [Prod.mk.injEq] at H
        obtain ⟨rfl, rfl⟩ := H
        rw [hx] at e
        obtain ⟨p, hp, hg, hk, hvir, eu⟩ := pt_at R hqo e
        exact any _ ⟨rfl, p, hp, by omega, fun _ => ⟨hvir, by rw [Nat.add_assoc]⟩⟩ (key _ _ _ hq eu) rfl
      · cases H
    · rename_i el off hx
      obtain ⟨q, hq, H⟩ := Option.map_eq_some_iff.1 H
      simp only [Prod.mk.injEq] at H
      obtain ⟨rfl, rfl⟩ := H
      rw [hx] at e
      generalize hax : a.eval x = ux at e
      cases (show V0 M (.pel el off) ux from e) with
      | pel _ _ b o C hm hV =>
        refine any _ ?_ (key _ _ _ hq hax) rfl
        rw [Nat.add_assoc]
        exact V0.pel el (off + q.1) b o C hm hV
    · cases H
  case indexAddr t x ix =>
    have e := E x (by simp)
    have ei := E ix (by simp)
    obtain ⟨el, hel, H⟩ := Option.bind_eq_some_iff.1 H
    obtain ⟨m, hm, H⟩ := Option.bind_eq_some_iff.1 H
    have hu := elemA_spec hel
    have key : ∀ (b o len cap : Nat) (kk : IntKind) (i : Int), a.eval x = .slice (some ⟨b, o, none⟩) len cap → a.eval ix = .int kk i → 0 ≤ i → i < len → Anywhere P a ⟨dst, .indexAddr t x ix, ty, pos, aft, guard⟩ (.pointer (some ⟨b, o + i.toNat * m, none⟩)) := by
      intro b o len cap kk i eu eu2 h0 h1 w'
      simp only [execOp, Instr.indexAt, asIntOf, eu, eu2, Sem.run_bind, Sem.run_pure, Result.andThen_ok, underlying, run_program, hu]
      rw [if_pos ⟨h0, h1⟩]
      simp [hu, run_sizeA hm, add_lit, Nat.add_assoc]
    split at H
    · rename_i l g off len kk i hx hix
      obtain ⟨q, hq, H⟩ := Option.bind_eq_some_iff.1 H
      split at H
      · rename_i hc
        obtain ⟨hkm, h0, h1⟩ := hc
        simp only [Option.some.injEq, Prod.mk.injEq] at H
        obtain ⟨rfl, rfl⟩ := H
        rw [hx] at e
        rw [hix] at ei
        obtain ⟨p, hp, hg, hk, hcase⟩ := sl_at R hq e
        rcases hcase with ⟨_, _, hl0, _⟩ | ⟨hvir, eu⟩
        · omega
        · refine any _ ?_ (key _ _ _ _ _ _ eu (VA_c ei) h0 h1) rfl
          refine ⟨rfl, p, hp, by omega, fun _ => ⟨hvir, ?_⟩⟩
          rw [hk, hkm, Nat.add_zero, Nat.add_mul]
      · cases H
    · rename_i es kk i hx hix
      obtain ⟨ee, hee, H⟩ := Option.bind_eq_some_iff.1 H
      split at H
      · rename_i hc
        obtain ⟨h0, hkn⟩ := hc
        simp only [Option.some.injEq, Prod.mk.injEq] at H
        obtain ⟨rfl, rfl⟩ := H
        rw [hx] at e
        rw [hix] at ei
        have hil := (List.getElem?_eq_some_iff.1 hee).1
        generalize hax : a.eval x = ux at e
        cases (show V0 M (.im es) ux from e) with
        | im0 _ _ => simp at hee
        | im _ k b o cap C hk hc hm' hV =>
          have hkk : k = m := by rw [← hkn]; exact (hk ee (List.mem_of_getElem? hee)).symm
          subst hkk
          refine any _ ?_ (key _ _ _ _ _ _ hax (VA_c ei) h0 (by omega)) rfl
          exact V0.pel (M := M) ee 0 b (o + i.toNat * k) (C i.toNat) (fun j x hj => by rw [Nat.add_assoc]; exact hm' i.toNat ee j x hee hj) (fun j x hj => hV i.toNat ee j x hee hj)
      · cases H
    · cases H
  case binOp op t x y ty2 =>
    have e := E x (by simp)
    have ey := E y (by simp)
    split at H
    · rename_i p q hx hy
      obtain ⟨v', hv, H⟩ := Option.map_eq_some_iff.1 H
      simp only [Prod.mk.injEq] at H
      obtain ⟨rfl, rfl⟩ := H
      rw [hx] at e
      rw [hy] at ey
      have e := VA_c e
      have ey := VA_c ey
      refine any _ (mk_c _) (fun w' => ?_) rfl
      have hg : (eqGuard op t x y p q).run P w' = .ok () w' := by
        have hv2 := hv
        unfold binA at hv2
        split at hv2
        · exact run_guard_int _ _ _ _ _ _ _ _
        · exact run_guard_string _ _ _ _ _ _
        · exact run_guard_bool _ _ _ _ _ _
        · cases hv2
      simp only [execOp, e, ey, Sem.run_bind, hg, run_binA t hv, Sem.run_pure, Result.andThen_ok]
    · cases H
  case unOp op t x =>
    have e := E x (by simp)
    split at H
    · rename_i p hx
      obtain ⟨v', hv, H⟩ := Option.map_eq_some_iff.1 H
      simp only [Prod.mk.injEq] at H
      obtain ⟨rfl, rfl⟩ := H
      rw [hx] at e
      have e := VA_c e
      refine any _ (mk_c _) (fun w' => ?_) rfl
      have hr : (Op.unary op p).run P w' = .ok v' w' := by
        unfold unA at hv
        split at hv <;> cases hv <;> simp [Op.unary, Op.intArith]
      simp only [execOp, e, Sem.run_bind, hr, Sem.run_pure, Result.andThen_ok]
    · cases H
  case extract x i =>
    have e := E x (by simp)
    split at H
    · rename_i xs hx
      obtain ⟨v', hv, H⟩ := Option.map_eq_some_iff.1 H
      simp only [Prod.mk.injEq] at H
      obtain ⟨rfl, rfl⟩ := H
      rw [hx] at e
      obtain ⟨us, eu, h1, h2⟩ := e
      obtain ⟨u, h3, h4⟩ := h2 i v' hv
      exact any u (VA1_VA h4) (fun w' => by simp only [execOp, Instr.extract, eu, Sem.run_bind, List.getElem?_toArray, h3, Sem.run_pure, Result.andThen_ok]) rfl
    · cases H
  case convert src dst2 x =>
    have e := E x (by simp)
    split at H
    · rename_i k kk m hk hx
      split at H
      · rename_i hsrc
        simp only [Option.some.injEq, Prod.mk.injEq] at H
        obtain ⟨rfl, rfl⟩ := H
        rw [hx] at e
        have e := VA_c e
        refine any _ (mk_c _) (fun w' => ?_) rfl
        obtain ⟨d, hd⟩ := Option.isSome_iff_exists.1 hsrc
        have hr : (convert src dst2 (.int kk m)).run P w' = .ok (.int k (k.wrap m)) w' := by
          simp [convert, run_underlying hd, run_underlying (kindA_spec hk), Conv.intToInt]
        simp only [execOp, e, Sem.run_bind, hr, Sem.run_pure, Result.andThen_ok]
      · cases H
    · cases H
  case call c =>
    obtain ⟨cl, args, tys⟩ := c
    simp only at H
    split at H
    · rename_i x t hxs hts
      have hargs : args = #[x] := Array.toList_inj.1 hxs
      have htys : tys = #[t] := Array.toList_inj.1 hts
      subst hargs htys
      have ex := E x (by simp [Call.operands])
      obtain ⟨v', hv, H⟩ := Option.map_eq_some_iff.1 H
      simp only [Prod.mk.injEq] at H
      obtain ⟨rfl, rfl⟩ := H
      have fin : ∀ (q : Int), (∀ w : World, (Builtin.len_ #[t] ty #[a.eval x]).run P w = .ok (.int .i64 q) w) → v' = .one (.c (.int .i64 q)) → ∃ u Hf, Take P G φ M h w a ⟨dst, .call ⟨.builtin .len, #[x], #[t]⟩, ty, pos, aft, guard⟩ v' none u Hf := by
        intro q hr hk
        subst hk
        refine any _ (mk_c _) (fun w' => ?_) rfl
        simp [execOp, resolve, invoke, builtin, hr w']
      have sl : ∀ (ad : Option Addr) (m c : Nat), (elemA P t).isSome = true → a.eval x = .slice ad m c → ∀ w : World, (Builtin.len_ #[t] ty #[a.eval x]).run P w = .ok (.int .i64 m) w := by
        intro ad m c he hu w'
        obtain ⟨e, he⟩ := Option.isSome_iff_exists.1 he
        rw [hu]
        simp [Builtin.len_, run_underlying (elemA_spec he), goInt]
      unfold lenA at hv
      split at hv
      · rename_i s hx
        rw [hx] at ex
        have ex := VA_c ex
        split at hv
        · rename_i hs
          cases hv
          exact fin _ (fun w => by rw [ex]; exact run_len_string (P := P) (w := w) t ty s (strA_spec hs)) rfl
        · cases hv
      · rename_i hx
        rw [hx] at ex
        split at hv
        · rename_i hs
          cases hv
          have hu : a.eval x = .slice none 0 0 := by
            generalize a.eval x = ux at ex
            cases (show V0 M .nl ux from ex)
            rfl
          exact fin _ (sl _ _ _ hs hu) rfl
        · cases hv
      · rename_i hx
        rw [hx] at ex
        split at hv
        · rename_i hs
          cases hv
          have hu : ∃ ad, a.eval x = .slice ad 0 0 := by
            generalize a.eval x = ux at ex
            cases (show V0 M .emp ux from ex) with
            | emp ad => exact ⟨ad, rfl⟩
          obtain ⟨ad, hu⟩ := hu
          exact fin _ (sl _ _ _ hs hu) rfl
        · cases hv
      · rename_i es hx
        rw [hx] at ex
        split at hv
        · rename_i hs
          cases hv
          have hu : ∃ ad c, a.eval x = .slice ad es.length c := by
            generalize a.eval x = ux at ex
            cases (show V0 M (.im es) ux from ex) with
            | im0 ad c => exact ⟨_, _, rfl⟩
            | im _ k b o c C hks hc hm hV => exact ⟨_, _, rfl⟩
          obtain ⟨ad, c, hu⟩ := hu
          exact fin _ (sl _ _ _ hs hu) rfl
        · cases hv
      · rename_i l g off len hx
        rw [hx] at ex
        split at hv
        · rename_i hs
          cases hv
          obtain ⟨q, hq⟩ := Option.isSome_iff_exists.1 hs.2
          obtain ⟨p, _, _, _, hcase⟩ := sl_at R hq ex
          rcases hcase with ⟨_, _, rfl, _, ad, hu⟩ | ⟨_, hu⟩
          · exact fin _ (sl _ _ _ hs.1 hu) rfl
          · exact fin _ (sl _ _ _ hs.1 hu) rfl
        · cases hv
      · cases hv
    · rename_i x y hxs
      have hargs : args = #[x, y] := Array.toList_inj.1 hxs
      subst hargs
      have ex := E x (by simp [Call.operands])
      have ey := E y (by simp [Call.operands])
      unfold mmT at H
      split at H
      · rename_i k p k' q hx hy
        rw [hx] at ex
        rw [hy] at ey
        have ex := VA_c ex
        have ey := VA_c ey
        cases H
        refine any _ (mk_c _) (fun w' => ?_) rfl
        simp [execOp, resolve, invoke, builtin, ex, ey, Builtin.min_, Builtin.min2]
      · cases H
    · rename_i x y hxs
      have hargs : args = #[x, y] := Array.toList_inj.1 hxs
      subst hargs
      have ex := E x (by simp [Call.operands])
      have ey := E y (by simp [Call.operands])
      unfold mmT at H
      split at H
      · rename_i k p k' q hx hy
        rw [hx] at ex
        rw [hy] at ey
        have ex := VA_c ex
        have ey := VA_c ey
        cases H
        refine any _ (mk_c _) (fun w' => ?_) rfl
        simp [execOp, resolve, invoke, builtin, ex, ey, Builtin.max_, Builtin.max2]
      · cases H
    · cases H
end
end Go.BL
end
