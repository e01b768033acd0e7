/- How an abstract heap follows a world through stores, new blocks and appends. Conditions: none. -/
import Derived.Test.YtjfmfcdempkpdaaA0
import Derived.Laws.AppendOwn
import Derived.Laws.IdiomCopy
import Derived.Lib.SmallJoins
namespace Go.AL
open Go.RowKit
set_option linter.unusedVariables false
set_option linter.unusedSimpArgs false
section
variable {base : Nat} {w0 : World} {φ : Phi} {h : AH} {w : World}
theorem hlt {l : Nat} {o : AO} (hl : h[l]? = some o) : l < h.length := (List.getElem?_eq_some_iff.1 hl).1
theorem set_get {l l' : Nat} {o o' : AO} (hl : (h.set l o)[l']? = some o') : (l' = l ∧ o' = o ∧ l < h.length) ∨ (l' ≠ l ∧ h[l']? = some o') := by
  by_cases e : l' = l
  · subst e
    have hlt' : l' < h.length := by simpa using (List.getElem?_eq_some_iff.1 hl).1
    rw [List.getElem?_set_self hlt'] at hl
    exact .inl ⟨rfl, (Option.some.inj hl).symm, hlt'⟩
  · rw [List.getElem?_set_ne (Ne.symm e)] at hl
    exact .inr ⟨e, hl⟩
/-- An object's own block is written: nothing else. -/
theorem Rep.write (R : Rep base w0 φ h w) {l t u : Nat} {full : Bool} {cs : List CV} (hl : h[l]? = some (.own t u full cs)) {w' : World} (hos : w'.os = w.os) (htp : w'.tape = w.tape) (hout : w'.output = w.output)
    (hsz : w'.heap.size = w.heap.size) (hoth : ∀ b, b ≠ (φ l).b → w'.heap[b]? = w.heap[b]?) (C : Array Value) (fr : Nat × Nat) (hblk : w'.heap[(φ l).b]? = some (.cells C t fr)) (hC : C.size = (φ l).cap) (hfr : okFr fr C.size) (hfr2 : u ≠ 0 → fr = (0, 0))
    (full' : Bool) (cs' : List CV) (hlen : cs'.length ≤ C.size) (hfull : full' = true → cs'.length = C.size) (hwf : ∀ x ∈ cs', x.wf h.length) (hcs : ∀ (j : Nat) (x : CV), cs'[j]? = some x → C[j]? = some (x.conc φ)) :
    Rep base w0 φ (h.set l (.own t u full' cs')) w' := by
  have hb0 : base ≤ (φ l).b := (R.obj l _ hl).1
  obtain ⟨_, ho, C0, fr0, g3, g4, g5, g6, g7, g8, _⟩ := R.obj l _ hl
  refine ⟨⟨hos.trans R.below.os, htp.trans R.below.tape, hout.trans R.below.output, by rw [hsz]; exact R.below.size, fun k hk => by rw [hoth k (by omega)]; exact R.below.block k hk⟩, by rw [hsz]; exact R.hb, ?_, ?_, ?_⟩
  · intro l' o' hl'
    rcases set_get hl' with ⟨rfl, rfl, _⟩ | ⟨hne, hl'⟩
    · exact ⟨hb0, ho, C, fr, hblk, hC, hfr, hlen, hfull, fun hu => ⟨hfr2 hu, by rw [hC, ← g4]; exact (g8 hu).2⟩, hcs⟩
    · cases o' with
      | dead => trivial
      | ro cs => exact (R.obj l' _ hl').move (R.wf l' _ hl') (fun _ _ => rfl) rfl (hoth _ (by have := (R.obj l' _ hl').1.1; omega))
      | own t2 u2 f2 cs2 => exact (R.obj l' _ hl').move (R.wf l' _ hl') (fun _ _ => rfl) rfl (hoth _ (R.inj l' l _ _ hl' hl rfl rfl hne))
  · intro l' o' hl' x hx
    rw [List.length_set]
    rcases set_get hl' with ⟨rfl, rfl, _⟩ | ⟨hne, hl'⟩
    · exact hwf x hx
    · exact R.wf l' o' hl' x hx
  · intro i j oi oj hi hj hoi hoj hne
    have key : ∀ (i : Nat) (oi : AO), (h.set l (.own t u full' cs'))[i]? = some oi → oi.isOwn = true → ∃ o, h[i]? = some o ∧ o.isOwn = true := by
      intro i oi hi hoi
      rcases set_get hi with ⟨rfl, rfl, _⟩ | ⟨_, hi⟩
      · exact ⟨_, hl, rfl⟩
      · exact ⟨_, hi, hoi⟩
    obtain ⟨_, a, b⟩ := key i oi hi hoi
    obtain ⟨_, c, d⟩ := key j oj hj hoj
    exact R.inj i j _ _ a c b d hne
/-- An object is let go. -/
theorem Rep.kill (R : Rep base w0 φ h w) (l : Nat) : Rep base w0 φ (h.set l .dead) w := by
  refine ⟨R.below, R.hb, ?_, ?_, ?_⟩
  · intro l' o' hl'
    rcases set_get hl' with ⟨rfl, rfl, _⟩ | ⟨_, hl'⟩
    · trivial
    · exact R.obj l' o' hl'
  · intro l' o' hl' x hx
    rw [List.length_set]
    rcases set_get hl' with ⟨rfl, rfl, _⟩ | ⟨_, hl'⟩
    · cases hx
    · exact R.wf l' o' hl' x hx
  · intro i j oi oj hi hj hoi hoj hne
    rcases set_get hi with ⟨rfl, rfl, _⟩ | ⟨_, hi⟩
    · cases hoi
    · rcases set_get hj with ⟨rfl, rfl, _⟩ | ⟨_, hj⟩
      · cases hoj
      · exact R.inj i j oi oj hi hj hoi hoj hne
/-- The same block under a new number; the old number is dead. -/
theorem Rep.renew (R : Rep base w0 φ h w) {l t u : Nat} {full : Bool} {cs : List CV} (hl : h[l]? = some (.own t u full cs)) :
    Rep base w0 (phiAt φ h.length (φ l)) (h.set l .dead ++ [.own t u full cs]) w := by
  have hlen : (h.set l AO.dead).length = h.length := List.length_set
  have hag : ∀ k, k < h.length → phiAt φ h.length (φ l) k = φ k := fun k hk => phiAt_lt φ _ hk
  have K := R.kill l
  have hget : ∀ (i : Nat) (o : AO), (h.set l AO.dead ++ [AO.own t u full cs])[i]? = some o → ((h.set l AO.dead)[i]? = some o ∧ i < h.length) ∨ (i = h.length ∧ o = .own t u full cs) := by
    intro i o hi
    rcases Nat.lt_or_ge i h.length with hlt | hge
    · left; rw [List.getElem?_append_left (by rw [hlen]; exact hlt)] at hi; exact ⟨hi, hlt⟩
    · right
      rw [List.getElem?_append_right (by rw [hlen]; exact hge), hlen] at hi
      have hz : i - h.length = 0 := by
        have := (List.getElem?_eq_some_iff.1 hi).1
        simpa using this
      rw [hz] at hi
      simp at hi
      exact ⟨by omega, hi.symm⟩
  refine ⟨R.below, R.hb, ?_, ?_, ?_⟩
  · intro i o hi
    rcases hget i o hi with ⟨hi, hlt⟩ | ⟨rfl, rfl⟩
    · exact (K.obj i o hi).move (n := h.length) (by have := K.wf i o hi; rwa [hlen] at this) hag (hag i hlt) rfl
    · obtain ⟨g1, g2, C, fr, g3, g4, g5, g6, g7, g8, g9⟩ := R.obj l _ hl
      refine ⟨by rw [phiAt_at]; exact g1, by rw [phiAt_at]; exact g2, C, fr, by rw [phiAt_at]; exact g3, by rw [phiAt_at]; exact g4, g5, g6, g7, g8, fun j x hj => ?_⟩
      rw [conc_eq_of φ _ hag (R.wf l _ hl x (List.mem_of_getElem? hj))]
      exact g9 j x hj
  · intro i o hi x hx
    rw [List.length_append, hlen, List.length_singleton]
    rcases hget i o hi with ⟨hi, _⟩ | ⟨rfl, rfl⟩
    · exact CV.wf_mono (Nat.le_succ _) (by have := K.wf i o hi x hx; rwa [hlen] at this)
    · exact CV.wf_mono (Nat.le_succ _) (R.wf l _ hl x hx)
  · intro i j oi oj hi hj hoi hoj hne
    have old : ∀ (i : Nat) (oi : AO), (h.set l AO.dead)[i]? = some oi → oi.isOwn = true → i ≠ l ∧ h[i]? = some oi := by
      intro i oi hi hoi
      rcases set_get hi with ⟨rfl, rfl, _⟩ | h'
      · cases hoi
      · exact h'
    rcases hget i oi hi with ⟨hi', hil⟩ | ⟨rfl, rfl⟩ <;> rcases hget j oj hj with ⟨hj', hjl⟩ | ⟨rfl, rfl⟩
    · rw [hag i hil, hag j hjl]
      exact R.inj i j oi oj (old i oi hi' hoi).2 (old j oj hj' hoj).2 hoi hoj hne
    · rw [hag i hil, phiAt_at]
      exact R.inj i l oi _ (old i oi hi' hoi).2 hl hoi rfl (old i oi hi' hoi).1
    · rw [hag j hjl, phiAt_at]
      exact fun e => R.inj j l oj _ (old j oj hj' hoj).2 hl hoj rfl (old j oj hj' hoj).1 e.symm
    · exact absurd rfl hne
/-- What was made later is let go, where nothing told leads to it. -/
theorem Rep.take (R : Rep base w0 φ h w) (n : Nat) (hn : n ≤ h.length) (hwf : ∀ (l : Nat) (o : AO), l < n → h[l]? = some o → ∀ x ∈ o.cs, x.wf n) : Rep base w0 φ (h.take n) w := by
  have hget : ∀ (i : Nat) (o : AO), (h.take n)[i]? = some o → i < n ∧ h[i]? = some o := by
    intro i o hi
    rw [List.getElem?_take] at hi
    split at hi
    · exact ⟨by assumption, hi⟩
    · cases hi
  refine ⟨R.below, R.hb, fun l o hl => R.obj l o (hget l o hl).2, fun l o hl x hx => ?_, fun i j oi oj hi hj a b c => R.inj i j oi oj (hget i oi hi).2 (hget j oj hj).2 a b c⟩
  rw [List.length_take, Nat.min_eq_left hn]
  exact hwf l o (hget l o hl).1 (hget l o hl).2 x hx
end

/-! ### Cells written one behind the other -/
def cset {α : Type} (cs : List α) (o : Nat) : List α → List α
  | [] => cs
  | v :: r => cset (cs.set o v) (o + 1) r
theorem cset_length {α : Type} : ∀ (vs cs : List α) (o : Nat), (cset cs o vs).length = cs.length
  | [], _, _ => rfl
  | v :: r, cs, o => by rw [cset, cset_length r]; simp
theorem cset_get {α : Type} : ∀ (vs cs : List α) (o j : Nat), o + vs.length ≤ cs.length → (cset cs o vs)[j]? = if o ≤ j ∧ j < o + vs.length then vs[j - o]? else cs[j]?
  | [], cs, o, j, _ => by simp [cset]; intro h1 h2; omega
  | v :: r, cs, o, j, h => by
    have hl : o < cs.length := by simp at h; omega
    rw [cset, cset_get r _ _ _ (by simp at h ⊢; omega)]
    by_cases h1 : o + 1 ≤ j ∧ j < o + 1 + r.length
    · rw [if_pos h1, if_pos (by simp; omega)]
      obtain ⟨u, rfl⟩ : ∃ u, j = o + 1 + u := ⟨j - (o + 1), by omega⟩
      rw [show o + 1 + u - (o + 1) = u by omega, show o + 1 + u - o = u + 1 by omega]
      rfl
    · rw [if_neg h1]
      by_cases h2 : j = o
      · subst h2
        rw [if_pos (by simp), List.getElem?_set_self hl]
        simp
      · rw [if_neg (by simp; omega), List.getElem?_set_ne (Ne.symm h2)]
/-- A run of stores, in the block. -/
theorem heap_setCells (b : Nat) (t : TypeId) (fr : Nat × Nat) : ∀ (vs : List Value) (o : Nat) (w : World) (C : List Value), w.heap[b]? = some (.cells C.toArray t fr) → (w.setCells b o vs).heap[b]? = some (.cells (cset C o vs).toArray t fr)
  | [], o, w, C, h => h
  | v :: r, o, w, C, h => by
    rw [World.setCells, cset]
    refine heap_setCells b t fr r (o + 1) _ _ ?_
    simp [World.setCell, Array.getElem?_modify, h]
theorem setCells_other (b : Nat) : ∀ (vs : List Value) (o : Nat) (w : World), (w.setCells b o vs).os = w.os ∧ (w.setCells b o vs).tape = w.tape ∧ (w.setCells b o vs).output = w.output ∧ (w.setCells b o vs).heap.size = w.heap.size ∧ ∀ k, k ≠ b → (w.setCells b o vs).heap[k]? = w.heap[k]?
  | [], o, w => ⟨rfl, rfl, rfl, rfl, fun _ _ => rfl⟩
  | v :: r, o, w => by
    rw [World.setCells]
    obtain ⟨h1, h2, h3, h4, h5⟩ := setCells_other b r (o + 1) (w.setCell ⟨b, o, none⟩ v)
    exact ⟨h1, h2, h3, h4.trans (by simp), fun k hk => (h5 k hk).trans (Below.heap_setCell w _ _ _ (by simpa using hk))⟩
theorem cset_conc (φ : Phi) (n : Nat) (cs : List CV) (C : List Value) (vs : List CV) (o : Nat) (hl : o + vs.length ≤ cs.length) (hlC : cs.length ≤ C.length) (hcs : ∀ (j : Nat) (x : CV), cs[j]? = some x → C[j]? = some (x.conc φ)) :
    ∀ (j : Nat) (x : CV), (cset cs o vs)[j]? = some x → (cset C o (vs.map (CV.conc φ)))[j]? = some (x.conc φ) := by
  intro j x hj
  rw [cset_get _ _ _ _ hl] at hj
  rw [cset_get _ _ _ _ (by rw [List.length_map]; omega), List.length_map]
  split
  · rename_i hc
    rw [if_pos hc] at hj
    rw [List.getElem?_map, hj]
    rfl
  · rename_i hc
    rw [if_neg hc] at hj
    exact hcs j x hj
theorem cset_mem {α : Type} {x : α} : ∀ {vs cs : List α} {o : Nat}, x ∈ cset cs o vs → x ∈ cs ∨ x ∈ vs
  | [], cs, o, h => .inl h
  | v :: r, cs, o, h => by
    rw [cset] at h
    rcases cset_mem h with h | h
    · rcases List.mem_or_eq_of_mem_set h with h | h
      · exact .inl h
      · exact .inr (by simp [h])
    · exact .inr (List.mem_cons_of_mem _ h)
section
variable {base : Nat} {w0 : World} {φ : Phi} {h : AH} {w : World}
/-- Cells of an object are stored. -/
theorem Rep.setCells (R : Rep base w0 φ h w) {l t u : Nat} {full : Bool} {cs : List CV} (hl : h[l]? = some (.own t u full cs)) (o : Nat) (vs : List CV) (hfit : o + vs.length ≤ cs.length) (hwf : ∀ x ∈ vs, x.wf h.length) :
    Rep base w0 φ (h.set l (.own t u full (cset cs o vs))) (w.setCells (φ l).b o (vs.map (CV.conc φ))) := by
  obtain ⟨g1, g2, C, fr, g3, g4, g5, g6, g7, g8, g9⟩ := R.obj l _ hl
  obtain ⟨s1, s2, s3, s4, s5⟩ := setCells_other (φ l).b (vs.map (CV.conc φ)) o w
  have hb := heap_setCells (φ l).b t fr (vs.map (CV.conc φ)) o w C.toList (by simpa using g3)
  have hcl : (cset C.toList o (vs.map (CV.conc φ))).toArray.size = C.size := by simp [cset_length]
  refine R.write hl s1 s2 s3 s4 s5 _ fr hb (by rw [hcl, g4]) (by rw [hcl]; exact g5) (fun hu => (g8 hu).1) full _ (by rw [cset_length, hcl]; exact g6) (fun hf => by rw [cset_length, hcl]; exact g7 hf) ?_ ?_
  · intro x hx
    rcases cset_mem hx with hx | hx
    · exact R.wf l _ hl x hx
    · exact hwf x hx
  · intro j x hj
    have := cset_conc φ h.length cs C.toList vs o hfit (by simpa using g6) (fun j x hj => by simpa using g9 j x hj) j x hj
    simpa using this
theorem Rep.cell (R : Rep base w0 φ h w) {l : Nat} {o : AO} (hl : h[l]? = some o) {j : Nat} {x : CV} (hj : o.cs[j]? = some x) : w.cell? (adr φ l j) = some (x.conc φ) := by
  cases o with
  | dead => cases hj
  | ro cs => exact (R.obj l _ hl).2 j x hj
  | own t u full cs =>
    obtain ⟨g1, g2, C, fr, g3, g4, g5, g6, g7, g8, g9⟩ := R.obj l _ hl
    simp only [adr, g2, Nat.zero_add]
    rw [Joins.cell_of_block g3]
    exact g9 j x hj
theorem Rep.free (R : Rep base w0 φ h w) {l t u : Nat} {full : Bool} {cs : List CV} (hl : h[l]? = some (.own t u full cs)) {j : Nat} (hj : j < cs.length) : w.frozen? (adr φ l j) = false := by
  obtain ⟨g1, g2, C, fr, g3, g4, g5, g6, g7, g8, g9⟩ := R.obj l _ hl
  simp only [adr, g2, Nat.zero_add]
  obtain ⟨lo, hi⟩ := fr
  simp only [World.frozen?, g3]
  rcases g5 with h5 | h5 <;> simp at h5 ⊢ <;> omega
end
end Go.AL
