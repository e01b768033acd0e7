/- Cells written and read, what is let go, what comes to stand for good; contracts of functions. Conditions: none. -/
import Derived.Test.YtedkpjaojdkpcaaGreatL0
namespace Go.BL
open Go.RowKit
set_option linter.unusedVariables false
set_option linter.unusedSimpArgs false

/-! ### Cells written one behind the other -/
def cset {α : Type} (cs : List α) (o : Nat) : List α → List α
  | [] => cs
  | v :: r => cset (cs.set o v) (o + 1) r
theorem cset_length {α : Type} : ∀ (vs cs : List α) (o : Nat), (cset cs o vs).length = cs.length
  | [], _, _ => rfl
  | v :: r, cs, o => by rw [cset, cset_length r]; simp
theorem cset_get {α : Type} : ∀ (vs cs : List α) (o j : Nat), o + vs.length ≤ cs.length → (cset cs o vs)[j]? = if o ≤ j ∧ j < o + vs.length then vs[j - o]? else cs[j]?
  | [], cs, o, j, _ => by simp [cset]; intro h1 h2; omega
  | v :: r, cs, o, j, h => by
    have hl : o < cs.length := by simp at h; omega
    rw [cset, cset_get r _ _ _ (by simp at h ⊢; omega)]
    by_cases h1 : o + 1 ≤ j ∧ j < o + 1 + r.length
    · rw [if_pos h1, if_pos (by simp; omega)]
      obtain ⟨u, rfl⟩ : ∃ u, j = o + 1 + u := ⟨j - (o + 1), by omega⟩
      rw [show o + 1 + u - (o + 1) = u by omega, show o + 1 + u - o = u + 1 by omega]
      rfl
    · rw [if_neg h1]
      by_cases h2 : j = o
      · subst h2
        rw [if_pos (by simp), List.getElem?_set_self hl]
        simp
      · rw [if_neg (by simp; omega), List.getElem?_set_ne (Ne.symm h2)]
theorem heap_setCells (b : Nat) (t : TypeId) (fr : Nat × Nat) : ∀ (vs : List Value) (o : Nat) (w : World) (C : List Value), w.heap[b]? = some (.cells C.toArray t fr) → (w.setCells b o vs).heap[b]? = some (.cells (cset C o vs).toArray t fr)
  | [], o, w, C, h => h
  | v :: r, o, w, C, h => by
    rw [World.setCells, cset]
    refine heap_setCells b t fr r (o + 1) _ _ ?_
    simp [World.setCell, Array.getElem?_modify, h]
theorem setCells_other (b : Nat) : ∀ (vs : List Value) (o : Nat) (w : World), (w.setCells b o vs).os = w.os ∧ (w.setCells b o vs).tape = w.tape ∧ (w.setCells b o vs).output = w.output ∧ (w.setCells b o vs).heap.size = w.heap.size ∧ ∀ k, k ≠ b → (w.setCells b o vs).heap[k]? = w.heap[k]?
  | [], o, w => ⟨rfl, rfl, rfl, rfl, fun _ _ => rfl⟩
  | v :: r, o, w => by
    rw [World.setCells]
    obtain ⟨h1, h2, h3, h4, h5⟩ := setCells_other b r (o + 1) (w.setCell ⟨b, o, none⟩ v)
    exact ⟨h1, h2, h3, h4.trans (by simp), fun k hk => (h5 k hk).trans (Below.heap_setCell w _ _ _ (by simpa using hk))⟩
theorem cset_mem {α : Type} {x : α} : ∀ {vs cs : List α} {o : Nat}, x ∈ cset cs o vs → x ∈ cs ∨ x ∈ vs
  | [], cs, o, h => .inl h
  | v :: r, cs, o, h => by
    rw [cset] at h
    rcases cset_mem h with h | h
    · rcases List.mem_or_eq_of_mem_set h with h | h
      · exact .inl h
      · exact .inr (by simp [h])
    · exact .inr (List.mem_cons_of_mem _ h)
/-- Places of different elements differ. -/
theorem place_ne {k i j i' j' : Nat} (hj : j < k) (hj' : j' < k) (h : i * k + j = i' * k + j') : i = i' ∧ j = j' := by
  have h1 : (i * k + j) / k = i := by rw [Nat.mul_comm, Nat.mul_add_div (by omega), Nat.div_eq_of_lt hj]; omega
  have h2 : (i' * k + j') / k = i' := by rw [Nat.mul_comm, Nat.mul_add_div (by omega), Nat.div_eq_of_lt hj']; omega
  have : i = i' := by rw [← h1, h, h2]
  subst this
  exact ⟨rfl, by omega⟩

section
variable {G : Cx} {φ : Phi} {M : Im} {h : AH} {w : World}
/-- An owned object's block, all at once. -/
theorem Rep.own (R : Rep G φ M h w) {l g k : Nat} {t : TypeId} {cap : Option Nat} {es : List (List CV)} (hl : h[l]? = some (.own g t k cap es)) (hne : es ≠ []) :
    ∃ p, φ l = some p ∧ p.g = g ∧ p.k = k ∧ p.vir = false ∧ es.length ≤ p.cap ∧ (∀ c, cap = some c → p.cap = c) ∧ (∀ e, e ∈ es → e.length = k) ∧ 0 < k ∧ Blk φ M w t p es := by
  obtain ⟨p, h1, h2, h3, h4, h5, h6, h7, h8⟩ := R.obj l _ hl
  cases hv : p.vir with
  | true =>
    have := h7 hv
    have : es.length = 0 := by omega
    exact absurd (List.length_eq_zero_iff.1 this) hne
  | false =>
    obtain ⟨h9, h10⟩ := h8 hv
    exact ⟨p, h1, h2, h3, hv, h4, h5, h6, by omega, h10⟩
theorem Rep.cell (R : Rep G φ M h w) {l g k i : Nat} {t : TypeId} {cap : Option Nat} {es : List (List CV)} (hl : h[l]? = some (.own g t k cap es)) {e : List CV} (hi : es[i]? = some e) :
    ∃ p, φ l = some p ∧ p.g = g ∧ p.k = k ∧ p.vir = false ∧ ∀ (j : Nat) (x : CV), e[j]? = some x → ∃ v, w.cell? ⟨p.b, i * k + j, none⟩ = some v ∧ V φ M x v := by
  have hne : es ≠ [] := by intro e; subst e; simp at hi
  obtain ⟨p, h1, h2, h3, h4, h5, h6, h7, h8, C, fr, h9, h10, h11, h12⟩ := R.own hl hne
  refine ⟨p, h1, h2, h3, h4, fun j x hj => ?_⟩
  obtain ⟨v, hv1, hv2⟩ := h12 i e j x hi hj
  rw [h3] at hv1
  exact ⟨v, by rw [Joins.cell_of_block h9]; exact hv1, hv2⟩
theorem okFr_free {C : Array Value} {t : TypeId} {fr : Nat × Nat} {b o : Nat} {w : World} (h9 : w.heap[b]? = some (.cells C t fr)) {k : Nat} (h11 : okFr fr C k) (ho : o < C.size) : w.frozen? ⟨b, o, none⟩ = false := by
  obtain ⟨lo, hi⟩ := fr
  simp only [World.frozen?, h9]
  rcases h11.1 with h5 | h5 <;> simp at h5 ⊢ <;> omega
theorem okFr_set {fr : Nat × Nat} {C : Array Value} {k o : Nat} {us : List Value} (h : okFr fr C k) (hfit : o + us.length ≤ C.size) (hu : ∀ u, u ∈ us → u.oneCell' = true) : okFr fr (cset C.toList o us).toArray k := by
  refine ⟨?_, fun i v hv => ?_⟩
  · have : (cset C.toList o us).toArray.size = C.size := by simp [cset_length]
    rw [this]; exact h.1
  · rw [List.getElem?_toArray, cset_get _ _ _ _ (by simpa using hfit)] at hv
    split at hv
    · exact hu v (List.mem_of_getElem? hv)
    · exact h.2 i v (by simpa using hv)
theorem okFr_mem {us : List Value} {k : Nat} (hu : ∀ u, u ∈ us → u.oneCell' = true) : okFr (0, 0) us.toArray k := ⟨.inl (Nat.le_refl _), fun i v hv => hu v (List.mem_of_getElem? (by simpa using hv))⟩
theorem Vs_one {vs : List CV} {us : List Value} (hus : Vs φ M vs us) : ∀ u, u ∈ us → u.oneCell' = true := fun u hu => by
  obtain ⟨j, hj⟩ := List.mem_iff_getElem?.1 hu
  have hjl : j < vs.length := by rw [← hus.1]; exact (List.getElem?_eq_some_iff.1 hj).1
  obtain ⟨u', h1, h2⟩ := hus.2 j _ (List.getElem?_eq_getElem hjl)
  rw [hj] at h1
  cases h1
  exact h2.one
theorem cell_in {k i n j : Nat} (hi : i < n) (hj : j < k) : i * k + j < n * k := by
  have : (i + 1) * k ≤ n * k := Nat.mul_le_mul_right k hi
  rw [Nat.succ_mul] at this
  omega
/-- Cells of an element are stored. -/
theorem Rep.setCells (R : Rep G φ M h w) {l g k i : Nat} {t : TypeId} {cap : Option Nat} {es : List (List CV)} (hl : h[l]? = some (.own g t k cap es)) {e : List CV} (hi : es[i]? = some e) {p : Pl} (hp : φ l = some p) (off : Nat) (vs : List CV) (us : List Value) (hus : Vs φ M vs us) (hfit : off + vs.length ≤ e.length) :
    Rep G φ M (h.set l (.own g t k cap (es.set i (cset e off vs)))) (w.setCells p.b (i * k + off) us) := by
  have hne : es ≠ [] := by intro e; subst e; simp at hi
  obtain ⟨p', h1, h2, h3, h4, h5, h6, h7, h8, C, fr, h9, h10, h11, h12⟩ := R.own hl hne
  rw [hp] at h1
  cases h1
  have hil := (List.getElem?_eq_some_iff.1 hi).1
  have hek : e.length = k := h7 e (List.mem_of_getElem? hi)
  have hin : i * k + off + us.length ≤ C.size := by
    have : (i + 1) * k ≤ p.cap * k := Nat.mul_le_mul_right k (by omega)
    rw [h10, h3]
    rw [Nat.succ_mul] at this
    have := hus.1
    omega
  obtain ⟨s1, s2, s3, s4, s5⟩ := setCells_other p.b us (i * k + off) w
  have hb := heap_setCells p.b t fr us (i * k + off) w C.toList (by simpa using h9)
  have hcl : (cset C.toList (i * k + off) us).toArray.size = C.size := by simp [cset_length]
  have W := R.write hl hp h4 s1 s2 s3 s4 s5 _ fr hb (by rw [hcl, h10]) (okFr_set h11 hin (Vs_one hus)) p.g (.inl rfl) cap h6 (es.set i (cset e off vs)) (by simpa using h5) (fun e' he' => by
      rcases List.mem_or_eq_of_mem_set he' with he' | rfl
      · exact h7 e' he'
      · rw [cset_length, hek]) (fun i' e' j x hi' hj => by
      have hCl : i * k + off + us.length ≤ C.toList.length := by simpa using hin
      simp only [List.getElem?_toArray]
      rw [cset_get _ _ _ _ hCl]
      by_cases hii : i' = i
      · subst hii
        rw [List.getElem?_set_self hil] at hi'
        cases hi'
        rw [cset_get _ _ _ _ hfit] at hj
        have hul := hus.1
        by_cases hc : off ≤ j ∧ j < off + vs.length
        · rw [if_pos hc] at hj
          rw [if_pos (by omega), show i' * k + j - (i' * k + off) = j - off by omega]
          exact hus.2 _ _ hj
        · rw [if_neg hc] at hj
          rw [if_neg (by omega)]
          rw [← h3]
          simpa using h12 i' e j x hi hj
      · rw [List.getElem?_set_ne (Ne.symm hii)] at hi'
        have hj' : j < k := by rw [← h7 e' (List.mem_of_getElem? hi')]; exact (List.getElem?_eq_some_iff.1 hj).1
        have hul := hus.1
        rw [if_neg (fun q => by
          have hoff : i' * k + j - i * k < k := by omega
          have := place_ne (k := k) (i := i') (j := j) (i' := i) (j' := i' * k + j - i * k) hj' hoff (by omega)
          exact hii this.1), ← h3]
        simpa using h12 i' e' j x hi' hj)
  have hsame : phiAt φ l { p with g := p.g } = φ := by
    funext i
    by_cases e : i = l
    · subst e; rw [phiAt_at, hp]
    · rw [phiAt_ne φ _ e]
  rw [hsame, h2] at W
  exact W.1
end

/-! ### Contracts -/
def owned (φ : Phi) (h : AH) (b : Nat) : Prop := ∃ l p, Own φ h l p ∧ p.b = b
def ACall (P : Program) (g : Nat) (args : List AV) (h : AH) (K : AV → AH → Prop) : Prop :=
  ∀ φ M w vs, Rep ⟨w, owned φ h, M⟩ φ M h w → VAs φ M args vs →
    Calls P g vs.toArray w fun e w' => ∃ v r h' φ' M', e = .returned v ∧ VA φ' M' r v ∧ K r h' ∧ Rep ⟨w, owned φ h, M⟩ φ' M' h' w' ∧ Le φ φ'
theorem ACall.mono {P : Program} {g : Nat} {args : List AV} {h : AH} {K K' : AV → AH → Prop} (H : ACall P g args h K) (hk : ∀ r h', K r h' → K' r h') : ACall P g args h K' :=
  fun φ M w vs hr ha => (H φ M w vs hr ha).mono fun e w' ⟨v, r, h', φ', M', h1, h2, h3, h4⟩ => ⟨v, r, h', φ', M', h1, h2, hk _ _ h3, h4⟩
section
variable {G : Cx} {φ φ' : Phi} {M M' : Im} {h h' : AH} {w w' : World}
theorem Rep.tab_ne (R : Rep G φ M h w) {b : Nat} (hb : tabB b = true) {l : Nat} {p : Pl} (ho : Own φ h l p) : p.b ≠ b := fun e => by
  subst e
  obtain ⟨h1, h2, _⟩ := R.output.2 _ hb
  rcases R.new l p ho with q | q
  · exact h2 q
  · omega
theorem Rep.tab (R : Rep G φ M h w) {B : Nat → Prop} {M' : Im} (hB : ∀ b, tabB b = true → ¬ B b) : TabG ⟨w, B, M'⟩ := fun b hb => by
  obtain ⟨h1, h2, h3⟩ := R.output.2 b hb
  exact ⟨Nat.lt_of_lt_of_le h1 R.size, hB b hb, (R.blk b h1 h2).symm ▸ h3⟩
theorem Rep.rebase (R : Rep G φ M h w) : Rep ⟨w, owned φ h, M⟩ φ M h w :=
  ⟨rfl, rfl, ⟨rfl, R.tab fun b hb ⟨l, p, ho, e⟩ => R.tab_ne hb ho e⟩, Nat.le_refl _, fun _ _ _ => rfl, MLe.refl _, R.imm, fun _ _ q => .inl q, R.dom, R.obj, fun l p ho => .inl ⟨l, p, ho, rfl⟩, R.inj, R.dis⟩
theorem Rep.back (R : Rep G φ M h w) (R' : Rep ⟨w, owned φ h, M⟩ φ' M' h' w') : Rep G φ' M' h' w' := by
  have hB : ∀ b, owned φ h b → G.B b ∨ G.w.heap.size ≤ b := by rintro b ⟨l, p, ho, rfl⟩; exact R.new l p ho
  have hs := R.size
  refine ⟨R'.os.trans R.os, R'.tape.trans R.tape, ⟨R'.output.1.trans R.output.1, R.output.2⟩, Nat.le_trans R.size R'.size, fun b hb hn => ?_, R.mon.trans R'.mon, R'.imm, fun a v q => ?_, R'.dom, R'.obj, fun l p ho => ?_, R'.inj, R'.dis⟩
  · rw [R'.blk b (Nat.lt_of_lt_of_le hb hs) (fun ho => by rcases hB b ho with q | q; exact hn q; omega)]
    exact R.blk b hb hn
  · rcases R'.imn a v q with q | q | q
    · exact R.imn a v q
    · exact .inr (hB _ q)
    · exact .inr (.inr (Nat.le_trans hs q))
  · rcases R'.new l p ho with q | q
    · exact hB _ q
    · exact .inr (Nat.le_trans hs q)

/-! ### Closed values; a call that is handed nothing that is owned -/
def clB : CV → Bool
  | .pt .. => false
  | .sl .. => false
  | .clo _ caps => caps.isEmpty
  | _ => true
def clA : AV → Bool
  | .one x => clB x
  | .agg xs => xs.all clB
  | .tup xs => false
  | .any => false
theorem V_closed {x : CV} {u : Value} (hx : clB x = true) (hv : V φ M x u) : V φ' M x u := by
  cases x with
  | pt l g i off => cases hx
  | sl l g off len => cases hx
  | clo g caps =>
    obtain ⟨vs, h1, h2, h3⟩ := hv
    have : caps = [] := by simpa [clB] using hx
    subst this
    exact ⟨vs, h1, h2, fun j l hj => by simp at hj⟩
  | _ => exact hv
theorem VA_closed {x : AV} {u : Value} (hx : clA x = true) (hv : VA φ M x u) : VA φ' M x u := by
  cases x with
  | one x =>
    rcases VA_V hv with hv | ⟨v, rfl, rfl⟩
    · exact V_VA (V_closed hx hv)
    · rfl
  | agg xs =>
    obtain ⟨us, h1, h2, h3⟩ := hv
    refine ⟨us, h1, h2, fun j x hj => ?_⟩
    obtain ⟨u, h4, h5⟩ := h3 j x hj
    exact ⟨u, h4, V_closed ((List.all_eq_true.1 hx) x (List.mem_of_getElem? hj)) h5⟩
  | tup xs => cases hx
  | any => cases hx
def shV (n : Nat) : CV → CV
  | .pt l g i off => .pt (n + l) g i off
  | .sl l g off len => .sl (n + l) g off len
  | .clo g caps => .clo g (caps.map (n + ·))
  | x => x
def shA1 (n : Nat) : AV → AV
  | .one x => .one (shV n x)
  | .agg xs => .agg (xs.map (shV n))
  | x => x
def shA (n : Nat) : AV → AV
  | .tup xs => .tup (xs.map (shA1 n))
  | x => shA1 n x
def shO (n : Nat) : AO → AO
  | .dead => .dead
  | .ro g t k es => .ro g t k es
  | .own g t k cap es => .own g t k cap (es.map (·.map (shV n)))
def joinΦ (φ φ1 : Phi) (n : Nat) : Phi := fun l => if l < n then φ l else φ1 (l - n)
theorem V_shift {φ1 : Phi} {n : Nat} {x : CV} {u : Value} (hv : V φ1 M x u) : V (joinΦ φ φ1 n) M (shV n x) u := by
  have key : ∀ l, joinΦ φ φ1 n (n + l) = φ1 l := fun l => by simp [joinΦ]; omega
  cases x with
  | pt l g i off => obtain ⟨h1, p, h2, h3⟩ := hv; exact ⟨h1, p, by rw [key]; exact h2, h3⟩
  | sl l g off len => obtain ⟨h1, p, h2, h3⟩ := hv; exact ⟨h1, p, by rw [key]; exact h2, h3⟩
  | clo g caps =>
    obtain ⟨vs, h1, h2, h3⟩ := hv
    refine ⟨vs, h1, by simpa using h2, fun j l hj => ?_⟩
    rw [List.getElem?_map] at hj
    obtain ⟨l', hl', rfl⟩ := Option.map_eq_some_iff.1 hj
    obtain ⟨v, h4, h5, p, h6, h7⟩ := h3 j l' hl'
    exact ⟨v, h4, h5, p, by rw [key]; exact h6, h7⟩
  | _ => exact hv
theorem VA1_shift {φ1 : Phi} {n : Nat} {x : AV} {u : Value} (hv : VA1 φ1 M x u) : VA1 (joinΦ φ φ1 n) M (shA1 n x) u := by
  cases x with
  | one x =>
    cases x with
    | c v => exact hv
    | _ => exact V_shift (φ := φ) (x := _) (u := u) (by simpa only [VA1] using hv)
  | agg xs =>
    obtain ⟨us, h1, h2, h3⟩ := hv
    refine ⟨us, h1, by simpa using h2, fun j x hj => ?_⟩
    rw [List.getElem?_map] at hj
    obtain ⟨x', hx', rfl⟩ := Option.map_eq_some_iff.1 hj
    obtain ⟨u, h4, h5⟩ := h3 j x' hx'
    exact ⟨u, h4, V_shift h5⟩
  | tup xs => exact hv
  | any => trivial
theorem VA_shift {φ1 : Phi} {n : Nat} {x : AV} {u : Value} (hv : VA φ1 M x u) : VA (joinΦ φ φ1 n) M (shA n x) u := by
  cases x with
  | tup xs =>
    obtain ⟨us, h1, h2, h3⟩ := hv
    refine ⟨us, h1, by simpa using h2, fun j x hj => ?_⟩
    rw [List.getElem?_map] at hj
    obtain ⟨x', hx', rfl⟩ := Option.map_eq_some_iff.1 hj
    obtain ⟨u, h4, h5⟩ := h3 j x' hx'
    exact ⟨u, h4, VA1_shift h5⟩
  | one x => exact VA1_VA (VA1_shift (x := .one x) hv)
  | agg xs => exact VA1_VA (VA1_shift (x := .agg xs) hv)
  | any => trivial
theorem Rep.empty (R : Rep G φ M h w) : Rep ⟨w, owned (fun _ => none) [], M⟩ (fun _ => none) M [] w :=
  ⟨rfl, rfl, ⟨rfl, R.tab fun b hb ⟨l, p, ⟨_, _, _, _, _, hl, _⟩, e⟩ => by simp at hl⟩, Nat.le_refl _, fun _ _ _ => rfl, MLe.refl _, R.imm, fun _ _ q => .inl q, fun _ _ => rfl, fun l o hl => by simp at hl, fun l p ho => by obtain ⟨_, _, _, _, _, hl, _⟩ := ho; simp at hl, fun i j p q ho => by obtain ⟨_, _, _, _, _, hl, _⟩ := ho; simp at hl,
    fun a v l p _ ho => by obtain ⟨_, _, _, _, _, hl, _⟩ := ho; simp at hl⟩
/-- What a call made that was handed nothing owned stands behind what was there. -/
theorem Rep.join (R : Rep G φ M h w) {φ1 : Phi} {M1 : Im} {h1 : AH} {w1 : World} (R1 : Rep ⟨w, owned (fun _ => none) [], M⟩ φ1 M1 h1 w1) :
    Rep G (joinΦ φ φ1 h.length) M1 (h ++ h1.map (shO h.length)) w1 ∧ Le φ (joinΦ φ φ1 h.length) ∧ (∀ l, l < h.length → joinΦ φ φ1 h.length l = φ l) ∧ ∀ b, b < w.heap.size → w1.heap[b]? = w.heap[b]? := by
  have hno : ∀ b, ¬ owned (fun _ => none) [] b := by rintro b ⟨l, p, ⟨_, _, _, _, _, hl, _⟩, _⟩; simp at hl
  have hblk : ∀ b, b < w.heap.size → w1.heap[b]? = w.heap[b]? := fun b hb => R1.blk b hb (hno b)
  have hlow : ∀ l, l < h.length → joinΦ φ φ1 h.length l = φ l := fun l hl => by simp [joinΦ, hl]
  have hle : Le φ (joinΦ φ φ1 h.length) := fun l p hl => by
    have : l < h.length := by
      rcases Nat.lt_or_ge l h.length with q | q
      · exact q
      · rw [R.dom l q] at hl; cases hl
    exact ⟨p, by rw [hlow l this]; exact hl, .inl rfl⟩
  have hget : ∀ (l : Nat) (o : AO), (h ++ h1.map (shO h.length))[l]? = some o → (l < h.length ∧ h[l]? = some o) ∨ (h.length ≤ l ∧ ∃ o1, h1[l - h.length]? = some o1 ∧ o = shO h.length o1) := by
    intro l o hl
    rcases Nat.lt_or_ge l h.length with hlt | hge
    · left; exact ⟨hlt, by rwa [List.getElem?_append_left hlt] at hl⟩
    · right
      rw [List.getElem?_append_right hge, List.getElem?_map] at hl
      obtain ⟨o1, ho1, rfl⟩ := Option.map_eq_some_iff.1 hl
      exact ⟨hge, o1, ho1, rfl⟩
  have hown : ∀ l p, Own (joinΦ φ φ1 h.length) (h ++ h1.map (shO h.length)) l p → (l < h.length ∧ Own φ h l p) ∨ (h.length ≤ l ∧ Own φ1 h1 (l - h.length) p) := by
    rintro l p ⟨g, t, k, cap, es, hl, hp, hv⟩
    rcases hget l _ hl with ⟨hlt, hl⟩ | ⟨hge, o1, hl, ho⟩
    · rw [hlow l hlt] at hp
      exact .inl ⟨hlt, g, t, k, cap, es, hl, hp, hv⟩
    · have hp' : φ1 (l - h.length) = some p := by simpa [joinΦ, Nat.not_lt.2 hge] using hp
      cases o1 with
      | dead => cases ho
      | ro _ _ _ _ => cases ho
      | own g1 t1 k1 cap1 es1 => exact .inr ⟨hge, g1, t1, k1, cap1, es1, hl, hp', hv⟩
  have hnew : ∀ l p, Own φ1 h1 l p → w.heap.size ≤ p.b := fun l p ho => by
    rcases R1.new l p ho with q | q
    · exact absurd q (hno _)
    · exact q
  have hs := R.size
  refine ⟨⟨R1.os.trans R.os, R1.tape.trans R.tape, ⟨R1.output.1.trans R.output.1, R.output.2⟩, Nat.le_trans R.size R1.size, fun b hb hn => ?_, R.mon.trans R1.mon, R1.imm, fun a v q => ?_, fun l hl => ?_, ?_, ?_, ?_, ?_⟩, hle, hlow, hblk⟩
  · rw [hblk b (Nat.lt_of_lt_of_le hb hs)]; exact R.blk b hb hn
  · rcases R1.imn a v q with q | q | q
    · exact R.imn a v q
    · exact absurd q (hno _)
    · exact .inr (.inr (Nat.le_trans hs q))
  · simp at hl
    have : ¬ l < h.length := by omega
    simp only [joinΦ, this, if_false]
    exact R1.dom _ (by omega)
  · intro l o hl
    rcases hget l o hl with ⟨hlt, hl⟩ | ⟨hge, o1, hl1, rfl⟩
    · refine (R.obj l o hl).move hle R1.mon (hlow l hlt) (fun p hp hv ho => ?_)
      cases o with
      | dead => cases ho
      | ro _ _ _ _ => cases ho
      | own g t k cap es => exact hblk _ (R.own_blk ⟨g, t, k, cap, es, hl, hp, hv⟩)
    · have H := R1.obj _ _ hl1
      cases o1 with
      | dead => trivial
      | ro g t k es =>
        obtain ⟨p, h1', h2⟩ := H
        exact ⟨p, by simpa [joinΦ, Nat.not_lt.2 hge] using h1', h2⟩
      | own g t k cap es =>
        obtain ⟨p, h1', h2, h3, h4, h5, h6, h7, h8⟩ := H
        refine ⟨p, by simpa [joinΦ, Nat.not_lt.2 hge] using h1', h2, h3, by simpa using h4, h5, fun e he => ?_, h7, fun hv => ?_⟩
        · obtain ⟨e', he', rfl⟩ := List.mem_map.1 he
          simpa using h6 e' he'
        · obtain ⟨h9, C, fr, h10, h11, h12, h13⟩ := h8 hv
          refine ⟨h9, C, fr, h10, h11, h12, fun i e j x hi hj => ?_⟩
          rw [List.getElem?_map] at hi
          obtain ⟨e', he', rfl⟩ := Option.map_eq_some_iff.1 hi
          rw [List.getElem?_map] at hj
          obtain ⟨x', hx', rfl⟩ := Option.map_eq_some_iff.1 hj
          obtain ⟨v, hv1, hv2⟩ := h13 i e' j x' he' hx'
          exact ⟨v, hv1, V_shift hv2⟩
  · intro l p ho
    rcases hown l p ho with ⟨_, ho⟩ | ⟨_, ho⟩
    · exact R.new l p ho
    · exact .inr (Nat.le_trans hs (hnew _ _ ho))
  · intro i j p q hi hj hne
    rcases hown i p hi with ⟨hil, hi⟩ | ⟨hil, hi⟩ <;> rcases hown j q hj with ⟨hjl, hj⟩ | ⟨hjl, hj⟩
    · exact R.inj i j p q hi hj hne
    · have := R.own_blk hi; have := hnew _ _ hj; omega
    · have := R.own_blk hj; have := hnew _ _ hi; omega
    · exact R1.inj _ _ p q hi hj (by omega)
  · intro a v l p hm ho
    rcases hown l p ho with ⟨_, ho⟩ | ⟨_, ho⟩
    · rcases R1.imn a v hm with q | q | q
      · exact R.dis a v l p q ho
      · exact absurd q (hno _)
      · have := R.own_blk ho; simp at q; omega
    · exact R1.dis a v _ p hm ho
end
end Go.BL
