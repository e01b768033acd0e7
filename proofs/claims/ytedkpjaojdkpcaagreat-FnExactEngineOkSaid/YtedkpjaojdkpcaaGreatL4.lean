/- That the machine follows the further operations: lemmas on structs built, rows made, appended to and copied. Conditions: none. -/
import Derived.Test.YtedkpjaojdkpcaaGreatL3
namespace Go.BL
open Go.RowKit
set_option linter.unusedVariables false
set_option linter.unusedSimpArgs false

section
variable {P : Program} {G : Cx} {φ : Phi} {M : Im} {h : AH} {w : World} {f : AF} {n : Nat} {a : Act}
/-! ### Rows of elements, laid flat -/
def RowV (φ : Phi) (M : Im) (k : Nat) (es : List (List CV)) (us : List Value) : Prop := us.length = es.length * k ∧ ∀ (i : Nat) (e : List CV) (j : Nat) (x : CV), es[i]? = some e → e[j]? = some x → ∃ v, us[i * k + j]? = some v ∧ V φ M x v
def Ks (k : Nat) (es : List (List CV)) : Prop := ∀ e, e ∈ es → e.length = k
theorem div_place {k i j : Nat} (hj : j < k) : (i * k + j) / k = i ∧ (i * k + j) % k = j := by
  have h0 : 0 < k := by omega
  refine ⟨?_, ?_⟩
  · rw [Nat.mul_comm, Nat.mul_add_div h0, Nat.div_eq_of_lt hj]; omega
  · rw [Nat.mul_comm, Nat.mul_add_mod, Nat.mod_eq_of_lt hj]
/-- Every place of a row is of some element. -/
theorem place_of {k m q : Nat} (hq : q < m * k) : ∃ i j, i < m ∧ j < k ∧ q = i * k + j := by
  have hk : 0 < k := Nat.pos_of_ne_zero (by intro e; subst e; omega)
  refine ⟨q / k, q % k, ?_, Nat.mod_lt _ hk, ?_⟩
  · exact Nat.div_lt_of_lt_mul (by rw [Nat.mul_comm]; exact hq)
  · have := Nat.div_add_mod q k; rw [Nat.mul_comm] at this; exact this.symm
theorem place_lt {k m i j : Nat} (hi : i < m) (hj : j < k) : i * k + j < m * k := cell_in hi hj
theorem RowV.says {k : Nat} {es : List (List CV)} {us : List Value} (H : RowV φ M k es us) (C : Array Value) (hC : ∀ (j : Nat) (v : Value), us[j]? = some v → C[j]? = some v) : Says φ M k C es := fun i e j x hi hj => let ⟨v, h1, h2⟩ := H.2 i e j x hi hj; ⟨v, hC _ _ h1, h2⟩
theorem RowV.app {k : Nat} {es fs : List (List CV)} {us vs : List Value} (hks : Ks k fs) (H : RowV φ M k es us) (H' : RowV φ M k fs vs) : RowV φ M k (es ++ fs) (us ++ vs) := by
  refine ⟨by rw [List.length_append, List.length_append, H.1, H'.1, Nat.add_mul], fun i e j x hi hj => ?_⟩
  rcases Nat.lt_or_ge i es.length with hlt | hge
  · rw [List.getElem?_append_left hlt] at hi
    obtain ⟨v, h1, h2⟩ := H.2 i e j x hi hj
    exact ⟨v, by rw [List.getElem?_append_left (List.getElem?_eq_some_iff.1 h1).1]; exact h1, h2⟩
  · rw [List.getElem?_append_right hge] at hi
    obtain ⟨v, h1, h2⟩ := H'.2 _ e j x hi hj
    refine ⟨v, ?_, h2⟩
    have hle : us.length ≤ i * k := by rw [H.1]; exact Nat.mul_le_mul_right k hge
    rw [List.getElem?_append_right (by omega), H.1, ← h1]
    congr 1
    rw [Nat.sub_mul]
    have := Nat.mul_le_mul_right k hge
    omega
theorem RowV.take {k : Nat} {es : List (List CV)} {us : List Value} (hks : Ks k es) (H : RowV φ M k es us) (m : Nat) (hm : m ≤ es.length) : RowV φ M k (es.take m) (us.take (m * k)) := by
  have hle : m * k ≤ es.length * k := Nat.mul_le_mul_right k hm
  refine ⟨by rw [List.length_take, List.length_take, H.1, Nat.min_eq_left hle, Nat.min_eq_left hm], fun i e j x hi hj => ?_⟩
  rw [List.getElem?_take] at hi
  split at hi
  · rename_i him
    obtain ⟨v, h1, h2⟩ := H.2 i e j x hi hj
    have hjk : j < k := by rw [← hks e (List.mem_of_getElem? hi)]; exact (List.getElem?_eq_some_iff.1 hj).1
    exact ⟨v, by rw [List.getElem?_take, if_pos (place_lt him hjk)]; exact h1, h2⟩
  · cases hi
theorem RowV.mono {φ' : Phi} {M' : Im} (hφ : Le φ φ') (hM : MLe M M') {k : Nat} {es : List (List CV)} {us : List Value} (H : RowV φ M k es us) : RowV φ' M' k es us := ⟨H.1, fun i e j x hi hj => let ⟨v, h1, h2⟩ := H.2 i e j x hi hj; ⟨v, h1, h2.mono hφ hM⟩⟩
theorem RowV.one {k : Nat} {es : List (List CV)} {us : List Value} (hks : Ks k es) (H : RowV φ M k es us) : ∀ u, u ∈ us → u.oneCell' = true := by
  intro u hu
  obtain ⟨q, hq⟩ := List.mem_iff_getElem?.1 hu
  have hql := (List.getElem?_eq_some_iff.1 hq).1
  rw [H.1] at hql
  obtain ⟨i, j, hi, hj, rfl⟩ := place_of hql
  have hel : es[i].length = k := hks _ (List.getElem_mem hi)
  obtain ⟨v, h1, h2⟩ := H.2 i es[i] j _ (List.getElem?_eq_getElem hi) (List.getElem?_eq_getElem (by omega))
  rw [hq] at h1
  cases h1
  exact h2.one
/-- Cells of a row, chosen out of a world. -/
theorem row_of {k m : Nat} {es : List (List CV)} {b o : Nat} (hm : es.length = m) (hks : Ks k es) (hc : ∀ (i : Nat) (e : List CV) (j : Nat) (x : CV), es[i]? = some e → e[j]? = some x → ∃ v, w.cell? ⟨b, o + (i * k + j), none⟩ = some v ∧ V φ M x v) :
    ∃ us, RowV φ M k es us ∧ ∀ j u, us[j]? = some u → w.cell? ⟨b, o + j, none⟩ = some u := by
  have : ∀ q : Nat, ∃ v : Value, q < m * k → w.cell? ⟨b, o + q, none⟩ = some v := fun q => by
    by_cases hq : q < m * k
    · obtain ⟨i, j, hi, hj, rfl⟩ := place_of hq
      have hi' : i < es.length := by omega
      have hel : es[i].length = k := hks _ (List.getElem_mem hi')
      obtain ⟨v, h1, _⟩ := hc i es[i] j _ (List.getElem?_eq_getElem hi') (List.getElem?_eq_getElem (by omega))
      exact ⟨v, fun _ => h1⟩
    · exact ⟨undef, fun q' => absurd q' hq⟩
  obtain ⟨C, hC⟩ := Classical.axiomOfChoice this
  refine ⟨(List.range (m * k)).map C, ⟨by simp [hm], fun i e j x hi hj => ?_⟩, fun j u hj => ?_⟩
  · have hjk : j < k := by rw [← hks e (List.mem_of_getElem? hi)]; exact (List.getElem?_eq_some_iff.1 hj).1
    have him : i < m := by rw [← hm]; exact (List.getElem?_eq_some_iff.1 hi).1
    have hlt := place_lt him hjk
    obtain ⟨v, h1, h2⟩ := hc i e j x hi hj
    refine ⟨C (i * k + j), by simp [hlt], ?_⟩
    have := hC _ hlt
    rw [h1] at this
    cases this
    exact h2
  · rw [List.getElem?_map] at hj
    obtain ⟨q, hq, rfl⟩ := Option.map_eq_some_iff.1 hj
    have hlt : j < m * k := by have := (List.getElem?_eq_some_iff.1 hq).1; simpa using this
    rw [List.getElem?_range hlt] at hq
    cases hq
    exact hC _ hlt
/-- What a source holds: read off the world, and off every world of the same heap. -/
def Reads (P : Program) (w : World) (k m : Nat) (u : Value) (us : List Value) : Prop := us.length = m * k ∧ ∀ w' : World, w'.heap = w.heap → (Builtin.lenOf u).run P w' = .ok m w' ∧ ∀ q, q ≤ m → (Builtin.firstCells k q u).run P w' = .ok (us.take (q * k)).toArray w'
theorem reads_slice {k m b o cap : Nat} {us : List Value} (hl : us.length = m * k) (hc : ∀ j u, us[j]? = some u → w.cell? ⟨b, o + j, none⟩ = some u) : Reads P w k m (.slice (some ⟨b, o, none⟩) m cap) us := by
  refine ⟨hl, fun w' hh => ⟨by simp [Builtin.lenOf], fun q hq => ?_⟩⟩
  have hle : q * k ≤ m * k := Nat.mul_le_mul_right k hq
  refine run_firstCells_some (P := P) w' k q ⟨b, o, none⟩ m cap _ (by rw [List.length_take]; omega) (fun j u hj => ?_)
  rw [List.getElem?_take] at hj
  split at hj
  · rw [add_lit, cell_same (w := w) (by rw [hh])]
    exact hc j u hj
  · cases hj
theorem reads_nil {k : Nat} (ad : Option Addr) (cap : Nat) : Reads P w k 0 (.slice ad 0 cap) [] := by
  refine ⟨by simp, fun w' hh => ⟨by simp [Builtin.lenOf], fun q hq => ?_⟩⟩
  have : q = 0 := by omega
  subst this
  cases ad with
  | none => simp [Builtin.firstCells]
  | some ad => rw [List.take_nil]; exact run_firstCells_some (P := P) w' k 0 ad 0 cap [] (by simp) (fun j u hj => by simp at hj)
theorem bytesE_len (s : ByteArray) : (bytesE s).length = s.size := by rw [bytesE, List.length_map]; rfl
theorem bytesE_ks (s : ByteArray) : Ks 1 (bytesE s) := fun e he => by obtain ⟨b, _, rfl⟩ := List.mem_map.1 he; rfl
theorem ksB_Ks {k : Nat} {es : List (List CV)} (h : ksB k es = true) : Ks k es := fun e he => by simpa using (List.all_eq_true.1 h) e he
theorem sl_at (R : Rep G φ M h w) {l g off len : Nat} {q : TypeId × Nat × List (List CV)} (hq : objR h l g = some q) {u : Value} (hu : VA φ M (.one (.sl l g off len)) u) :
    ∃ p, φ l = some p ∧ p.g = g ∧ p.k = q.2.1 ∧ ((p.vir = true ∧ off = 0 ∧ len = 0 ∧ q.2.2 = [] ∧ ∃ a, u = .slice a 0 0) ∨ (p.vir = false ∧ u = .slice (some ⟨p.b, off * q.2.1, none⟩) len (p.cap - off))) := by
  obtain ⟨h1, p, h2, h3, h4⟩ := hu
  obtain ⟨p', h5, h6, h7, h8, _, h9, _⟩ := R.readR hq
  rw [h2] at h5
  cases h5
  refine ⟨p, h2, h6, h7, ?_⟩
  rcases h4 h6 with ⟨q1, q2, q3, q4⟩ | ⟨q1, q2⟩
  · exact .inl ⟨q1, q2, q3, h9 q1, q4⟩
  · exact .inr ⟨q1, by rw [← h7]; exact q2⟩
theorem obj_ks (R : Rep G φ M h w) {l g : Nat} {q : TypeId × Nat × Option Nat × List (List CV)} (hq : objA h l g = some q) : Ks q.2.1 q.2.2.2 := by
  obtain ⟨p', h5, h6, h7, h8, _, h10, h9, _⟩ := R.obj l _ (objA_spec hq)
  exact h10
/-- Elements of an object, from 'off' on. -/
theorem obj_row (R : Rep G φ M h w) {l g off len : Nat} {q : TypeId × Nat × List (List CV)} (hq : objR h l g = some q) (hle : off + len ≤ q.2.2.length) {p : Pl} (hp : φ l = some p) (hv : p.vir = false) :
    ∃ us, RowV φ M q.2.1 ((q.2.2.drop off).take len) us ∧ ∀ j u, us[j]? = some u → w.cell? ⟨p.b, off * q.2.1 + j, none⟩ = some u := by
  obtain ⟨p', h1, h2, h3, hks, _, _, h5⟩ := R.readR hq
  rw [hp] at h1
  cases h1
  refine row_of (m := len) (by simp; omega) (fun e he => hks e (List.mem_of_mem_drop (List.mem_of_mem_take he))) (fun i e j x hi hj => ?_)
  rw [List.getElem?_take] at hi
  split at hi
  · rw [List.getElem?_drop] at hi
    obtain ⟨v, h6, h7⟩ := (h5 _ e hi).2 j x hj
    exact ⟨v, by rw [← Nat.add_assoc, ← Nat.add_mul]; exact h6, h7⟩
  · cases hi
theorem rowA_spec (R : Rep G φ M h w) {k : Nat} {x : AV} {u : Value} {es : List (List CV)} (hv : VA φ M x u) (hr : rowA h k x = some es) : Ks k es ∧ ∃ us, RowV φ M k es us ∧ Reads P w k es.length u us := by
  have nil : ∀ (ad : Option Addr) (cap : Nat), Ks k [] ∧ ∃ us, RowV φ M k [] us ∧ Reads P w k ([] : List (List CV)).length (.slice ad 0 cap) us := fun ad cap =>
    ⟨fun e he => (by cases he), [], ⟨by simp, fun i e j x hi => by simp at hi⟩, reads_nil ad cap⟩
  unfold rowA at hr
  split at hr
  · cases hr
    cases (show V0 M .nl u from hv)
    exact nil _ _
  · cases hr
    cases (show V0 M .emp u from hv)
    exact nil _ _
  · split at hr
    · rename_i es' hk
      cases hr
      have hk := ksB_Ks hk
      cases (show V0 M (.im es) u from hv) with
      | im0 ad cap => exact nil _ _
      | im _ k' b o cap C hk' hc hm hV =>
        have hkk : es = [] ∨ k' = k := by
          cases es with
          | nil => exact .inl rfl
          | cons e r => exact .inr ((hk' e (by simp)).symm.trans (hk e (by simp)))
        rcases hkk with rfl | rfl
        · exact nil _ _
        obtain ⟨us, h1, h2⟩ := row_of (w := w) (φ := φ) (M := M) (b := b) (o := o) rfl hk (fun i e j x hi hj => ⟨C i j, (R.imm _ _ (hm i e j x hi hj)).1, V0_V (hV i e j x hi hj)⟩)
        exact ⟨hk, us, h1, reads_slice h1.1 h2⟩
    · cases hr
  · rename_i l g off len
    obtain ⟨q, hq, hr2⟩ := Option.bind_eq_some_iff.1 hr
    clear hr
    split at hr2
    · rename_i hc
      obtain ⟨rfl, hle⟩ := hc
      obtain rfl := Option.some.inj hr2
      obtain ⟨p, hp, hg, hk, hcase⟩ := sl_at R hq hv
      rcases hcase with ⟨_, rfl, rfl, he, ad, rfl⟩ | ⟨hvir, rfl⟩
      · simp only [List.take_zero]
        exact nil _ _
      · obtain ⟨us, h1, h2⟩ := obj_row R hq hle hp hvir
        have hl : ((q.2.2.drop off).take len).length = len := by simp; omega
        obtain ⟨_, _, _, _, hks, _⟩ := R.readR hq
        refine ⟨fun e he => hks e (List.mem_of_mem_drop (List.mem_of_mem_take he)), us, h1, ?_⟩
        rw [hl]
        exact reads_slice (by have := h1.1; rw [hl] at this; exact this) h2
    · cases hr2
  · rename_i s
    split at hr
    · rename_i hk
      subst hk
      cases hr
      have := VA_c hv
      subst this
      refine ⟨bytesE_ks s, s.data.toList.map fun b => .int .u8 b.toNat, ⟨by rw [bytesE_len, List.length_map, Nat.mul_one]; rfl, fun i e j x hi hj => ?_⟩, by rw [bytesE_len, List.length_map, Nat.mul_one]; rfl, fun w' _ => ⟨by rw [bytesE_len]; simp [Builtin.lenOf], fun q hq => ?_⟩⟩
      · rw [bytesE, List.getElem?_map] at hi
        obtain ⟨b, hb, rfl⟩ := Option.map_eq_some_iff.1 hi
        rcases j with _ | j
        · simp at hj
          subst hj
          exact ⟨_, by simp only [Nat.mul_one, Nat.add_zero, List.getElem?_map, hb]; rfl, V0.c _ rfl⟩
        · simp at hj
      · simp only [Builtin.firstCells, Sem.run_pure]
        congr 1
        apply Array.toList_inj.1
        rw [Array.toList_map, ByteArray.data_extract]
        simp [List.map_take]
    · cases hr
  · cases hr
/-- What is appended. -/
inductive Src (P : Program) (w : World) (t2 : TypeId) (k by_ : Nat) (z : Array Value) : Value → Nat → List Value → Prop
  | row (u : Value) (m : Nat) (us : List Value) (hd : (∃ d, P.underlying t2 = some (.slice d)) ∨ P.underlying t2 = some .string) (hr : Reads P w k m u us) : Src P w t2 k by_ z u m us
  | zeros (ki kk : IntKind) (i : Int) (hd : P.underlying t2 = some (.int ki)) (h0 : 0 ≤ i) (h1 : i ≤ 9223372036854775807) (h2 : i.toNat * by_ ≤ 281474976710656) : Src P w t2 k by_ z (.int kk i) i.toNat (Builtin.zeroCells z i.toNat).toList
theorem zero_row {z : List CV} {k : Nat} {vz : Value} (hz : z = vz.cells.toList.map cvOf) (hz1 : ∀ u ∈ vz.cells.toList, u.oneCell' = true) (hzk : z.length = k) (m : Nat) : Ks k (List.replicate m z) ∧ RowV φ M k (List.replicate m z) (Builtin.zeroCells vz.cells m).toList := by
  have hs : vz.cells.size = k := by rw [← hzk, hz]; simp
  refine ⟨fun e he => by rw [(List.mem_replicate.1 he).2, hzk], by simp [Builtin.zeroCells, hs], fun i e j x hi hj => ?_⟩
  rw [List.getElem?_replicate] at hi
  split at hi
  · rename_i him
    cases hi
    have hjk : j < k := by rw [← hzk]; exact (List.getElem?_eq_some_iff.1 hj).1
    have hlt := place_lt him hjk
    rw [hz, List.getElem?_map] at hj
    obtain ⟨u, hu, rfl⟩ := Option.map_eq_some_iff.1 hj
    refine ⟨u, ?_, V_cvOf u (hz1 u (List.mem_of_getElem? hu))⟩
    have hju : vz.cells[j]? = some u := by simpa using hu
    have hj' : j < vz.cells.size := (Array.getElem?_eq_some_iff.1 hju).1
    simp only [Builtin.zeroCells, Array.toList_map, Array.toList_range, List.getElem?_map, hs, List.getElem?_range hlt, Option.map_some, (div_place hjk).2]
    rw [getElem!_pos vz.cells j hj']
    rw [Array.getElem?_eq_getElem hj'] at hju
    exact hju
  · cases hi
theorem srcA_spec (R : Rep G φ M h w) {t2 : TypeId} {k by_ : Nat} {z : List CV} {vz : Value} (hz : z = vz.cells.toList.map cvOf) (hz1 : ∀ u ∈ vz.cells.toList, u.oneCell' = true) (hzk : z.length = k) {x : AV} {u : Value} {es : List (List CV)} (hv : VA φ M x u) (hr : srcA P t2 h k by_ z x = some es) :
    Ks k es ∧ ∃ us, RowV φ M k es us ∧ Src P w t2 k by_ vz.cells u es.length us := by
  unfold srcA at hr
  split at hr
  · rename_i hd
    obtain ⟨h1, us, h2, h3⟩ := rowA_spec (P := P) R hv hr
    refine ⟨h1, us, h2, .row u _ us ?_ h3⟩
    rw [Bool.or_eq_true] at hd
    rcases hd with hd | hd
    · obtain ⟨e, he⟩ := Option.isSome_iff_exists.1 hd
      exact .inl ⟨e, elemA_spec he⟩
    · exact .inr (strA_spec hd)
  · split at hr
    · rename_i hki
      obtain ⟨ki, hki⟩ := Option.isSome_iff_exists.1 hki
      split at hr
      · rename_i kk i
        split at hr
        · rename_i hc
          obtain ⟨c1, c2, c3⟩ := hc
          cases hr
          obtain ⟨h1, h2⟩ := zero_row (φ := φ) (M := M) hz hz1 hzk i.toNat
          have := VA_c hv
          subst this
          refine ⟨h1, _, h2, ?_⟩
          rw [List.length_replicate]
          exact .zeros ki kk i (kindA_spec hki) c1 c2 c3
        · cases hr
      · cases hr
    · cases hr
/-- An append that makes a new row. -/
theorem run_app_new {t e : TypeId} (t2 ty : TypeId) {k by_ : Nat} {i : TypeInfo} {zv : Value} (ht : P.underlying t = some (.slice e)) (hi : P.info? e = some i) (hiz : i.zero = some zv) (hsz : i.size = k) (hbt : i.bytes = by_) (hzs : zv.cells.size = k)
    (ba : Option Addr) (sLen sCap : Nat) (olds : List Value) (ho : Reads P w k sLen (.slice ba sLen sCap) olds) {u : Value} {m : Nat} {news : List Value} (hs : Src P w t2 k by_ zv.cells u m news)
    (hgt : sCap < sLen + m) (hbytes : (sLen + m) * by_ ≤ 140737488355328) (h63 : sLen + m ≤ maxLen) :
    (Builtin.append_ #[t, t2] ty #[.slice ba sLen sCap, u]).run P w = .ok (.slice (some ⟨w.heap.size, 0, none⟩) (sLen + m) (grownCap w (sLen + m) sCap e))
      (w.drew.alloc (.cells (olds.toArray ++ news.toArray ++ Builtin.zeroCells zv.cells (grownCap w (sLen + m) sCap e - (sLen + m))) e)) := by
  have hcap := grownCap_ge w (sLen + m) sCap e
  have hfit := growslice_fits (bytes := by_) hgt hbytes
  have hn : ¬ (sLen + m ≤ sCap) := by omega
  have h63' : ¬ (9223372036854775807 < ((sLen : Int) + (m : Int))) := by unfold maxLen at h63; omega
  have h48' : ¬ (281474976710656 < Builtin.nextslicecap (sLen + m) sCap * i.bytes) := by rw [hbt]; omega
  have holds : (Builtin.firstCells k sLen (.slice ba sLen sCap)).run P w.drew = .ok olds.toArray w.drew := by
    have := (ho.2 w.drew rfl).2 sLen (Nat.le_refl _)
    rw [List.take_of_length_le (by rw [ho.1]; exact Nat.le_refl _)] at this
    exact this
  subst hsz
  cases hs with
  | row _ _ _ hd hr =>
    have hlen := (hr.2 w rfl).1
    have hnews := (hr.2 w.drew rfl).2 m (Nat.le_refl _)
    rw [List.take_of_length_le (by rw [hr.1]; exact Nat.le_refl _)] at hnews
    rcases hd with ⟨d, hd⟩ | hd
    · simp [Builtin.append_, run_underlying ht, run_underlying hd, sizeOf, typeInfo, zeroValue, hi, hiz, hlen, hn, h63', h48', Question.forced, hnews, holds, newRow, grownCap]
      congr 2
      apply Array.toList_inj.1
      simp
    · simp [Builtin.append_, run_underlying ht, run_underlying hd, sizeOf, typeInfo, zeroValue, hi, hiz, hlen, hn, h63', h48', Question.forced, hnews, holds, newRow, grownCap]
      congr 2
      apply Array.toList_inj.1
      simp
  | zeros ki kk ii hd h0 h1 h2 =>
    have wl : IntKind.i64.wrap ii = ii := by rw [IntKind.wrap_i64]; omega
    have hneg : ¬ ii < 0 := by omega
    have hb : ¬ (281474976710656 < ii * (i.bytes : Int)) := by
      have : ((ii.toNat * by_ : Nat) : Int) = ii * (i.bytes : Int) := by rw [hbt, Int.natCast_mul]; congr 1; omega
      rw [← this]; omega
    have hsum2 : ¬ (9223372036854775807 < (sLen : Int) + max ii 0) := by omega
    by_cases hm0 : ii.toNat * i.size = 0
    · have hz0 : Builtin.zeroCells zv.cells ii.toNat = #[] := by
        apply Array.toList_inj.1
        simp [Builtin.zeroCells, hzs, hm0]
      simp [Builtin.append_, run_underlying ht, run_underlying hd, sizeOf, typeInfo, zeroValue, hi, hiz, hn, h63', h48', Question.forced, holds, newRow, grownCap, asInt, asIntOf, wl, hneg, hb, hm0, hsum2, hz0]
    · simp [Builtin.append_, run_underlying ht, run_underlying hd, sizeOf, typeInfo, zeroValue, hi, hiz, hn, h63', h48', Question.forced, holds, newRow, grownCap, asInt, asIntOf, wl, hneg, hb, hm0, hsum2]
/-- An append within the capacity. -/
theorem run_app_room {t e : TypeId} (t2 ty : TypeId) {k by_ : Nat} {i : TypeInfo} {zv : Value} (ht : P.underlying t = some (.slice e)) (hi : P.info? e = some i) (hiz : i.zero = some zv) (hsz : i.size = k) (hbt : i.bytes = by_) (hzs : zv.cells.size = k)
    (ba : Option Addr) (sLen sCap : Nat) {u : Value} {m : Nat} {news : List Value} (hs : Src P w t2 k by_ zv.cells u m news) (hle : sLen + m ≤ sCap) (w' : World)
    (hst : ∀ ad, ba = some ad → (storeCells (ad.add (sLen * k)) news).run P w = .ok () w') (hno : ba = none → w' = w) :
    (Builtin.append_ #[t, t2] ty #[.slice ba sLen sCap, u]).run P w = .ok (.slice ba (sLen + m) sCap) w' := by
  subst hsz
  cases hs with
  | row _ _ _ hd hr =>
    have hlen := (hr.2 w rfl).1
    have hnews := (hr.2 w rfl).2 m (Nat.le_refl _)
    rw [List.take_of_length_le (by rw [hr.1]; exact Nat.le_refl _)] at hnews
    cases ba with
    | none =>
      rw [hno rfl]
      rcases hd with ⟨d, hd⟩ | hd <;> simp [Builtin.append_, run_underlying ht, run_underlying hd, sizeOf, typeInfo, hi, hlen, hle, hnews]
    | some ad =>
      have h1 := hst ad rfl
      rcases hd with ⟨d, hd⟩ | hd <;> simp [Builtin.append_, run_underlying ht, run_underlying hd, sizeOf, typeInfo, hi, hlen, hle, hnews, h1]
  | zeros ki kk ii hd h0 h1 h2 =>
    have wl : IntKind.i64.wrap ii = ii := by rw [IntKind.wrap_i64]; omega
    have hneg : ¬ ii < 0 := by omega
    have hb : ¬ (281474976710656 < ii * (i.bytes : Int)) := by
      have : ((ii.toNat * by_ : Nat) : Int) = ii * (i.bytes : Int) := by rw [hbt, Int.natCast_mul]; congr 1; omega
      rw [← this]; omega
    by_cases hm0 : ii.toNat * i.size = 0
    · have hz0 : Builtin.zeroCells zv.cells ii.toNat = #[] := by
        apply Array.toList_inj.1
        simp [Builtin.zeroCells, hzs, hm0]
      rw [hz0] at hst
      cases ba with
      | none => rw [hno rfl]; simp [Builtin.append_, run_underlying ht, run_underlying hd, sizeOf, typeInfo, zeroValue, hi, hiz, hle, asInt, asIntOf, wl, hneg, hb, hm0, hz0]
      | some ad => have h1 := hst ad rfl; simp at h1; simp [Builtin.append_, run_underlying ht, run_underlying hd, sizeOf, typeInfo, zeroValue, hi, hiz, hle, asInt, asIntOf, wl, hneg, hb, hm0, hz0, h1]
    · cases ba with
      | none => rw [hno rfl]; simp [Builtin.append_, run_underlying ht, run_underlying hd, sizeOf, typeInfo, zeroValue, hi, hiz, hle, asInt, asIntOf, wl, hneg, hb, hm0]
      | some ad => have h1 := hst ad rfl; simp [Builtin.append_, run_underlying ht, run_underlying hd, sizeOf, typeInfo, zeroValue, hi, hiz, hle, asInt, asIntOf, wl, hneg, hb, hm0, h1]
/-- Cells of a block are stored. -/
theorem run_store_block {b o : Nat} {C : Array Value} {t : TypeId} {fr : Nat × Nat} (hb : w.heap[b]? = some (.cells C t fr)) {k : Nat} (hfr : okFr fr C k) (us : List Value) (hfit : o + us.length ≤ C.size) (h1 : ∀ u, u ∈ us → u.oneCell' = true) :
    (storeCells ⟨b, o, none⟩ us).run P w = .ok () (w.setCells b o us) := by
  have hst := run_storeCells_cells (P := P) b o us 0 w (fun j hj => by
      rw [Nat.add_zero, Joins.cell_of_block hb, Array.getElem?_eq_getElem (by omega)]; rfl) (fun j hj => by
      rw [Nat.add_zero]
      exact okFr_free hb hfr (by omega)) h1
  simpa using hst
theorem RowV.csetV {k : Nat} {es fs : List (List CV)} {C : Array Value} {us : List Value} (hes : Ks k es) (hfs : Ks k fs) (hS : Says φ M k C es) (H : RowV φ M k fs us) (i : Nat) (hi : i + fs.length ≤ es.length) (hC : i * k + us.length ≤ C.size) :
    Says φ M k (cset C.toList (i * k) us).toArray (cset es i fs) := by
  intro i' e j x hi' hj
  have hCl : i * k + us.length ≤ C.toList.length := by simpa using hC
  have hmem : e ∈ cset es i fs := List.mem_of_getElem? hi'
  have hek : e.length = k := by rcases cset_mem hmem with q | q; exact hes e q; exact hfs e q
  have hjk : j < k := by rw [← hek]; exact (List.getElem?_eq_some_iff.1 hj).1
  rw [cset_get _ _ _ _ hi] at hi'
  rw [List.getElem?_toArray, cset_get _ _ _ _ hCl, H.1]
  by_cases hc : i ≤ i' ∧ i' < i + fs.length
  · rw [if_pos hc] at hi'
    have h1 : (i' - i) * k + j < fs.length * k := place_lt (by omega) hjk
    have h2 : i' * k = i * k + (i' - i) * k := by rw [← Nat.add_mul]; congr 1; omega
    rw [if_pos (by omega), show i' * k + j - i * k = (i' - i) * k + j by omega]
    exact H.2 _ e j x hi' hj
  · rw [if_neg hc] at hi'
    rw [if_neg (fun q => hc (by
      refine ⟨?_, ?_⟩
      · refine Nat.le_of_not_lt fun q2 => ?_
        have : i' * k + j < i * k := place_lt q2 hjk
        omega
      · refine Nat.lt_of_not_le fun q2 => ?_
        have h3 : (i + fs.length) * k ≤ i' * k := Nat.mul_le_mul_right k q2
        rw [Nat.add_mul] at h3
        omega))]
    simpa using hS i' e j x hi' hj
end

section
variable {P : Program} {G : Cx} {φ : Phi} {M : Im} {h : AH} {w : World} {K : AV → AH → Prop}
/-- An object without a block stays so under a new generation, or comes to stand in a new block. -/
theorem Rep.bumpv (R : Rep G φ M h w) {l g k : Nat} {t : TypeId} {cap : Option Nat} {es : List (List CV)} (hl : h[l]? = some (.own g t k cap es)) {p : Pl} (hp : φ l = some p) (hv : p.vir = true) :
    Rep G (phiAt φ l ⟨p.b, k, 0, g + 1, true⟩) M (h.set l (.own (g + 1) t k none [])) w ∧ Le φ (phiAt φ l ⟨p.b, k, 0, g + 1, true⟩) := by
  obtain ⟨p', h1, h2, _⟩ := R.obj l _ hl
  rw [hp] at h1
  cases h1
  have hle : Le φ (phiAt φ l ⟨p.b, k, 0, g + 1, true⟩) := Le.at_gen hp (by simp; omega)
  refine ⟨?_, hle⟩
  have hown : ∀ i q, Own (phiAt φ l ⟨p.b, k, 0, g + 1, true⟩) (h.set l (.own (g + 1) t k none [])) i q → Own φ h i q := by
    rintro i q ⟨g1, t1, k1, cap1, es1, hi, hq, hv1⟩
    rcases set_get hi with ⟨rfl, ho, _⟩ | ⟨hne, hi⟩
    · rw [phiAt_at] at hq
      cases hq
      cases hv1
    · rw [phiAt_ne φ _ hne] at hq
      exact ⟨g1, t1, k1, cap1, es1, hi, hq, hv1⟩
  refine ⟨R.os, R.tape, R.output, R.size, R.blk, R.mon, R.imm, R.imn, fun i hi => ?_, ?_, fun l p ho => R.new l p (hown l p ho), fun i j p q hi hj hne => R.inj i j p q (hown i p hi) (hown j q hj) hne, fun a v l p hm ho => R.dis a v l p hm (hown l p ho)⟩
  · simp at hi
    rw [phiAt_ne φ _ (by have := hlt hl; omega)]
    exact R.dom i hi
  · intro i o hi
    rcases set_get hi with ⟨rfl, rfl, _⟩ | ⟨hne, hi⟩
    · exact ⟨_, phiAt_at φ _ _, rfl, rfl, Nat.le_refl _, fun c hc => (by cases hc), fun e he => (by cases he), fun _ => rfl, fun hv => (by cases hv)⟩
    · exact (R.obj i o hi).move hle (MLe.refl _) (phiAt_ne φ _ hne) (fun _ _ _ _ => rfl)
/-- What an append leaves. -/
theorem app_sound (R : Rep G φ M h w) {t e : TypeId} (t2 ty : TypeId) {k by_ : Nat} (z : List CV) (ht : elemA P t = some e) (hk : sizeA P e = some k) (hby : bytesA P e = some by_) (hz : zeroA P e = some z) (hzk : z.length = k) (hk0 : 0 < k) (hb0 : 0 < by_)
    {x s : AV} {u us : Value} {news : List (List CV)} (hx : VA φ M x u) (hs : VA φ M s us) (hr : srcA P t2 h k by_ z x = some news) (H : appA e k by_ h s news K) :
    ∃ φ' v u' h' w', (Builtin.append_ #[t, t2] ty #[us, u]).run P w = .ok u' w' ∧ VA φ' M v u' ∧ K v h' ∧ Rep G φ' M h' w' ∧ Le φ φ' ∧ Kept (toVal s) φ φ' h h' w w' := by
  obtain ⟨i, zv, hi, hiz, hzz, hz1⟩ := zeroA_spec hz
  have ht := elemA_spec ht
  have hsz : i.size = k := by unfold sizeA at hk; rw [hi] at hk; simpa using hk
  have hbt : i.bytes = by_ := by unfold bytesA at hby; rw [hi] at hby; simpa using hby
  have hzs : zv.cells.size = k := by rw [← hzk, hzz]; simp
  obtain ⟨hnk, ns, hnv, hsrc⟩ := srcA_spec (P := P) R hzz hz1 hzk hx hr
  have hmax : ∀ q, q * by_ ≤ 140737488355328 → q ≤ maxLen := fun q hq => by
    have : q * 1 ≤ q * by_ := Nat.mul_le_mul_left q hb0
    unfold maxLen
    omega
  have hnl := hnv.1
  -- a new block with old elements and new ones
  have fresh : ∀ (ba : Option Addr) (sLen sCap : Nat) (olds : List (List CV)) (os : List Value), Ks k olds → RowV φ M k olds os → olds.length = sLen → Reads P w k sLen (.slice ba sLen sCap) os → sCap < sLen + news.length → (sLen + news.length) * by_ ≤ 140737488355328 →
      ∃ n C, sLen + news.length ≤ n ∧ C.size = n * k ∧ okFr (0, 0) C k ∧ Says φ M k C (olds ++ news) ∧ (Builtin.append_ #[t, t2] ty #[.slice ba sLen sCap, u]).run P w = .ok (.slice (some ⟨w.heap.size, 0, none⟩) (sLen + news.length) n) (w.drew.alloc (.cells C e (0, 0))) := by
    intro ba sLen sCap olds os hok hov hol hrd hgt hby2
    have hcap := grownCap_ge w (sLen + news.length) sCap e
    refine ⟨grownCap w (sLen + news.length) sCap e, _, hcap, ?_, ?_, ?_, run_app_new t2 ty ht hi hiz hsz hbt hzs ba sLen sCap os hrd hsrc hgt hby2 (hmax _ hby2)⟩
    · simp only [Array.size_append, List.size_toArray, Builtin.zeroCells, Array.size_map, Array.size_range, hov.1, hnl, hzs, hol]
      rw [← Nat.add_mul, ← Nat.add_mul]
      congr 1
      omega
    · refine ⟨.inl (Nat.le_refl _), fun i v hv => ?_⟩
      have hm := Array.mem_of_getElem? hv
      simp only [Array.mem_append] at hm
      rcases hm with (hm | hm) | hm
      · exact hov.one hok v (by simpa using hm)
      · exact hnv.one hnk v (by simpa using hm)
      · obtain ⟨z1, z2⟩ := zero_row (φ := φ) (M := M) hzz hz1 hzk (grownCap w (sLen + news.length) sCap e - (sLen + news.length))
        exact z2.one z1 v (by simpa using hm)
    · refine (hov.app hnk hnv).says _ (fun j v hj => ?_)
      have e2 : os.toArray ++ ns.toArray = (os ++ ns).toArray := by simp
      rw [e2, Array.getElem?_append_left (by simpa using (List.getElem?_eq_some_iff.1 hj).1)]
      simpa using hj
  have nilcase : ∀ ad : Option Addr, us = .slice ad 0 0 → news.length * by_ ≤ 140737488355328 → K (.one (.sl h.length 0 0 news.length)) (h ++ [.own 0 e k none news]) →
      ∃ φ' v u' h' w', (Builtin.append_ #[t, t2] ty #[us, u]).run P w = .ok u' w' ∧ VA φ' M v u' ∧ K v h' ∧ Rep G φ' M h' w' ∧ Le φ φ' ∧ Kept (toVal s) φ φ' h h' w w' := by
    intro ad e1 hby2 hK
    subst e1
    by_cases hm : news.length = 0
    · have hn0 : news = [] := List.length_eq_zero_iff.1 hm
      subst hn0
      have hns : ns = [] := List.length_eq_zero_iff.1 (by rw [hnl]; simp)
      subst hns
      have hrun := run_app_room (P := P) (w := w) t2 ty ht hi hiz hsz hbt hzs ad 0 0 hsrc (Nat.le_refl _) w (fun a _ => by rfl) (fun _ => rfl)
      obtain ⟨R', hle⟩ := R.virt e k
      refine ⟨_, _, _, _, _, hrun, ?_, hK, R', hle, fun l p ho _ => ⟨rfl, ho.app _ _⟩⟩
      exact ⟨rfl, _, phiAt_at φ _ _, Nat.zero_le _, fun _ => .inl ⟨rfl, rfl, rfl, ad, rfl⟩⟩
    · obtain ⟨n, C, hn, hC, hF, hS, hrun⟩ := fresh ad 0 0 [] [] (fun e he => by cases he) ⟨by simp, fun i e j x hi => by simp at hi⟩ rfl (reads_nil ad 0) (by omega) (by rw [Nat.zero_add]; exact hby2)
      rw [Nat.zero_add] at hrun hn
      obtain ⟨R', hle⟩ := R.drew.alloc e k n none news C (0, 0) hk0 hC hF hn (fun c hc => by cases hc) hnk (by simpa using hS)
      refine ⟨_, _, _, _, _, hrun, ?_, hK, R', hle, Kept.alloc R.drew _ _ _⟩
      refine ⟨rfl, _, phiAt_at φ _ _, Nat.zero_le _, fun _ => .inr ⟨rfl, ?_⟩⟩
      simp
  unfold appA at H
  split at H
  · cases (show V0 M .nl us from hs)
    exact nilcase none rfl H.1 H.2
  · obtain ⟨ad, hus⟩ : ∃ ad, us = .slice ad 0 0 := by
      cases (show V0 M .emp us from hs) with
      | emp ad => exact ⟨ad, rfl⟩
    exact nilcase ad hus H.1 H.2
  · rename_i es
    obtain ⟨rfl, H⟩ := H
    have hns : ns = [] := List.length_eq_zero_iff.1 (by rw [hnl]; simp)
    subst hns
    have hcs : ∃ ad n cap, us = .slice ad n cap ∧ n ≤ cap := by
      cases (show V0 M (.im es) us from hs) with
      | im0 ad cap => exact ⟨_, _, _, rfl, Nat.zero_le _⟩
      | im _ _ b o cap C hk2 hc hm' hV => exact ⟨_, _, _, rfl, hc⟩
    obtain ⟨ad, n, cap, rfl, hnc⟩ := hcs
    exact ⟨φ, _, _, h, w, run_app_room (P := P) (w := w) t2 ty ht hi hiz hsz hbt hzs ad n cap hsrc hnc w (fun a _ => by rfl) (fun _ => rfl), hs, H, R, Le.refl _, Kept.refl _ _ _ _⟩
  · rename_i l g off len
    obtain ⟨q, hq, H⟩ := H.elim
    obtain ⟨te, tk, tcap, es⟩ := q
    obtain ⟨hte, htk, H⟩ := H
    simp only at hte htk H
    subst hte htk
    have hob : h[l]? = some (.own g te tk tcap es) := objA_spec hq
    have hks : Ks tk es := obj_ks R hq
    obtain ⟨p, hp, hg, hpk, hcase⟩ : ∃ p, φ l = some p ∧ p.g = g ∧ p.k = tk ∧ ((p.vir = true ∧ off = 0 ∧ len = 0 ∧ es = [] ∧ ∃ a, us = .slice a 0 0) ∨ (p.vir = false ∧ us = .slice (some ⟨p.b, off * tk, none⟩) len (p.cap - off))) := sl_at R (objA_R hq) hs
    have hOwn : p.vir = false → Own φ h l p := fun hv => ⟨_, _, _, _, _, hob, hp, hv⟩
    have kept : ∀ (hv : p.vir = false) (w' : World) (q : Pl) (o : AO), (∀ b, b ≠ p.b → w'.heap[b]? = w.heap[b]?) → Kept (toVal (.one (.sl l g off len))) φ (phiAt φ l q) h (h.set l o) w w' := by
      intro hv w' q o hw' l' p' ho' hs'
      have hne : l' ≠ l := by intro e; subst e; simp [toVal] at hs'
      exact ⟨hw' _ (R.inj l' l p' p ho' (hOwn hv) hne), ho'.set hne q o⟩
    have keptA : ∀ (ob : Obj) (q : Pl) (o : AO), Kept (toVal (.one (.sl l g off len))) φ (phiAt φ l q) h (h.set l o) w (w.drew.alloc ob) := by
      intro ob q o l' p' ho' hs'
      have hne : l' ≠ l := by intro e; subst e; simp [toVal] at hs'
      exact ⟨Below.heap_alloc w.drew _ _ (R.own_blk ho'), ho'.set hne q o⟩
    have keptV : ∀ (q : Pl) (o : AO), Kept (toVal (.one (.sl l g off len))) φ (phiAt φ l q) h (h.set l o) w w := by
      intro q o l' p' ho' hs'
      have hne : l' ≠ l := by intro e; subst e; simp [toVal] at hs'
      exact ⟨rfl, ho'.set hne q o⟩
    obtain ⟨p', hp', hpg, hpk2, hlc, hcapc, _, hvz, hnb⟩ := R.obj l _ hob
    rw [hp] at hp'
    cases hp'
    rcases H with ⟨hfit, H⟩ | ⟨rfl, hle, hby2, H⟩ | ⟨rfl, hle, hby2, ⟨c, hc, hclt⟩, H⟩
    · -- in place
      rcases hcase with ⟨hv, rfl, rfl, he, ad, rfl⟩ | ⟨hv, rfl⟩
      · subst he
        have hn0 : news = [] := List.length_eq_zero_iff.1 (by simpa using hfit)
        subst hn0
        have hns : ns = [] := List.length_eq_zero_iff.1 (by rw [hnl]; simp)
        subst hns
        have hrun := run_app_room (P := P) (w := w) t2 ty ht hi hiz hsz hbt hzs ad 0 0 hsrc (Nat.le_refl _) w (fun a _ => by rfl) (fun _ => rfl)
        have hset : h.set l (.own g te tk tcap (cset [] (0 + 0) [])) = h := by
          apply List.ext_getElem?
          intro j
          rw [List.getElem?_set]
          split
          · rename_i e; subst e; rw [if_pos (hlt hob), hob]; rfl
          · rfl
        rw [hset] at H
        exact ⟨φ, _, _, h, w, hrun, hs, H, R, Le.refl _, Kept.refl _ _ _ _⟩
      · obtain ⟨h8, C, fr, h9, h10, h11, h12⟩ := hnb hv
        have hin : (off + len) * tk + ns.length ≤ C.size := by
          rw [hnl, ← Nat.add_mul, h10, hpk]
          exact Nat.mul_le_mul_right _ (by omega)
        have h1 := hnv.one hnk
        have hst := run_store_block (P := P) h9 h11 (o := (off + len) * tk) ns hin h1
        have hrun := run_app_room (P := P) (w := w) t2 ty ht hi hiz hsz hbt hzs (some ⟨p.b, off * tk, none⟩) len (p.cap - off) hsrc (by omega) _ (fun a ha => by cases ha; rw [add_lit, ← Nat.add_mul]; exact hst) (fun hn => by cases hn)
        obtain ⟨s1, s2, s3, s4, s5⟩ := setCells_other p.b ns ((off + len) * tk) w
        have hb := heap_setCells p.b te fr ns ((off + len) * tk) w C.toList (by simpa using h9)
        have hcl : (cset C.toList ((off + len) * tk) ns).toArray.size = C.size := by simp [cset_length]
        have hS : Says φ M tk C es := fun i e j x hi hj => by rw [← hpk]; exact h12 i e j x hi hj
        obtain ⟨R', hle'⟩ := R.write hob hp hv s1 s2 s3 s4 s5 _ fr hb (by rw [hcl, h10]) (okFr_set h11 hin (hnv.one hnk)) p.g (.inl rfl) tcap hcapc (cset es (off + len) news) (by rw [cset_length]; exact hlc) (fun e he => by
            rcases cset_mem he with he | he
            · exact hks e he
            · exact hnk e he) (RowV.csetV hks hnk hS hnv (off + len) hfit hin)
        rw [hpg] at R' hle'
        refine ⟨_, _, _, _, _, hrun, ?_, H, R', hle', kept hv _ _ _ s5⟩
        exact ⟨rfl, _, phiAt_at φ _ _, Nat.le_refl _, fun _ => .inr ⟨hv, by rw [hpk]⟩⟩
    · -- regrown
      rcases hcase with ⟨hv, _, rfl, he, ad, rfl⟩ | ⟨hv, rfl⟩
      · subst he
        by_cases hm : news.length = 0
        · have hn0 : news = [] := List.length_eq_zero_iff.1 hm
          subst hn0
          have hns : ns = [] := List.length_eq_zero_iff.1 (by rw [hnl]; simp)
          subst hns
          have hrun := run_app_room (P := P) (w := w) t2 ty ht hi hiz hsz hbt hzs ad 0 0 hsrc (Nat.le_refl _) w (fun a _ => by rfl) (fun _ => rfl)
          obtain ⟨R', hle'⟩ := R.bumpv hob hp hv
          refine ⟨_, _, _, _, _, hrun, ?_, H, R', hle', keptV _ _⟩
          exact ⟨rfl, _, phiAt_at φ _ _, Nat.le_refl _, fun _ => .inl ⟨rfl, rfl, rfl, ad, rfl⟩⟩
        · obtain ⟨n, C, hn, hC, hF, hS, hrun⟩ := fresh ad 0 0 [] [] (fun e he => by cases he) ⟨by simp, fun i e j x hi => by simp at hi⟩ rfl (reads_nil ad 0) (by omega) hby2
          obtain ⟨R', hle'⟩ := R.drew.regrow hob te tk n news C (0, 0) hk0 hC hF (by omega) hnk (by simpa using hS)
          refine ⟨_, _, _, _, _, hrun, ?_, by simpa using H, R', hle', keptA _ _ _⟩
          refine ⟨rfl, _, phiAt_at φ _ _, Nat.le_refl _, fun _ => .inr ⟨rfl, ?_⟩⟩
          simp
      · obtain ⟨os, hov, hoc⟩ := obj_row R (objA_R hq) (off := 0) (len := len) (by simpa using hle) hp hv
        simp only [List.drop_zero, Nat.zero_mul] at hov hoc
        have hol : (es.take len).length = len := by rw [List.length_take]; omega
        have hok : Ks tk (es.take len) := fun e he => hks e (List.mem_of_mem_take he)
        have hosl : os.length = len * tk := by rw [hov.1, hol]
        have hrd : Reads P w tk len (.slice (some ⟨p.b, 0 * tk, none⟩) len (p.cap - 0)) os := by
          rw [Nat.zero_mul]
          exact reads_slice hosl hoc
        by_cases hroom : len + news.length ≤ p.cap
        · obtain ⟨h8, C, fr, h9, h10, h11, h12⟩ := hnb hv
          have hin : (len * tk) + ns.length ≤ C.size := by
            rw [hnl, ← Nat.add_mul, h10, hpk]
            exact Nat.mul_le_mul_right _ hroom
          have hst := run_store_block (P := P) h9 h11 (o := len * tk) ns hin (hnv.one hnk)
          have hrun := run_app_room (P := P) (w := w) t2 ty ht hi hiz hsz hbt hzs (some ⟨p.b, 0 * tk, none⟩) len (p.cap - 0) hsrc (by omega) _ (fun a ha => by cases ha; rw [add_lit, ← Nat.add_mul, Nat.zero_add]; exact hst) (fun hn => by cases hn)
          obtain ⟨s1, s2, s3, s4, s5⟩ := setCells_other p.b ns (len * tk) w
          have hb := heap_setCells p.b te fr ns (len * tk) w C.toList (by simpa using h9)
          have hcl : (cset C.toList (len * tk) ns).toArray.size = C.size := by simp [cset_length]
          have hS : Says φ M tk (cset C.toList (len * tk) ns).toArray (es.take len ++ news) := by
            refine (hov.app hnk hnv).says _ (fun j v hj => ?_)
            have hjl := (List.getElem?_eq_some_iff.1 hj).1
            rw [List.length_append] at hjl
            rw [List.getElem?_toArray, cset_get _ _ _ _ (by simpa using hin)]
            by_cases hj1 : j < os.length
            · rw [List.getElem?_append_left hj1] at hj
              rw [if_neg (by omega)]
              have := hoc j v hj
              rw [Nat.zero_add, Joins.cell_of_block h9] at this
              simpa using this
            · rw [List.getElem?_append_right (by omega)] at hj
              rw [if_pos (by omega), ← hosl]
              exact hj
          obtain ⟨R', hle'⟩ := R.write hob hp hv s1 s2 s3 s4 s5 _ fr hb (by rw [hcl, h10]) (okFr_set h11 hin (hnv.one hnk)) (g + 1) (.inr (by omega)) none (fun c hc => by cases hc) (es.take len ++ news) (by rw [List.length_append, hol]; exact hroom) (fun e he => by
              rcases List.mem_append.1 he with he | he
              · exact hok e he
              · exact hnk e he) hS
          refine ⟨_, _, _, _, _, hrun, ?_, H, R', hle', kept hv _ _ _ s5⟩
          exact ⟨rfl, _, phiAt_at φ _ _, Nat.le_refl _, fun _ => .inr ⟨hv, by simp⟩⟩
        · obtain ⟨n, C, hn, hC, hF, hS, hrun⟩ := fresh _ len _ (es.take len) os hok hov hol hrd (by omega) hby2
          obtain ⟨R', hle'⟩ := R.drew.regrow hob te tk n (es.take len ++ news) C (0, 0) hk0 hC hF (by rw [List.length_append, hol]; exact hn) (fun e he => by
              rcases List.mem_append.1 he with he | he
              · exact hok e he
              · exact hnk e he) hS
          refine ⟨_, _, _, _, _, hrun, ?_, H, R', hle', keptA _ _ _⟩
          refine ⟨rfl, _, phiAt_at φ _ _, Nat.le_refl _, fun _ => .inr ⟨rfl, ?_⟩⟩
          simp
    · -- a new row, the old one stays
      have hpc := hcapc c hc
      rcases hcase with ⟨hv, _, rfl, he, ad, rfl⟩ | ⟨hv, rfl⟩
      · subst he
        obtain ⟨n, C, hn, hC, hF, hS, hrun⟩ := fresh ad 0 0 [] [] (fun e he => by cases he) ⟨by simp, fun i e j x hi => by simp at hi⟩ rfl (reads_nil ad 0) (by omega) hby2
        obtain ⟨R', hle'⟩ := R.drew.alloc te tk n none news C (0, 0) hk0 hC hF (by omega) (fun c hc => by cases hc) hnk (by simpa using hS)
        refine ⟨_, _, _, _, _, hrun, ?_, by simpa using H, R', hle', Kept.alloc R.drew _ _ _⟩
        refine ⟨rfl, _, phiAt_at φ _ _, Nat.zero_le _, fun _ => .inr ⟨rfl, ?_⟩⟩
        simp
      · obtain ⟨os, hov, hoc⟩ := obj_row R (objA_R hq) (off := 0) (len := len) (by simpa using hle) hp hv
        simp only [List.drop_zero, Nat.zero_mul] at hov hoc
        have hol : (es.take len).length = len := by rw [List.length_take]; omega
        have hok : Ks tk (es.take len) := fun e he => hks e (List.mem_of_mem_take he)
        have hosl : os.length = len * tk := by rw [hov.1, hol]
        have hrd : Reads P w tk len (.slice (some ⟨p.b, 0 * tk, none⟩) len (p.cap - 0)) os := by
          rw [Nat.zero_mul]
          exact reads_slice hosl hoc
        obtain ⟨n, C, hn, hC, hF, hS, hrun⟩ := fresh _ len _ (es.take len) os hok hov hol hrd (by omega) hby2
        obtain ⟨R', hle'⟩ := R.drew.alloc te tk n none (es.take len ++ news) C (0, 0) hk0 hC hF (by rw [List.length_append, hol]; exact hn) (fun c hc => by cases hc) (fun e he => by
            rcases List.mem_append.1 he with he | he
            · exact hok e he
            · exact hnk e he) hS
        refine ⟨_, _, _, _, _, hrun, ?_, H, R', hle', Kept.alloc R.drew _ _ _⟩
        refine ⟨rfl, _, phiAt_at φ _ _, Nat.zero_le _, fun _ => .inr ⟨rfl, ?_⟩⟩
        simp
  · exact H.elim
end
end Go.BL
