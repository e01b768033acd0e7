/- That the machine follows each operation: calls, copies, what is cleared; operations all in one. Conditions: none. -/
import Derived.Test.YtedkpjaojdkpcaaGreatL5
namespace Go.BL
open Go.RowKit
set_option linter.unusedVariables false
set_option linter.unusedSimpArgs false
section
variable {P : Program} {G : Cx} {φ : Phi} {M : Im} {h : AH} {w : World} {f : AF} {n : Nat} {a : Act} {S : Nat → Bool} {K : AV → AH → Prop} {next : Act → World → Prop} {Q : Exit → Act → World → Prop}
/-- A row is written into an owned object. -/
theorem Rep.put (R : Rep G φ M h w) {l g off : Nat} {q : TypeId × Nat × Option Nat × List (List CV)} (hq : objA h l g = some q) {p : Pl} (hp : φ l = some p) (hv : p.vir = false) {fs : List (List CV)} {us : List Value} (hfk : Ks q.2.1 fs) (hrow : RowV φ M q.2.1 fs us) (hfit : off + fs.length ≤ q.2.2.2.length) :
    (storeCells ⟨p.b, off * q.2.1, none⟩ us).run P w = .ok () (w.setCells p.b (off * q.2.1) us) ∧ (∀ b, b ≠ p.b → (w.setCells p.b (off * q.2.1) us).heap[b]? = w.heap[b]?) ∧
      ∃ φ', Rep G φ' M (h.set l (.own g q.1 q.2.1 q.2.2.1 (BL.cset q.2.2.2 off fs))) (w.setCells p.b (off * q.2.1) us) ∧ Le φ φ' ∧ ∀ j, j ≠ l → φ' j = φ j := by
  obtain ⟨t, k, cap, es⟩ := q
  simp only at *
  have hob : h[l]? = some (.own g t k cap es) := objA_spec hq
  have hks : Ks k es := obj_ks R hq
  obtain ⟨p', hp', hpg, hpk, hlc, hcapc, _, hvz, hnb⟩ := R.obj l _ hob
  rw [hp] at hp'
  cases hp'
  obtain ⟨h8, C, fr, h9, h10, h11, h12⟩ := hnb hv
  have hin : off * k + us.length ≤ C.size := by
    rw [hrow.1, ← Nat.add_mul, h10, hpk]
    exact Nat.mul_le_mul_right _ (by omega)
  obtain ⟨s1, s2, s3, s4, s5⟩ := setCells_other p.b us (off * k) w
  have hb := heap_setCells p.b t fr us (off * k) w C.toList (by simpa using h9)
  have hcl : (cset C.toList (off * k) us).toArray.size = C.size := by simp [cset_length]
  have hS : Says φ M k C es := fun i e j x hi hj => by rw [← hpk]; exact h12 i e j x hi hj
  obtain ⟨R', hle'⟩ := R.write hob hp hv s1 s2 s3 s4 s5 _ fr hb (by rw [hcl, h10]) (okFr_set h11 hin (hrow.one hfk)) p.g (.inl rfl) cap hcapc (cset es off fs) (by rw [cset_length]; exact hlc) (fun e he => by
      rcases cset_mem he with he | he
      · exact hks e he
      · exact hfk e he) (RowV.csetV hks hfk hS hrow off hfit hin)
  rw [hpg] at R' hle'
  exact ⟨run_store_block (P := P) h9 h11 us hin (hrow.one hfk), s5, _, R', hle', fun j hj => phiAt_ne φ _ hj⟩
theorem kept_of (R : Rep G φ M h w) {l : Nat} {p : Pl} (ho : Own φ h l p) {w' : World} (s5 : ∀ b, b ≠ p.b → w'.heap[b]? = w.heap[b]?) (hS : ∀ j, S j = false → j ≠ l) {φ' : Phi} (hφ : ∀ j, j ≠ l → φ' j = φ j) (o : AO) : Kept S φ φ' h (h.set l o) w w' :=
  fun l' p' ho' hs' => by
    have hne := hS l' hs'
    refine ⟨s5 _ (R.inj l' l p' p ho' ho hne), ?_⟩
    obtain ⟨g, t, k, cap, es, hl, hp, hv⟩ := ho'
    exact ⟨g, t, k, cap, es, by rw [List.getElem?_set_ne (Ne.symm hne)]; exact hl, by rw [hφ _ hne]; exact hp, hv⟩
theorem set_same {l : Nat} {o : AO} (hl : h[l]? = some o) : h.set l o = h := by
  apply List.ext_getElem?
  intro j
  rw [List.getElem?_set]
  split
  · rename_i e; subst e
    rw [if_pos (hlt hl), hl]
  · rfl
theorem copy_sound (R : Rep G φ M h w) {t e : TypeId} (t2 ty : TypeId) {k : Nat} (ht : elemA P t = some e) (hk : sizeA P e = some k) {x s : AV} {u us : Value} {news : List (List CV)} (hx : VA φ M x u) (hs : VA φ M s us) (hr : rowA h k x = some news) (H : copA h s news k K) :
    ∃ φ' v u' h' w', (Builtin.copy_ #[t, t2] ty #[us, u]).run P w = .ok u' w' ∧ VA φ' M v u' ∧ K v h' ∧ Rep G φ' M h' w' ∧ Le φ φ' ∧ Kept (toVal s) φ φ' h h' w w' := by
  have ht := elemA_spec ht
  obtain ⟨hnk, ns, hrow, hrd⟩ := rowA_spec (P := P) R hx hr
  obtain ⟨hlen, hfc⟩ := hrd.2 w rfl
  have nilcase : ∀ (ad : Option Addr) (c : Nat), us = .slice ad 0 c → K (.one (.c (.int .i64 0))) h → ∃ φ' v u' h' w', (Builtin.copy_ #[t, t2] ty #[us, u]).run P w = .ok u' w' ∧ VA φ' M v u' ∧ K v h' ∧ Rep G φ' M h' w' ∧ Le φ φ' ∧ Kept (toVal s) φ φ' h h' w w' := by
    intro ad c hu hK
    subst hu
    have h0 := hfc 0 (Nat.zero_le _)
    have hmin : Nat.min news.length 0 = 0 := Nat.min_zero _
    refine ⟨φ, _, .int .i64 0, h, w, ?_, mk_c _, hK, R, Le.refl _, Kept.refl _ _ _ _⟩
    cases ad <;> simp [Builtin.copy_, run_underlying ht, run_sizeA hk, hlen, hmin, h0, goInt, storeCells]
  unfold copA at H
  split at H
  · cases (show V0 M .nl us from hs)
    exact nilcase none 0 rfl H
  · obtain ⟨ad, hus⟩ : ∃ ad, us = .slice ad 0 0 := by
      cases (show V0 M .emp us from hs) with
      | emp ad => exact ⟨ad, rfl⟩
    exact nilcase ad 0 hus H
  · rename_i l g off len
    obtain ⟨q, hq, H⟩ := H.elim
    obtain ⟨hqk, hle, H⟩ := H
    obtain ⟨p, hp, hg, hpk, hcase⟩ := sl_at R (objA_R hq) hs
    have hnv : (if news.length ≤ len then news.length else len) = min news.length len := rfl
    have hmin : Nat.min news.length len = min news.length len := rfl
    rcases hcase with ⟨hv, rfl, rfl, hes, ad, rfl⟩ | ⟨hv, rfl⟩
    · have hob := objA_spec hq
      rw [Nat.min_zero, List.take_zero] at H
      have hset : h.set l (.own g q.1 k q.2.2.1 (cset q.2.2.2 0 [])) = h := by
        rw [← hqk]; exact set_same hob
      rw [hset] at H
      exact nilcase ad 0 rfl H
    · subst hqk
      have hrow2 := hrow.take hnk (min news.length len) (Nat.min_le_left _ _)
      have hnk2 : Ks q.2.1 (news.take (min news.length len)) := fun e he => hnk e (List.mem_of_mem_take he)
      have hl2 : (news.take (min news.length len)).length = min news.length len := by rw [List.length_take]; omega
      obtain ⟨hst, s5, φ', R', hle', hφ'⟩ := R.put (P := P) (off := off) hq hp hv hnk2 hrow2 (by rw [hl2]; omega)
      have h0 := hfc (min news.length len) (Nat.min_le_left _ _)
      refine ⟨φ', _, .int .i64 ((min news.length len : Nat) : Int), _, _, ?_, mk_c _, H, R', hle', kept_of R ⟨_, _, _, _, _, objA_spec hq, hp, hv⟩ s5 (fun j hj e => by subst e; simp [toVal] at hj) hφ' _⟩
      simp only [Builtin.copy_, Sem.run_bind, run_underlying ht, Result.andThen_ok, hlen, hmin, run_sizeA hk, h0, hst, Sem.run_pure, goInt]
      simp [run_underlying ht, hlen, hmin, run_sizeA hk, h0, hst, goInt]
  · exact H.elim
theorem clear_sound (R : Rep G φ M h w) {t e : TypeId} (ty : TypeId) {z : List CV} (ht : elemA P t = some e) (hz : zeroA P e = some z) (hz0 : 0 < z.length) {s : AV} {us : Value} (hs : VA φ M s us) (H : clrA h s z K) :
    ∃ φ' v u' h' w', (Builtin.clear_ #[t] ty #[us]).run P w = .ok u' w' ∧ VA φ' M v u' ∧ K v h' ∧ Rep G φ' M h' w' ∧ Le φ φ' ∧ Kept (toVal s) φ φ' h h' w w' := by
  obtain ⟨i, zv, hi, hiz, hzz, hz1⟩ := zeroA_spec hz
  have ht := elemA_spec ht
  have tup : ∀ φ', VA φ' M (.tup []) (.tuple #[]) := fun φ' => ⟨[], rfl, rfl, fun j x hj => by simp at hj⟩
  have nilcase : ∀ (ad : Option Addr) (c : Nat), us = .slice ad 0 c → K (.tup []) h → ∃ φ' v u' h' w', (Builtin.clear_ #[t] ty #[us]).run P w = .ok u' w' ∧ VA φ' M v u' ∧ K v h' ∧ Rep G φ' M h' w' ∧ Le φ φ' ∧ Kept (toVal s) φ φ' h h' w w' := by
    intro ad c hu hK
    subst hu
    refine ⟨φ, _, _, h, w, ?_, tup φ, hK, R, Le.refl _, Kept.refl _ _ _ _⟩
    cases ad <;> simp [Builtin.clear_, run_underlying ht]
  unfold clrA at H
  split at H
  · cases (show V0 M .nl us from hs)
    exact nilcase none 0 rfl H
  · obtain ⟨ad, hus⟩ : ∃ ad, us = .slice ad 0 0 := by
      cases (show V0 M .emp us from hs) with
      | emp ad => exact ⟨ad, rfl⟩
    exact nilcase ad 0 hus H
  · obtain ⟨ad, c, hus⟩ : ∃ ad c, us = .slice ad 0 c := by
      cases (show V0 M (.im []) us from hs) <;> exact ⟨_, _, rfl⟩
    exact nilcase ad c hus H
  · rename_i l g off len
    obtain ⟨q, hq, H⟩ := H.elim
    obtain ⟨hqk, hle, H⟩ := H
    obtain ⟨p, hp, hg, hpk, hcase⟩ := sl_at R (objA_R hq) hs
    rcases hcase with ⟨hv, rfl, rfl, hes, ad, rfl⟩ | ⟨hv, rfl⟩
    · have hob := objA_spec hq
      have hset : h.set l (.own g q.1 q.2.1 q.2.2.1 (cset q.2.2.2 0 (List.replicate 0 z))) = h := set_same hob
      rw [hset] at H
      exact nilcase ad 0 rfl H
    · by_cases hl0 : len = 0
      · subst hl0
        have hob := objA_spec hq
        have hset : h.set l (.own g q.1 q.2.1 q.2.2.1 (cset q.2.2.2 off (List.replicate 0 z))) = h := set_same hob
        rw [hset] at H
        exact nilcase _ _ rfl H
      · obtain ⟨hzks, hzrow⟩ := zero_row (φ := φ) (M := M) hzz hz1 hqk.symm len
        obtain ⟨hst, s5, φ', R', hle', hφ'⟩ := R.put (P := P) (off := off) hq hp hv hzks hzrow (by rw [List.length_replicate]; exact hle)
        refine ⟨φ', _, .tuple #[], _, _, ?_, tup φ', H, R', hle', kept_of R ⟨_, _, _, _, _, objA_spec hq, hp, hv⟩ s5 (fun j hj e => by subst e; simp [toVal] at hj) hφ' _⟩
        simp [Builtin.clear_, run_underlying ht, zeroValue, typeInfo, hi, hiz, hst]
  · exact H.elim
/-- What lies behind the elements up to the capacity is told as something. -/
theorem Rep.spare (R : Rep G φ M h w) {l g k c : Nat} {t : TypeId} {es : List (List CV)} (hl : h[l]? = some (.own g t k (some c) es)) : Rep G φ M (h.set l (.own g t k (some c) (spareE k c es))) w := by
  have hown : ∀ i p, Own φ (h.set l (.own g t k (some c) (spareE k c es))) i p → Own φ h i p := by
    rintro i p ⟨g1, t1, k1, cap1, es1, hi, hp, hv⟩
    rcases set_get hi with ⟨rfl, _, _⟩ | ⟨_, hi⟩
    · exact ⟨_, _, _, _, _, hl, hp, hv⟩
    · exact ⟨g1, t1, k1, cap1, es1, hi, hp, hv⟩
  refine ⟨R.os, R.tape, R.output, R.size, R.blk, R.mon, R.imm, R.imn, fun i hi => R.dom i (by simpa using hi), fun i o hi => ?_, fun i p ho => R.new i p (hown i p ho), fun i j p q hi hj hne => R.inj i j p q (hown i p hi) (hown j q hj) hne, fun a v i p hm ho => R.dis a v i p hm (hown i p ho)⟩
  rcases set_get hi with ⟨rfl, rfl, _⟩ | ⟨_, hi⟩
  · obtain ⟨p, h1, h2, h3, h4, h5, h6, h7, h8⟩ := R.obj i _ hl
    have hc := h5 c rfl
    refine ⟨p, h1, h2, h3, by simp [spareE]; omega, h5, fun e he => ?_, h7, fun hv => ?_⟩
    · rcases List.mem_append.1 he with he | he
      · exact h6 e he
      · rw [(List.mem_replicate.1 he).2, List.length_replicate]
    · obtain ⟨h9, C, fr, h10, h11, h12, h13⟩ := h8 hv
      refine ⟨h9, C, fr, h10, h11, h12, fun i e j x hi hj => ?_⟩
      unfold spareE at hi
      by_cases hlt : i < es.length
      · rw [List.getElem?_append_left hlt] at hi
        exact h13 i e j x hi hj
      · rw [List.getElem?_append_right (by omega), List.getElem?_replicate] at hi
        split at hi
        · rename_i hil
          cases hi
          rw [List.getElem?_replicate] at hj
          split at hj
          · rename_i hjk
            cases hj
            have hin : i * p.k + j < C.size := by rw [h11]; exact cell_in (by omega) (by omega)
            exact ⟨C[i * p.k + j], Array.getElem?_eq_getElem hin, V0.junk _ (h12.2 _ _ (Array.getElem?_eq_getElem hin))⟩
          · cases hj
        · cases hi
  · exact R.obj i o hi
theorem cap_sound (R : Rep G φ M h w) {t e : TypeId} (ty : TypeId) (ht : elemA P t = some e) {s : AV} {us : Value} (hs : VA φ M s us) (H : capG0 h s K) :
    ∃ v u' h', (Builtin.cap_ #[t] ty #[us]).run P w = .ok u' w ∧ VA φ M v u' ∧ K v h' ∧ Rep G φ M h' w ∧ ∀ l p, Own φ h l p → Own φ h' l p := by
  have ht := elemA_spec ht
  have run : ∀ (ad : Option Addr) (m c : Nat), us = .slice ad m c → (Builtin.cap_ #[t] ty #[us]).run P w = .ok (.int .i64 c) w := by
    intro ad m c hu
    subst hu
    simp [Builtin.cap_, run_underlying ht, goInt]
  unfold capG0 at H
  split at H
  · cases (show V0 M .nl us from hs)
    exact ⟨_, _, h, run _ _ _ rfl, mk_c _, H, R, fun _ _ ho => ho⟩
  · obtain ⟨ad, hus⟩ : ∃ ad, us = .slice ad 0 0 := by
      cases (show V0 M .emp us from hs) with
      | emp ad => exact ⟨ad, rfl⟩
    exact ⟨_, _, h, run _ _ _ hus, mk_c _, H, R, fun _ _ ho => ho⟩
  · rename_i es
    obtain ⟨ad, c, hus, hc⟩ : ∃ ad c, us = .slice ad es.length c ∧ es.length ≤ c := by
      cases (show V0 M (.im es) us from hs) with
      | im0 ad c => exact ⟨_, _, rfl, Nat.zero_le _⟩
      | im _ _ b o c C hks hc hm hV => exact ⟨_, _, rfl, hc⟩
    exact ⟨_, _, h, run _ _ _ hus, mk_c _, H c hc, R, fun _ _ ho => ho⟩
  · rename_i l g off len
    obtain ⟨q, hq, H⟩ := H.elim
    obtain ⟨tq, kq, cq, es⟩ := q
    have hob : h[l]? = some (.own g tq kq cq es) := objA_spec hq
    obtain ⟨p, hp, hg, hpk, hcase⟩ := sl_at R (objA_R hq) hs
    obtain ⟨p', hp', hpg, hpk', hlc, hcapc, hks, hvz, hnb⟩ := R.obj l _ hob
    rw [hp] at hp'
    cases hp'
    have hK := H p.cap hlc hcapc
    have hown : ∀ i r, Own φ (h.set l (.own g tq kq (some p.cap) es)) i r → Own φ h i r := by
      rintro i r ⟨g1, t1, k1, cap1, es1, hi, hr, hv1⟩
      rcases set_get hi with ⟨rfl, ho, _⟩ | ⟨hne, hi⟩
      · rw [hp] at hr
        cases hr
        exact ⟨_, _, _, _, _, hob, hp, hv1⟩
      · exact ⟨g1, t1, k1, cap1, es1, hi, hr, hv1⟩
    have R' : Rep G φ M (h.set l (.own g tq kq (some p.cap) es)) w := by
      refine ⟨R.os, R.tape, R.output, R.size, R.blk, R.mon, R.imm, R.imn, fun i hi => R.dom i (by simpa using hi), ?_, fun l p ho => R.new l p (hown l p ho), fun i j p q hi hj hne => R.inj i j p q (hown i p hi) (hown j q hj) hne, fun a v l p hm ho => R.dis a v l p hm (hown l p ho)⟩
      intro i o hi
      rcases set_get hi with ⟨rfl, rfl, _⟩ | ⟨hne, hi⟩
      · exact ⟨p, hp, hpg, hpk', hlc, fun c hc => (by cases hc; rfl), hks, hvz, hnb⟩
      · exact R.obj i o hi
    have hown2 : ∀ es' i r, Own φ h i r → Own φ (h.set l (.own g tq kq (some p.cap) es')) i r := by
      rintro es' i r ⟨g1, t1, k1, cap1, es1, hi, hr, hv1⟩
      by_cases hne : i = l
      · subst hne
        exact ⟨_, _, _, _, _, List.getElem?_set_self (hlt hob), hr, hv1⟩
      · exact ⟨g1, t1, k1, cap1, es1, by rw [List.getElem?_set_ne (Ne.symm hne)]; exact hi, hr, hv1⟩
    have R2 : Rep G φ M (h.set l (.own g tq kq (some p.cap) (spareE kq p.cap es))) w := by
      have := R'.spare (l := l) (g := g) (k := kq) (c := p.cap) (t := tq) (es := es) (List.getElem?_set_self (hlt hob))
      rwa [List.set_set] at this
    rcases hcase with ⟨hv, rfl, rfl, hes, ad, rfl⟩ | ⟨hv, rfl⟩
    · have h0 := hvz hv
      rcases hK with hK | hK
      · refine ⟨_, .int .i64 ((p.cap - 0 : Nat) : Int), _, ?_, mk_c _, hK, R', hown2 _⟩
        rw [run _ _ _ rfl, h0]
      · refine ⟨_, .int .i64 ((p.cap - 0 : Nat) : Int), _, ?_, mk_c _, hK, R2, hown2 _⟩
        rw [run _ _ _ rfl, h0]
    · rcases hK with hK | hK
      · exact ⟨_, _, _, run _ _ _ rfl, mk_c _, hK, R', hown2 _⟩
      · exact ⟨_, _, _, run _ _ _ rfl, mk_c _, hK, R2, hown2 _⟩
  · exact H.elim
/-! ### What stands for good, or for the time of a call -/
theorem clz_V0 {x : CV} {u : Value} (h : V φ M x u) : V0 M (clz x) u := by
  cases x with
  | pt l g i off => exact V0.junk u h.1
  | sl l g off len => exact V0.junk u h.1
  | clo g caps =>
    obtain ⟨vs, rfl, h2, h3⟩ := h
    cases caps with
    | nil =>
      have : vs = [] := List.length_eq_zero_iff.1 (by simpa using h2)
      subst this
      exact V0.clo g
    | cons c r => exact V0.junk _ rfl
  | _ => exact h
theorem Rep.grow (R : Rep G φ M h w) {w1 : World} (ho : w1.os = w.os) (ht : w1.tape = w.tape) (hout : w1.output = w.output) (hs : w.heap.size ≤ w1.heap.size) (hb : ∀ b, b < w.heap.size → w1.heap[b]? = w.heap[b]?) : Rep G φ M h w1 := by
  have hsz := R.size
  refine ⟨ho.trans R.os, ht.trans R.tape, ⟨hout.trans R.output.1, R.output.2⟩, Nat.le_trans R.size hs, fun b hb1 hn => ?_, R.mon, fun a v q => ?_, R.imn, R.dom, fun l o hl => ?_, R.new, R.inj, R.dis⟩
  · rw [hb b (by omega)]; exact R.blk b hb1 hn
  · obtain ⟨h1, h2⟩ := R.imm a v q
    rw [cell_same (hb a.block h2)]
    exact ⟨h1, by omega⟩
  · refine (R.obj l o hl).move (Le.refl _) (MLe.refl _) rfl (fun p hp hv ho => ?_)
    cases o with
    | dead => cases ho
    | ro _ _ _ _ => cases ho
    | own g t k cap es => exact hb _ (R.own_blk ⟨g, t, k, cap, es, hl, hp, hv⟩)
/-- An object comes to stand for good. -/
theorem Rep.freeze1 (R : Rep G φ M h w) {l : Nat} {o : AO} (hl : h[l]? = some o) : ∃ M', Rep G φ M' (h.set l (frO o)) w ∧ MLe M M' ∧ ∀ p, Own φ h l p → ∀ (o : Nat) v, w.cell? ⟨p.b, o, none⟩ = some v → M' ⟨p.b, o, none⟩ v := by
  cases o with
  | dead => exact ⟨M, by rw [show frO AO.dead = .dead from rfl, set_same hl]; exact R, MLe.refl _, fun p ho => by obtain ⟨_, _, _, _, _, hl', _⟩ := ho; rw [hl] at hl'; cases hl'⟩
  | ro g t k es => exact ⟨M, by rw [show frO (AO.ro g t k es) = .ro g t k es from rfl, set_same hl]; exact R, MLe.refl _, fun p ho => by obtain ⟨_, _, _, _, _, hl', _⟩ := ho; rw [hl] at hl'; cases hl'⟩
  | own g t k cap es =>
    obtain ⟨p, h1, h2, h3, h4, h5, h6, h7, h8⟩ := R.obj l _ hl
    have hown : ∀ i r, Own φ (h.set l (frO (.own g t k cap es))) i r → i ≠ l ∧ Own φ h i r := by
      rintro i r ⟨g1, t1, k1, cap1, es1, hi, hr, hv1⟩
      rcases set_get hi with ⟨rfl, ho, _⟩ | ⟨hne, hi⟩
      · cases ho
      · exact ⟨hne, g1, t1, k1, cap1, es1, hi, hr, hv1⟩
    refine ⟨fun a v => M a v ∨ (p.vir = false ∧ a.block = p.b ∧ a.spot = none ∧ w.cell? a = some v), ?_, fun a v q => .inl q, fun p' ho o v hc => ?_⟩
    · refine ⟨R.os, R.tape, R.output, R.size, R.blk, fun a v q => .inl (R.mon a v q), fun a v q => ?_, fun a v q => ?_, fun i hi => R.dom i (by simpa using hi), fun i o hi => ?_, fun i r ho => R.new i r (hown i r ho).2, fun i j r s hi hj hne => R.inj i j r s (hown i r hi).2 (hown j s hj).2 hne, fun a v i r q ho => ?_⟩
      · rcases q with q | ⟨hv, q1, q2, q3⟩
        · exact R.imm a v q
        · refine ⟨q3, ?_⟩
          rw [q1]
          exact R.own_blk ⟨g, t, k, cap, es, hl, h1, hv⟩
      · rcases q with q | ⟨hv, q1, q2, q3⟩
        · exact R.imn a v q
        · have := R.new l p ⟨g, t, k, cap, es, hl, h1, hv⟩
          rw [q1]
          exact .inr this
      · rcases set_get hi with ⟨rfl, rfl, _⟩ | ⟨hne, hi⟩
        · refine ⟨p, h1, h2, h3, fun e he => ?_, by simpa using h4, h7, fun hv => ?_⟩
          · obtain ⟨e', he', rfl⟩ := List.mem_map.1 he
            simpa using h6 e' he'
          · obtain ⟨h9, C, fr, h10, h11, h12, h13⟩ := h8 hv
            refine ⟨h9, fun i j => C.getD (i * p.k + j) undef, fun i' e j x hi' hj => ?_⟩
            rw [List.getElem?_map] at hi'
            obtain ⟨e', he', rfl⟩ := Option.map_eq_some_iff.1 hi'
            rw [List.getElem?_map] at hj
            obtain ⟨x', hx', rfl⟩ := Option.map_eq_some_iff.1 hj
            obtain ⟨v, hv1, hv2⟩ := h13 i' e' j x' he' hx'
            have hgd : C.getD (i' * p.k + j) undef = v := by rw [Array.getD_eq_getD_getElem?, hv1]; rfl
            simp only [hgd]
            exact ⟨.inr ⟨hv, by simp, by simp, by rw [Joins.cell_of_block h10]; exact hv1⟩, (clz_V0 hv2).mono fun a v q => .inl q⟩
        · exact (R.obj i o hi).move (Le.refl _) (fun a v q => .inl q) rfl (fun _ _ _ _ => rfl)
      · obtain ⟨hne, ho⟩ := hown i r ho
        rcases q with q | ⟨hv, q1, q2, q3⟩
        · exact R.dis a v i r q ho
        · rw [q1]
          exact R.inj l i p r ⟨g, t, k, cap, es, hl, h1, hv⟩ ho (Ne.symm hne)
    · obtain ⟨g1, t1, k1, cap1, es1, hl', hp', hv'⟩ := ho
      rw [h1] at hp'
      cases hp'
      exact .inr ⟨hv', rfl, rfl, hc⟩
theorem frH_length : ∀ (L : List Nat) (h : AH), (frH L h).length = h.length
  | [], h => rfl
  | l :: r, h => by
    rw [frH, frH_length r]
    split
    · simp
    · rfl
theorem Rep.freeze (L : List Nat) : ∀ {M : Im} {h : AH} (_ : Rep G φ M h w), ∃ M', Rep G φ M' (frH L h) w ∧ MLe M M' ∧ ∀ l, l ∈ L → ∀ p, Own φ h l p → ∀ (o : Nat) v, w.cell? ⟨p.b, o, none⟩ = some v → M' ⟨p.b, o, none⟩ v := by
  induction L with
  | nil => intro M h R; exact ⟨M, R, MLe.refl _, fun l hl => by cases hl⟩
  | cons l0 r ih =>
    intro M h R
    rw [frH]
    split
    · rename_i o hl
      obtain ⟨M1, R1, hM1, hc1⟩ := R.freeze1 hl
      obtain ⟨M2, R2, hM2, hc2⟩ := ih R1
      refine ⟨M2, R2, hM1.trans hM2, fun l hlm p ho o' v hc => ?_⟩
      by_cases e : l = l0
      · subst e
        exact hM2 _ _ (hc1 p ho o' v hc)
      · rcases List.mem_cons.1 hlm with q | q
        · exact absurd q e
        · exact hc2 l q p (ho.set0 e _) o' v hc
    · rename_i hno
      obtain ⟨M2, R2, hM2, hc2⟩ := ih R
      refine ⟨M2, R2, hM2, fun l hlm p ho o' v hc => ?_⟩
      rcases List.mem_cons.1 hlm with q | q
      · subst q
        obtain ⟨_, _, _, _, _, hl', _⟩ := ho
        rw [hno] at hl'
        cases hl'
      · exact hc2 l q p ho o' v hc
theorem imV_V0 (R : Rep G φ M h w) {M' : Im} (hM : MLe M M') {x : CV} (hc : ∀ l, l ∈ locV x → ∀ p, Own φ h l p → ∀ (o : Nat) v, w.cell? ⟨p.b, o, none⟩ = some v → M' ⟨p.b, o, none⟩ v) {u : Value} (hv : V φ M x u) : V0 M' (imV h x) u := by
  cases x with
  | nl => cases (show V0 M .nl u from hv); exact V0.im0 _ _
  | emp => cases (show V0 M .emp u from hv); exact V0.im0 _ _
  | sl l g off len =>
    have h1 : u.oneCell' = true := hv.1
    simp only [imV]
    split
    · rename_i q hq
      split
      · rename_i hle
        obtain ⟨p, hp, hg, hk, hcase⟩ := sl_at R hq (V_VA hv)
        rcases hcase with ⟨_, rfl, rfl, he, ad, rfl⟩ | ⟨hvir, rfl⟩
        · simp only [List.take_zero, List.map_nil]
          exact V0.im0 _ _
        · obtain ⟨p', h2, h3, h4, hks, hlc, _, h5⟩ := R.readR hq
          rw [hp] at h2
          cases h2
          have hlen : (((q.2.2.drop off).take len).map (·.map clz)).length = len := by simp; omega
          have hgt : ∀ (i : Nat) (e : List CV), (((q.2.2.drop off).take len).map (·.map clz))[i]? = some e → ∃ e', q.2.2[off + i]? = some e' ∧ e = e'.map clz := fun i e hi => by
            rw [List.getElem?_map] at hi
            obtain ⟨e', he', rfl⟩ := Option.map_eq_some_iff.1 hi
            rw [List.getElem?_take] at he'
            split at he'
            · rw [List.getElem?_drop] at he'
              exact ⟨e', he', rfl⟩
            · cases he'
          -- facts for good, whether owned or not
          have facts : ∀ (i : Nat) (e' : List CV) (j : Nat) (x : CV), q.2.2[off + i]? = some e' → e'[j]? = some x → ∃ v, w.cell? ⟨p.b, (off + i) * q.2.1 + j, none⟩ = some v ∧ M' ⟨p.b, (off + i) * q.2.1 + j, none⟩ v ∧ V0 M' (clz x) v := by
            intro i e' j x hi hj
            unfold objR at hq
            split at hq
            · rename_i g' t k cap es hl
              split at hq
              · rename_i e
                subst e
                cases hq
                obtain ⟨v, hv1, hv2⟩ := (h5 _ e' hi).2 j x hj
                exact ⟨v, hv1, hc l (by simp [locV]) p ⟨_, _, _, _, _, hl, hp, hvir⟩ _ v hv1, (clz_V0 hv2).mono hM⟩
              · cases hq
            · rename_i g' t k es hl
              split at hq
              · rename_i e
                subst e
                cases hq
                obtain ⟨p2, q1, q2, q3, q4, q5, q6, q7⟩ := R.obj l _ hl
                rw [hp] at q1
                cases q1
                obtain ⟨q8, C, q9⟩ := q7 hvir
                obtain ⟨q10, q11⟩ := q9 _ e' j x hi hj
                rw [q3] at q10
                exact ⟨_, (R.imm _ _ q10).1, hM _ _ q10, (clz_V0 (V0_V (φ := φ) q11)).mono hM⟩
              · cases hq
            · cases hq
          have hC : ∀ ij : Nat × Nat, ∃ v : Value, ∀ e' x, q.2.2[off + ij.1]? = some e' → e'[ij.2]? = some x → w.cell? ⟨p.b, (off + ij.1) * q.2.1 + ij.2, none⟩ = some v ∧ M' ⟨p.b, (off + ij.1) * q.2.1 + ij.2, none⟩ v ∧ V0 M' (clz x) v := fun ij => by
            by_cases hh : ∃ e' x, q.2.2[off + ij.1]? = some e' ∧ e'[ij.2]? = some x
            · obtain ⟨e', x, hi, hj⟩ := hh
              obtain ⟨v, f1, f2, f3⟩ := facts ij.1 e' ij.2 x hi hj
              exact ⟨v, fun e2 x2 hi2 hj2 => by rw [hi] at hi2; cases hi2; rw [hj] at hj2; cases hj2; exact ⟨f1, f2, f3⟩⟩
            · exact ⟨undef, fun e' x hi hj => absurd ⟨e', x, hi, hj⟩ hh⟩
          obtain ⟨C, hC⟩ := Classical.axiomOfChoice hC
          have := V0.im (M := M') (((q.2.2.drop off).take len).map (·.map clz)) q.2.1 p.b (off * q.2.1) (p.cap - off) (fun i j => C (i, j)) (fun e he => by
              obtain ⟨e', he', rfl⟩ := List.mem_map.1 he
              simpa using hks e' (List.mem_of_mem_drop (List.mem_of_mem_take he'))) (by rw [hlen]; omega) (fun i e j x hi hj => by
              obtain ⟨e', he', rfl⟩ := hgt i e hi
              rw [List.getElem?_map] at hj
              obtain ⟨x', hx', rfl⟩ := Option.map_eq_some_iff.1 hj
              have := (hC (i, j) e' x' he' hx').2.1
              rw [Nat.add_mul] at this
              rw [← Nat.add_assoc]
              exact this) (fun i e j x hi hj => by
              obtain ⟨e', he', rfl⟩ := hgt i e hi
              rw [List.getElem?_map] at hj
              obtain ⟨x', hx', rfl⟩ := Option.map_eq_some_iff.1 hj
              exact (hC (i, j) e' x' he' hx').2.2)
          rw [hlen] at this
          exact this
      · exact V0.junk u h1
    · exact V0.junk u h1
  | pt l g i off => exact V0.junk u hv.1
  | clo g caps => exact (clz_V0 hv).mono hM
  | _ => exact V0.mono hM hv
theorem imA_V (R : Rep G φ M h w) {M' : Im} (hM : MLe M M') {x : AV} (hc : ∀ l, l ∈ locA x → ∀ p, Own φ h l p → ∀ (o : Nat) v, w.cell? ⟨p.b, o, none⟩ = some v → M' ⟨p.b, o, none⟩ v) {u : Value} (hv : VA φ M x u) : VA (fun _ => none) M' (imA h x) u := by
  cases x with
  | one x =>
    cases x with
    | c v => exact hv
    | _ => exact V_VA (V0_V (imV_V0 R hM (x := _) (by simpa only [locA] using hc) (by simpa only [VA, VA1] using hv)))
  | agg xs =>
    obtain ⟨us, h1, h2, h3⟩ := hv
    refine ⟨us, h1, by simpa using h2, fun j x hj => ?_⟩
    rw [List.getElem?_map] at hj
    obtain ⟨x', hx', rfl⟩ := Option.map_eq_some_iff.1 hj
    obtain ⟨u, h4, h5⟩ := h3 j x' hx'
    exact ⟨u, h4, V0_V (imV_V0 R hM (fun l hl => hc l (by simp only [locA, List.mem_flatMap]; exact ⟨x', List.mem_of_getElem? hx', hl⟩)) h5)⟩
  | tup xs => trivial
  | any => trivial
theorem plain_V {x : CV} (hx : plainC x = true) {φ' : Phi} {M' : Im} {u : Value} (hv : V φ M x u) : V φ' M' x u := by
  cases x with
  | c v => exact (show V0 M (.c v) u from hv) |> fun hv => (by cases hv with | c _ h1 => exact V0.c _ h1)
  | _ => cases hx
theorem plain_VA1 {x : AV} (hx : plainA1 x = true) {φ' : Phi} {M' : Im} {u : Value} (hv : VA1 φ M x u) : VA1 φ' M' x u := by
  cases x with
  | one x =>
    cases x with
    | c v => exact hv
    | _ => cases hx
  | agg xs =>
    obtain ⟨us, h1, h2, h3⟩ := hv
    refine ⟨us, h1, h2, fun j x hj => ?_⟩
    obtain ⟨u, h4, h5⟩ := h3 j x hj
    exact ⟨u, h4, plain_V ((List.all_eq_true.1 hx) x (List.mem_of_getElem? hj)) h5⟩
  | _ => cases hx
theorem plain_VA {x : AV} (hx : plainA x = true) {φ' : Phi} {M' : Im} {u : Value} (hv : VA φ M x u) : VA φ' M' x u := by
  cases x with
  | tup xs =>
    obtain ⟨us, h1, h2, h3⟩ := hv
    refine ⟨us, h1, h2, fun j x hj => ?_⟩
    obtain ⟨u, h4, h5⟩ := h3 j x hj
    exact ⟨u, h4, plain_VA1 ((List.all_eq_true.1 hx) x (List.mem_of_getElem? hj)) h5⟩
  | one x => exact VA1_VA (plain_VA1 (x := .one x) hx hv)
  | agg xs => exact VA1_VA (plain_VA1 (x := .agg xs) hx hv)
  | any => cases hx
theorem noloc_closed {x : AV} (hx : clA x = true) : locA x = [] := by
  have one : ∀ y : CV, clB y = true → locV y = [] := fun y hy => by cases y <;> first | rfl | cases hy
  cases x with
  | one x => exact one x hx
  | agg xs =>
    simp only [locA, List.flatMap_eq_nil_iff]
    exact fun y hy => one y ((List.all_eq_true.1 hx) y hy)
  | tup xs => rfl
  | any => rfl
theorem free_V {x : CV} (hx : freeC x = true) {M' : Im} {u : Value} (hv : V φ M x u) : V φ M' x u := by
  cases x with
  | im es => cases hx
  | pel e off => cases hx
  | c v => cases (show V0 M (.c v) u from hv) with | c _ h => exact V0.c _ h
  | nl => cases (show V0 M .nl u from hv); exact V0.nl
  | emp => cases (show V0 M .emp u from hv) with | emp a => exact V0.emp a
  | junk => exact V0.junk u (V0.one (show V0 M .junk u from hv))
  | pt _ _ _ _ => exact hv
  | sl _ _ _ _ => exact hv
  | clo _ _ => exact hv
theorem free_VA1 {x : AV} (hx : freeA1 x = true) {M' : Im} {u : Value} (hv : VA1 φ M x u) : VA1 φ M' x u := by
  cases x with
  | one x =>
    cases x with
    | c v => exact hv
    | nl => exact free_V (φ := φ) (M := M) (M' := M') (x := .nl) rfl hv
    | emp => exact free_V (φ := φ) (M := M) (M' := M') (x := .emp) rfl hv
    | im es => cases hx
    | pel e off => cases hx
    | pt l g i off => exact free_V (φ := φ) (M := M) (M' := M') (x := .pt l g i off) rfl hv
    | sl l g off len => exact free_V (φ := φ) (M := M) (M' := M') (x := .sl l g off len) rfl hv
    | clo g caps => exact free_V (φ := φ) (M := M) (M' := M') (x := .clo g caps) rfl hv
    | junk => exact free_V (φ := φ) (M := M) (M' := M') (x := .junk) rfl hv
  | agg xs =>
    obtain ⟨us, h1, h2, h3⟩ := hv
    refine ⟨us, h1, h2, fun j x hj => ?_⟩
    obtain ⟨u, h4, h5⟩ := h3 j x hj
    exact ⟨u, h4, free_V ((List.all_eq_true.1 hx) x (List.mem_of_getElem? hj)) h5⟩
  | _ => cases hx
theorem free_VA {x : AV} (hx : freeA x = true) {M' : Im} {u : Value} (hv : VA φ M x u) : VA φ M' x u := by
  cases x with
  | tup xs =>
    obtain ⟨us, h1, h2, h3⟩ := hv
    refine ⟨us, h1, h2, fun j x hj => ?_⟩
    obtain ⟨u, h4, h5⟩ := h3 j x hj
    exact ⟨u, h4, free_VA1 ((List.all_eq_true.1 hx) x (List.mem_of_getElem? hj)) h5⟩
  | one x => exact VA1_VA (free_VA1 (x := .one x) hx (by cases x <;> exact hv))
  | agg xs => exact VA1_VA (free_VA1 (x := .agg xs) hx hv)
  | any => cases hx
/-- What was lent is had again where the answer doesn't lean on it. -/
theorem Rep.unlend {M' M1 : Im} {φ1 : Phi} {h' : AH} {w w' : World} (R : Rep G φ M h w) (hM : MLe M M') (R1 : Rep ⟨w, owned (fun _ => none) [], M'⟩ φ1 M1 h' w') (hf : h'.all freeO = true) : Rep ⟨w, owned (fun _ => none) [], M⟩ φ1 M h' w' := by
  have hM1 : MLe M M1 := hM.trans R1.mon
  refine ⟨R1.os, R1.tape, ⟨R1.output.1, R1.output.2.of rfl fun _ q => q⟩, R1.size, R1.blk, MLe.refl _, fun a v q => R1.imm a v (hM1 a v q), fun a v q => .inl q, R1.dom, fun l o hl => ?_, R1.new, R1.inj, fun a v l p q ho => R1.dis a v l p (hM1 a v q) ho⟩
  have ho := (List.all_eq_true.1 hf) o (List.mem_of_getElem? hl)
  have H := R1.obj l o hl
  cases o with
  | dead => trivial
  | ro _ _ _ _ => cases ho
  | own g t k cap es =>
    obtain ⟨p, h1, h2, h3, h4, h5, h6, h7, h8⟩ := H
    refine ⟨p, h1, h2, h3, h4, h5, h6, h7, fun hv => ?_⟩
    obtain ⟨h9, C, fr, h10, h11, h12, h13⟩ := h8 hv
    refine ⟨h9, C, fr, h10, h11, h12, fun i e j x hi hj => ?_⟩
    obtain ⟨v, hv1, hv2⟩ := h13 i e j x hi hj
    exact ⟨v, hv1, free_V ((List.all_eq_true.1 ((List.all_eq_true.1 ho) e (List.mem_of_getElem? hi))) x (List.mem_of_getElem? hj)) hv2⟩
/-- A call by content. -/
theorem content_gen {Kl : AV → AH → Prop} (R : Rep G φ M h w) {g : Nat} {args args' : List AV} {vs : List Value} (hvs0 : ∀ M', MLe M M' → (∀ l, l ∈ args.flatMap locA → ∀ p, Own φ h l p → ∀ (o : Nat) v, w.cell? ⟨p.b, o, none⟩ = some v → M' ⟨p.b, o, none⟩ v) → VAs (fun _ => none) M' args' vs) (H : ACall P g args' [] (calK2 args h K Kl)) :
    Calls P g vs.toArray w fun e w' => ∃ v r h' φ' M', e = .returned v ∧ VA φ' M' r v ∧ Rep G φ' M' h' w' ∧ Le φ φ' ∧ MLe M M' ∧ ((Kl r h' ∧ Kept (fun _ => false) φ φ' h h' w w') ∨ (K r h' ∧ (args.all clA = true → Kept (fun _ => false) φ φ' h h' w w'))) := by
  obtain ⟨M', RF, hM, hc⟩ := R.freeze (args.flatMap locA)
  have hvs := hvs0 M' hM hc
  refine (H (fun _ => none) M' w vs RF.empty hvs).mono ?_
  rintro e w' ⟨v, r, h', φ1, M1, rfl, hv, hk, R1, _⟩
  have hno : ∀ b, ¬ owned (fun _ => none) [] b := by rintro b ⟨l, p, ⟨_, _, _, _, _, hl, _⟩, _⟩; simp at hl
  unfold calK2 at hk
  split at hk
  · rename_i hp
    obtain ⟨R2, hle, hlow, hblk⟩ := R.join (R.unlend hM R1 hp.2)
    refine ⟨v, _, _, _, M, rfl, VA_shift (free_VA hp.1 hv), R2, hle, MLe.refl _, .inl ⟨hk, fun l p ho _ => ⟨hblk _ (R.own_blk ho), ?_⟩⟩⟩
    obtain ⟨g1, t1, k1, cap1, es1, hl, hp, hv1⟩ := ho
    have := hlt hl
    exact ⟨g1, t1, k1, cap1, es1, by rw [List.getElem?_append_left this]; exact hl, by rw [hlow _ this]; exact hp, hv1⟩
  · obtain ⟨R2, hle, hlow, hblk⟩ := RF.join R1
    rw [frH_length] at R2 hle hlow
    refine ⟨v, _, _, _, M1, rfl, VA_shift hv, R2, hle, hM.trans R1.mon, .inr ⟨hk, fun hcl l p ho _ => ⟨hblk _ (R.own_blk ho), ?_⟩⟩⟩
    have hL : args.flatMap locA = [] := by
      simp only [List.flatMap_eq_nil_iff]
      exact fun x hx => noloc_closed ((List.all_eq_true.1 hcl) x hx)
    rw [hL]
    obtain ⟨g1, t1, k1, cap1, es1, hl, hp, hv1⟩ := ho
    have := hlt hl
    exact ⟨g1, t1, k1, cap1, es1, by rw [frH, List.getElem?_append_left this]; exact hl, by rw [hlow _ this]; exact hp, hv1⟩
theorem content_call2 {Kl : AV → AH → Prop} (R : Rep G φ M h w) {g : Nat} {args : List AV} {vs : List Value} (hv : VAs φ M args vs) (H : ACall P g (args.map (imA h)) [] (calK2 args h K Kl)) :
    Calls P g vs.toArray w fun e w' => ∃ v r h' φ' M', e = .returned v ∧ VA φ' M' r v ∧ Rep G φ' M' h' w' ∧ Le φ φ' ∧ MLe M M' ∧ ((Kl r h' ∧ Kept (fun _ => false) φ φ' h h' w w') ∨ (K r h' ∧ (args.all clA = true → Kept (fun _ => false) φ φ' h h' w w'))) := by
  refine content_gen R (fun M' hM hc => ?_) H
  refine ⟨by simpa using hv.1, fun j x hj => ?_⟩
  rw [List.getElem?_map] at hj
  obtain ⟨x', hx', rfl⟩ := Option.map_eq_some_iff.1 hj
  obtain ⟨u, h1, h2⟩ := hv.2 j x' hx'
  exact ⟨u, h1, imA_V R hM (fun l hl => hc l (List.mem_flatMap.2 ⟨x', List.mem_of_getElem? hx', hl⟩)) h2⟩
theorem clB_V {φ' : Phi} {x : CV} {u : Value} (hx : clB x = true) (hv : V φ M x u) : V φ' M x u := by
  cases x with
  | pt _ _ _ _ => cases hx
  | sl _ _ _ _ => cases hx
  | clo g caps =>
    cases caps with
    | nil => obtain ⟨vs, h1, h2, _⟩ := hv; exact ⟨vs, h1, h2, fun j l hj => by simp at hj⟩
    | cons _ _ => cases hx
  | _ => exact hv
theorem clA_VA {φ' : Phi} {x : AV} {u : Value} (hx : clA x = true) (hv : VA φ M x u) : VA φ' M x u := by
  cases x with
  | one x =>
    have hx' : clB x = true := hx
    cases x with
    | c v => exact hv
    | _ => exact clB_V (φ' := φ') hx' (show V φ M _ u from hv)
  | agg xs =>
    obtain ⟨us, h1, h2, h3⟩ := hv
    refine ⟨us, h1, h2, fun j y hj => ?_⟩
    obtain ⟨u, h4, h5⟩ := h3 j y hj
    exact ⟨u, h4, clB_V ((List.all_eq_true.1 hx) y (List.mem_of_getElem? hj)) h5⟩
  | tup xs => cases hx
  | any => trivial
theorem closed_call {Kl : AV → AH → Prop} (R : Rep G φ M h w) {g : Nat} {args : List AV} {vs : List Value} (hcl : args.all clA = true) (hv : VAs φ M args vs) (H : ACall P g args [] (calK2 args h K Kl)) :
    Calls P g vs.toArray w fun e w' => ∃ v r h' φ' M', e = .returned v ∧ VA φ' M' r v ∧ Rep G φ' M' h' w' ∧ Le φ φ' ∧ MLe M M' ∧ ((Kl r h' ∧ Kept (fun _ => false) φ φ' h h' w w') ∨ (K r h' ∧ (args.all clA = true → Kept (fun _ => false) φ φ' h h' w w'))) := by
  refine content_gen R (fun M' hM _ => ⟨hv.1, fun j x hj => ?_⟩) H
  obtain ⟨u, h1, h2⟩ := hv.2 j x hj
  exact ⟨u, h1, (clA_VA ((List.all_eq_true.1 hcl) x (List.mem_of_getElem? hj)) h2).mono (Le.refl _) hM⟩
theorem args_ev (F : FOk n φ M f a) (xs : Array Operand) (hb : ∀ x, x ∈ xs → ∀ t, x = Operand.tmp t → t < n) : VAs φ M (xs.toList.map (ev f)) (xs.toList.map a.eval) := by
  refine ⟨by simp, fun j x hj => ?_⟩
  rw [List.getElem?_map] at hj
  obtain ⟨y, hy, rfl⟩ := Option.map_eq_some_iff.1 hj
  refine ⟨a.eval y, by rw [List.getElem?_map, hy]; rfl, ev_V F (fun t ht => hb y ?_ t ht)⟩
  exact Array.mem_toList_iff.1 (List.mem_of_getElem? hy)
set_option maxHeartbeats 1000000 in
theorem callv_sound {Kl : AV → AH → Prop} {Kf : List Nat → AV → AH → Prop} (dst : Option Tmp) (ty : TypeId) (pos : String) (aft : Array Edge) (guard : Option (Nat × Bool)) (g : Operand) (args : Array Operand) (tys : Array TypeId) (R : Rep G φ M h w) (F : FOk n φ M f a) (hb : ∀ t, Operand.tmp t ∈ (⟨.value g, args, tys⟩ : Call).operands → t < n)
    {gg : Nat} {caps : List Nat} (hgc : ev f g = .one (.clo gg caps)) (H : callA2 P gg (args.toList.map (ev f) ++ caps.map fun l => .one (.pt l 0 0 0)) h K Kl Kf) (hS : ∀ l, S l = false → touchA (.call ⟨.value g, args, tys⟩) f l = false) (A : After G φ M h w a S dst K next) (Al : After G φ M h w a (fun _ => false) dst Kl next) (Af : ∀ q : List Nat, (args.toList.map (ev f) ++ caps.map fun l => AV.one (.pt l 0 0 0)).all clA = false → After G φ M h w a (fun l => decide (l ∈ q)) dst (Kf q) next) : Oper.wp P ⟨dst, .call ⟨.value g, args, tys⟩, ty, pos, aft, guard⟩ a w next Q := by
  have E : ∀ x, x ∈ (⟨.value g, args, tys⟩ : Call).operands → VA φ M (ev f x) (a.eval x) := fun x hx => ev_V F (fun t ht => hb t (ht ▸ hx))
  simp only [Call.operands] at E hb
  have eg := E g (by simp)
  rw [hgc] at eg
  obtain ⟨cvs, eg, hcl, hcv⟩ := eg
  have eargs := args_ev F args (fun x hx t ht => hb t (by subst ht; simp [hx]))
  have wargs : VAs φ M (args.toList.map (ev f) ++ caps.map fun l => AV.one (.pt l 0 0 0)) (args.toList.map a.eval ++ cvs) := by
    refine ⟨by simp [hcl], fun j x hj => ?_⟩
    rcases Nat.lt_or_ge j (args.toList.map (ev f)).length with hlt | hge
    · rw [List.getElem?_append_left hlt] at hj
      obtain ⟨u, h1, h2⟩ := eargs.2 j x hj
      exact ⟨u, by rw [List.getElem?_append_left (by simpa using hlt)]; exact h1, h2⟩
    · rw [List.getElem?_append_right hge, List.getElem?_map] at hj
      obtain ⟨l, hl, rfl⟩ := Option.map_eq_some_iff.1 hj
      obtain ⟨v, h1, h2⟩ := hcv _ l hl
      refine ⟨v, ?_, h2⟩
      rw [List.getElem?_append_right (by simpa using hge)]
      simpa using h1
  have hargs : (args.toList.map a.eval ++ cvs).toArray = args.map a.eval ++ cvs.toArray := by
    apply Array.toList_inj.1; simp
  have fin : ∀ (hbody : hasBody P gg = true), Calls P gg (args.toList.map a.eval ++ cvs).toArray w (fun e w' => ∃ v r h' φ' M', e = .returned v ∧ VA φ' M' r v ∧ Rep G φ' M' h' w' ∧ Le φ φ' ∧ MLe M M' ∧ ((Kl r h' ∧ Kept (fun _ => false) φ φ' h h' w w') ∨ (K r h' ∧ Kept S φ φ' h h' w w'))) → Oper.wp P ⟨dst, .call ⟨.value g, args, tys⟩, ty, pos, aft, guard⟩ a w next Q := by
    intro hbody hC
    rw [hargs] at hC
    simp only [Oper.wp, execOp, resolve, eg, Deferred.ofValue, Sem.run_bind, Sem.run_pure, Result.andThen_ok, invoke]
    simp only [Array.empty_append, Array.append_empty, hasBody_enters hbody, Oper.upon]
    refine Calls.mono hC fun e w' he => ?_
    obtain ⟨v, r, h', φ', M', rfl, hv, R', hle, hM, hk⟩ := he
    rcases hk with ⟨hk, hK⟩ | ⟨hk, hK⟩
    · exact Al r v h' φ' M' w' hk R' hle hM hv hK
    · exact A r v h' φ' M' w' hk R' hle hM hv hK
  unfold callA2 at H
  rcases H with ⟨hbody, hcall⟩ | ⟨hncl, hbody, hcall⟩ | hext | ⟨hcla, hbody, hcall⟩ | ⟨q, hncl, hbody, hcall⟩
  · refine fin hbody ?_
    refine (content_call2 R wargs hcall).mono ?_
    rintro e w' ⟨v, r, h', φ', M', rfl, hv, R1, hle, hM, hk⟩
    refine ⟨v, r, h', φ', M', rfl, hv, R1, hle, hM, ?_⟩
    rcases hk with hk | ⟨hk, hK⟩
    · exact .inl hk
    · refine .inr ⟨hk, fun l p ho hs => ?_⟩
      have := hS l hs
      simp only [touchA, hgc] at this
      exact hK (by simpa using this) l p ho rfl
  · refine fin hbody ?_
    refine (hcall φ M w _ R.rebase wargs).mono ?_
    rintro e w' ⟨v, r, h', φ', M', rfl, hv, hk, R1, hle⟩
    refine ⟨v, r, h', φ', M', rfl, hv, R.back R1, hle, R1.mon, .inr ⟨hk, fun l p ho hs => ?_⟩⟩
    have := hS l hs
    simp only [touchA, hgc] at this
    rw [Bool.not_eq_false'] at this
    rw [this] at hncl
    cases hncl
  · obtain ⟨v, r, hrun, hv, hk⟩ := hext G φ M w _ R wargs
    rw [hargs] at hrun
    simp only [Oper.wp, execOp, resolve, eg, Deferred.ofValue, Sem.run_bind, Sem.run_pure, Result.andThen_ok, invoke, Array.empty_append, Array.append_empty, hrun, Oper.upon]
    exact Al r v h φ M w hk R (Le.refl _) (MLe.refl _) hv (Kept.refl _ _ _ _)
  · refine fin hbody ?_
    refine (closed_call R hcla wargs hcall).mono ?_
    rintro e w' ⟨v, r, h', φ', M', rfl, hv, R1, hle, hM, hk⟩
    refine ⟨v, r, h', φ', M', rfl, hv, R1, hle, hM, ?_⟩
    rcases hk with hk | ⟨hk, hK⟩
    · exact .inl hk
    · exact .inr ⟨hk, fun l p ho hs => hK hcla l p ho rfl⟩
  · have hc : Calls P gg (args.map a.eval ++ cvs.toArray) w _ := hargs ▸ hcall φ M w _ R.rebase wargs
    simp only [Oper.wp, execOp, resolve, eg, Deferred.ofValue, Sem.run_bind, Sem.run_pure, Result.andThen_ok, invoke]
    simp only [Array.empty_append, Array.append_empty, hasBody_enters hbody, Oper.upon]
    refine Calls.mono hc fun e w' he => ?_
    obtain ⟨v, r, h', φ', M', rfl, hv, hk, R1, hle, hK⟩ := he
    exact Af q hncl r v h' φ' M' w' hk (R.back R1) hle R1.mon hv hK
set_option maxHeartbeats 1000000 in
theorem call_sound (dst : Option Tmp) (ty : TypeId) (pos : String) (aft : Array Edge) (guard : Option (Nat × Bool)) (c : Call) (R : Rep G φ M h w) (F : FOk n φ M f a) (hb : ∀ t, Operand.tmp t ∈ c.operands → t < n)
    (H : aop P (.call c) f h K) (hS : ∀ l, S l = false → touchA (.call c) f l = false) (A : After G φ M h w a S dst K next) : Oper.wp P ⟨dst, .call c, ty, pos, aft, guard⟩ a w next Q := by
  obtain ⟨callee, args, tys⟩ := c
  have E : ∀ x, x ∈ (⟨callee, args, tys⟩ : Call).operands → VA φ M (ev f x) (a.eval x) := fun x hx => ev_V F (fun t ht => hb t (ht ▸ hx))
  simp only [aop] at H
  split at H
  · rename_i g
    split at H
    · rename_i gg caps hgc
      refine callv_sound (Kl := K) (Kf := fun _ => K) dst ty pos aft guard g args tys R F hb hgc H hS A (fun v u h' φ' M' w' hk R' hle hM hv hK => A v u h' φ' M' w' hk R' hle hM hv (fun l p ho _ => hK l p ho rfl)) (fun q hncl v u h' φ' M' w' hk R' hle hM hv _ => A v u h' φ' M' w' hk R' hle hM hv (fun l p ho hs => ?_))
      have := hS l hs
      simp only [touchA, hgc] at this
      rw [Bool.not_eq_false'] at this
      rw [this] at hncl
      cases hncl
    · exact H.elim
  · -- len
    simp only [Call.operands] at E hb
    split at H
    · rename_i x t hxs hts
      have hargs : args = #[x] := Array.toList_inj.1 hxs
      have htys : tys = #[t] := Array.toList_inj.1 hts
      subst hargs htys
      have ex := E x (by simp)
      have fin : ∀ (q : Int), (Builtin.len_ #[t] ty #[a.eval x]).run P w = .ok (.int .i64 q) w → K (.one (.c (.int .i64 q))) h → Oper.wp P ⟨dst, .call ⟨.builtin .len, #[x], #[t]⟩, ty, pos, aft, guard⟩ a w next Q := by
        intro q hr hk
        have := A.val (v := .one (.c (.int .i64 q))) R hk (mk_c _)
        simpa [Oper.wp, execOp, resolve, invoke, builtin, hr, Oper.upon] using this
      have sl : ∀ (ad : Option Addr) (m c : Nat), (elemA P t).isSome = true → a.eval x = .slice ad m c → (Builtin.len_ #[t] ty #[a.eval x]).run P w = .ok (.int .i64 m) w := by
        intro ad m c he hu
        obtain ⟨e, he⟩ := Option.isSome_iff_exists.1 he
        rw [hu]
        simp [Builtin.len_, run_underlying (elemA_spec he), goInt]
      split at H
      · rename_i s hx
        rw [hx] at ex
        have ex := VA_c ex
        exact fin _ (by rw [ex]; exact run_len_string (P := P) (w := w) t ty s (strA_spec H.1)) H.2
      · rename_i hx
        rw [hx] at ex
        have hu : a.eval x = .slice none 0 0 := by
          generalize a.eval x = ux at ex
          cases (show V0 M .nl ux from ex)
          rfl
        exact fin _ (sl _ _ _ H.1 hu) H.2
      · rename_i hx
        rw [hx] at ex
        have hu : ∃ ad, a.eval x = .slice ad 0 0 := by
          generalize a.eval x = ux at ex
          cases (show V0 M .emp ux from ex) with
          | emp ad => exact ⟨ad, rfl⟩
        obtain ⟨ad, hu⟩ := hu
        exact fin _ (sl _ _ _ H.1 hu) H.2
      · rename_i es hx
        rw [hx] at ex
        have hu : ∃ ad c, a.eval x = .slice ad es.length c := by
          generalize a.eval x = ux at ex
          cases (show V0 M (.im es) ux from ex) with
          | im0 ad c => exact ⟨_, _, rfl⟩
          | im _ _ b o c C hks hc hm hV => exact ⟨_, _, rfl⟩
        obtain ⟨ad, c, hu⟩ := hu
        exact fin _ (sl _ _ _ H.1 hu) H.2
      · rename_i l g off len hx
        obtain ⟨he, ho, H⟩ := H
        obtain ⟨q, hq⟩ := Option.isSome_iff_exists.1 ho
        rw [hx] at ex
        obtain ⟨p, _, _, _, hcase⟩ := sl_at R hq ex
        rcases hcase with ⟨_, _, rfl, _, ad, hu⟩ | ⟨_, hu⟩
        · exact fin _ (sl _ _ _ he hu) H
        · exact fin _ (sl _ _ _ he hu) H
      · exact H.elim
    · exact H.elim
  · -- cap
    simp only [Call.operands] at E hb
    split at H
    · rename_i x t hxs hts
      have hargs : args = #[x] := Array.toList_inj.1 hxs
      have htys : tys = #[t] := Array.toList_inj.1 hts
      subst hargs htys
      have ex := E x (by simp)
      obtain ⟨he, H⟩ := H
      obtain ⟨e, he⟩ := Option.isSome_iff_exists.1 he
      obtain ⟨v, u', h', hrun, hv, hk, R', hko⟩ := cap_sound (P := P) R ty he ex H
      have := A v u' h' φ M w hk R' (Le.refl _) (MLe.refl _) hv (fun l p ho _ => ⟨rfl, hko l p ho⟩)
      simpa [Oper.wp, execOp, resolve, invoke, builtin, hrun, Oper.upon] using this
    · exact H.elim
  · -- append
    simp only [Call.operands] at E hb
    split at H
    · rename_i s x t t2 hxs hts
      have hargs : args = #[s, x] := Array.toList_inj.1 hxs
      have htys : tys = #[t, t2] := Array.toList_inj.1 hts
      subst hargs htys
      have es := E s (by simp)
      have ex := E x (by simp)
      obtain ⟨e, he, H⟩ := H.elim
      obtain ⟨k, hk, H⟩ := H.elim
      obtain ⟨by_, hby, H⟩ := H.elim
      obtain ⟨z, hz, H⟩ := H.elim
      obtain ⟨hzk, hk0, hb0, H⟩ := H
      obtain ⟨r, hr, H⟩ := H.elim
      obtain ⟨φ', v, u', h', w', hrun, hv, hkv, R', hle, hkept⟩ := app_sound R t2 ty z he hk hby hz hzk hk0 hb0 ex es hr H
      have := A v u' h' φ' M w' hkv R' hle (MLe.refl _) hv (fun l p ho hs => hkept l p ho (by simpa [touchA] using hS l hs))
      simpa [Oper.wp, execOp, resolve, invoke, builtin, hrun, Oper.upon] using this
    · exact H.elim
  · -- copy
    simp only [Call.operands] at E hb
    split at H
    · rename_i s x t t2 hxs hts
      have hargs : args = #[s, x] := Array.toList_inj.1 hxs
      have htys : tys = #[t, t2] := Array.toList_inj.1 hts
      subst hargs htys
      have es := E s (by simp)
      have ex := E x (by simp)
      obtain ⟨e, he, H⟩ := H.elim
      obtain ⟨k, hk, H⟩ := H.elim
      obtain ⟨r, hr, H⟩ := H.elim
      obtain ⟨φ', v, u', h', w', hrun, hv, hkv, R', hle, hkept⟩ := copy_sound (P := P) R t2 ty he hk ex es hr H
      have := A v u' h' φ' M w' hkv R' hle (MLe.refl _) hv (fun l p ho hs => hkept l p ho (by simpa [touchA] using hS l hs))
      simpa [Oper.wp, execOp, resolve, invoke, builtin, hrun, Oper.upon] using this
    · exact H.elim
  · -- clear
    simp only [Call.operands] at E hb
    split at H
    · rename_i s t hxs hts
      have hargs : args = #[s] := Array.toList_inj.1 hxs
      have htys : tys = #[t] := Array.toList_inj.1 hts
      subst hargs htys
      have es := E s (by simp)
      obtain ⟨e, he, H⟩ := H.elim
      obtain ⟨z, hz, H⟩ := H.elim
      obtain ⟨hz0, H⟩ := H
      obtain ⟨φ', v, u', h', w', hrun, hv, hkv, R', hle, hkept⟩ := clear_sound (P := P) R ty he hz hz0 es H
      have := A v u' h' φ' M w' hkv R' hle (MLe.refl _) hv (fun l p ho hs => hkept l p ho (by simpa [touchA] using hS l hs))
      simpa [Oper.wp, execOp, resolve, invoke, builtin, hrun, Oper.upon] using this
    · exact H.elim
  · -- min
    simp only [Call.operands] at E hb
    split at H
    · rename_i x y hxs
      have hargs : args = #[x, y] := Array.toList_inj.1 hxs
      subst hargs
      have ex := E x (by simp)
      have ey := E y (by simp)
      split at H
      · rename_i k p k' q hx hy
        rw [hx] at ex
        rw [hy] at ey
        have ex := VA_c ex
        have ey := VA_c ey
        have := A.val (v := .one (.c (.int k (if q < p then q else p)))) R H (mk_c _)
        simpa [Oper.wp, execOp, resolve, invoke, builtin, ex, ey, Builtin.min_, Builtin.min2, Oper.upon] using this
      · exact H.elim
    · exact H.elim
  · -- max
    simp only [Call.operands] at E hb
    split at H
    · rename_i x y hxs
      have hargs : args = #[x, y] := Array.toList_inj.1 hxs
      subst hargs
      have ex := E x (by simp)
      have ey := E y (by simp)
      split at H
      · rename_i k p k' q hx hy
        rw [hx] at ex
        rw [hy] at ey
        have ex := VA_c ex
        have ey := VA_c ey
        have := A.val (v := .one (.c (.int k (if p < q then q else p)))) R H (mk_c _)
        simpa [Oper.wp, execOp, resolve, invoke, builtin, ex, ey, Builtin.max_, Builtin.max2, Oper.upon] using this
      · exact H.elim
    · exact H.elim
  · exact H.elim
theorem aop_sound (o : Oper) (R : Rep G φ M h w) (F : FOk n φ M f a) (hb : ∀ t, Operand.tmp t ∈ o.op.operands → t < n) (H : aop P o.op f h K) (hS : ∀ l, S l = false → touchA o.op f l = false) (A : After G φ M h w a S o.dst K next) : o.wp P a w next Q := by
  have E : ∀ x, x ∈ o.op.operands → VA φ M (ev f x) (a.eval x) := fun x hx => ev_V F (fun t ht => hb t (ht ▸ hx))
  obtain ⟨dst, op, ty, pos, aft, guard⟩ := o
  cases op
  case build t parts => exact build_sound dst ty pos aft guard t parts R (fun x hx => E x (by simpa [Op.operands] using hx)) H A
  case buildSlice t len parts => exact buildSlice_sound dst ty pos aft guard t len parts R (fun x hx => E x (by simpa [Op.operands] using hx)) H A
  case makeSlice t l c => exact makeSlice_sound dst ty pos aft guard t l c R (E l (by simp [Op.operands])) (E c (by simp [Op.operands])) H A
  case slice t x lo hi mx => exact slice_sound dst ty pos aft guard t x lo hi mx R E H A
  case makeFunc fn first captured => exact makeFunc_sound dst ty pos aft guard fn first captured R (fun x hx => E x (by simp only [Op.operands, Array.mem_append]; exact .inr (by simpa using hx))) H A
  case convert src td x => exact convert_sound dst ty pos aft guard src td x R F (fun t ht => hb t (by simp [Op.operands, ht])) H A
  case call c => exact call_sound dst ty pos aft guard c R F hb H hS A
  case store t x y =>
    refine aop1_sound ⟨dst, _, ty, pos, aft, guard⟩ R F hb H (fun t' x' y' l g i off he hx j hj => ?_) A
    cases he
    have := hS j hj
    intro e
    subst e
    simp [touchA, hx, toVal] at this
  all_goals exact aop1_sound ⟨dst, _, ty, pos, aft, guard⟩ R F hb H (fun t x y l g i off he => by cases he) A
theorem aop2_sound {Kl : AV → AH → Prop} {Kf : List Nat → AV → AH → Prop} (o : Oper) (R : Rep G φ M h w) (F : FOk n φ M f a) (hb : ∀ t, Operand.tmp t ∈ o.op.operands → t < n) (H : aop2 P o.op f h K Kl Kf) (hS : ∀ l, S l = false → touchA o.op f l = false) (A : After G φ M h w a S o.dst K next) (Al : After G φ M h w a (fun _ => false) o.dst Kl next) (Af : ∀ q : List Nat, After G φ M h w a (fun l => decide (l ∈ q)) o.dst (Kf q) next) : o.wp P a w next Q := by
  obtain ⟨dst, op, ty, pos, aft, guard⟩ := o
  cases op
  case call c =>
    obtain ⟨callee, args, tys⟩ := c
    cases callee with
    | value g =>
      simp only [aop2] at H
      split at H
      · rename_i gg caps hgc
        exact callv_sound dst ty pos aft guard g args tys R F hb hgc H hS A Al (fun q _ => Af q)
      · exact H.elim
    | _ => exact aop_sound ⟨dst, _, ty, pos, aft, guard⟩ R F hb H hS A
  all_goals exact aop_sound ⟨dst, _, ty, pos, aft, guard⟩ R F hb H hS A
end
end Go.BL
