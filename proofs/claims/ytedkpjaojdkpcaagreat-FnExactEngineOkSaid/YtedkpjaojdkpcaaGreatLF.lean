/- Further ways to tell a heap anew: spare room told, a new row told as the old one; slices.overlaps. Conditions: none. -/
import Derived.Test.YtedkpjaojdkpcaaGreatLD
import Derived.Lib.Overlaps
namespace Go.BL
open Go.RowKit
set_option linter.unusedVariables false
set_option linter.unusedSimpArgs false
/-- A new row takes an old one's place. -/
theorem Ghost.move {m : Nat} {f : AF} {h : AH} {l l' g k k' : Nat} {t t' : TypeId} {cap cap' : Option Nat} {es es' : List (List CV)} {n : Nat} (r : Nat) (hr : f r = .one (.sl l' 0 0 n)) (hl : h[l]? = some (.own g t k cap es)) (hl' : h[l']? = some (.own 0 t' k' cap' es')) (hne : l ≠ l') :
    Ghost m f h (upd f r (.one (.sl l (g + 1) 0 n))) ((h.set l (.own (g + 1) t' k' cap' es')).set l' .dead) := fun G φ M w R => by
  obtain ⟨p, hp, hg, _⟩ := R.own_p hl
  obtain ⟨p', h1, h2, h3, h4, h5, h6, h7, h8⟩ := R.obj l' _ hl'
  have hle : Le φ (phiAt φ l { p' with g := g + 1 }) := Le.at_gen hp (by simp; omega)
  have hget : ∀ (i : Nat) (o : AO), ((h.set l (.own (g + 1) t' k' cap' es')).set l' .dead)[i]? = some o → (i = l ∧ o = .own (g + 1) t' k' cap' es') ∨ (i = l' ∧ o = .dead) ∨ (i ≠ l ∧ i ≠ l' ∧ h[i]? = some o) := fun i o hi => by
    rcases set_get hi with ⟨rfl, rfl, _⟩ | ⟨hn, hi⟩
    · exact .inr (.inl ⟨rfl, rfl⟩)
    · rcases set_get hi with ⟨rfl, rfl, _⟩ | ⟨hn2, hi⟩
      · exact .inl ⟨rfl, rfl⟩
      · exact .inr (.inr ⟨hn2, hn, hi⟩)
  have hown : ∀ i q, Own (phiAt φ l { p' with g := g + 1 }) ((h.set l (.own (g + 1) t' k' cap' es')).set l' .dead) i q → (i = l ∧ q.b = p'.b ∧ Own φ h l' p') ∨ (i ≠ l ∧ i ≠ l' ∧ Own φ h i q) := by
    rintro i q ⟨g1, t1, k1, cap1, es1, hi, hq, hv⟩
    rcases hget i _ hi with ⟨rfl, ho⟩ | ⟨rfl, ho⟩ | ⟨hn1, hn2, hi⟩
    · rw [phiAt_at] at hq
      cases hq
      exact .inl ⟨rfl, rfl, _, _, _, _, _, hl', h1, hv⟩
    · cases ho
    · rw [phiAt_ne φ _ hn1] at hq
      exact .inr ⟨hn1, hn2, g1, t1, k1, cap1, es1, hi, hq, hv⟩
  refine ⟨phiAt φ l { p' with g := g + 1 }, M, ⟨R.os, R.tape, R.output, R.size, R.blk, R.mon, R.imm, R.imn, fun i hi => ?_, fun i o hi => ?_, fun i q ho => ?_, fun i j q s hi hj hn => ?_, fun a v i q hm ho => ?_⟩, MLe.refl _, fun i q _ hq => hle i q hq, fun s u hv => ?_⟩
  · simp at hi
    rw [phiAt_ne φ _ (by have := hlt hl; omega)]
    exact R.dom i hi
  · rcases hget i o hi with ⟨rfl, rfl⟩ | ⟨rfl, rfl⟩ | ⟨hn1, hn2, hi⟩
    · refine ⟨_, phiAt_at φ _ _, rfl, h3, h4, h5, h6, h7, fun hv => ?_⟩
      obtain ⟨h9, C, fr, h10, h11, h12, h13⟩ := h8 hv
      refine ⟨h9, C, fr, h10, h11, h12, fun i e j x hi hj => ?_⟩
      obtain ⟨v, hv1, hv2⟩ := h13 i e j x hi hj
      exact ⟨v, hv1, hv2.mono hle (MLe.refl _)⟩
    · trivial
    · exact (R.obj i o hi).move hle (MLe.refl _) (phiAt_ne φ _ hn1) (fun _ _ _ _ => rfl)
  · rcases hown i q ho with ⟨rfl, e, ho'⟩ | ⟨_, _, ho'⟩
    · rw [e]; exact R.new l' p' ho'
    · exact R.new i q ho'
  · rcases hown i q hi with ⟨rfl, e, ho⟩ | ⟨a1, a2, ho⟩ <;> rcases hown j s hj with ⟨rfl, e', ho'⟩ | ⟨b1, b2, ho'⟩
    · exact absurd rfl hn
    · rw [e]; exact R.inj l' j p' s ho ho' (Ne.symm b2)
    · rw [e']; exact R.inj i l' q p' ho ho' a2
    · exact R.inj i j q s ho ho' hn
  · rcases hown i q ho with ⟨rfl, e, ho'⟩ | ⟨_, _, ho'⟩
    · rw [e]; exact R.dis a v l' p' hm ho'
    · exact R.dis a v i q hm ho'
  · unfold upd
    split
    · rename_i e
      subst e
      rw [hr] at hv
      obtain ⟨q1, q2, q3, _, q4⟩ := (show Vsl φ l' 0 0 n u from hv)
      rw [h1] at q3
      cases q3
      exact ⟨q1, _, phiAt_at φ _ _, Nat.le_refl _, fun _ => q4 h2⟩
    · exact hv.mono hle (MLe.refl _)
/-- slices.overlaps of two objects. -/
theorem x_overlaps {P : Program} {gf : Nat} {fn : Func} {tS tR e : TypeId} {k : Nat} (hf : P.funcs[gf]? = some fn) (hname : (fn.name == "runtime.NumGoroutine") = false) (hb : fn.body.isNone = true) (hn : Extern.findNext fn = none) (he : Extern.find fn = some (Extern.SlicesOverlaps.overlaps #[tS, tS] #[tR]))
    (hel : elemA P tS = some e) (hsz : sizeA P e = some k) {l1 g1 o1 n1 k1 l2 g2 o2 n2 k2 : Nat} {t1 t2 : TypeId} {cap1 cap2 : Option Nat} {es1 es2 : List (List CV)} {h : AH} {K : AV → AH → Prop}
    (h1 : h[l1]? = some (.own g1 t1 k1 cap1 es1)) (h2 : h[l2]? = some (.own g2 t2 k2 cap2 es2)) (hne : l1 ≠ l2) (hk1 : k1 ≠ 1) (ho1 : o1 < es1.length) (ho2 : es2 ≠ []) (hk : K (.one (.c (.bool false))) h) : ExtA P gf [.one (.sl l1 g1 o1 n1), .one (.sl l2 g2 o2 n2)] h K := fun G φ M w vs R hvs => by
  obtain ⟨hlen, hvs⟩ := hvs
  obtain ⟨u1, hu1, hv1⟩ := hvs 0 _ rfl
  obtain ⟨u2, hu2, hv2⟩ := hvs 1 _ rfl
  obtain ⟨p1, a1, a2, a3, a4, a5, a6, a7, a8, C1, fr1, a9, a10, a11, a12⟩ := R.own h1 (by intro q; subst q; simp at ho1)
  obtain ⟨p2, b1, b2, b3, b4, b5, b6, b7, b8, C2, fr2, b9, b10, b11, b12⟩ := R.own h2 ho2
  obtain ⟨_, q1, c1, _, c2⟩ := (show Vsl φ l1 g1 o1 n1 u1 from hv1)
  rw [a1] at c1; cases c1
  obtain ⟨_, q2, d1, _, d2⟩ := (show Vsl φ l2 g2 o2 n2 u2 from hv2)
  rw [b1] at d1; cases d1
  rcases c2 a2 with ⟨hv, _⟩ | ⟨_, hu⟩
  · rw [a4] at hv; cases hv
  subst hu
  rcases d2 b2 with ⟨hv, _⟩ | ⟨_, hu⟩
  · rw [b4] at hv; cases hv
  subst hu
  have hvs2 : vs = [.slice (some ⟨p1.b, o1 * p1.k, none⟩) n1 (p1.cap - o1), .slice (some ⟨p2.b, o2 * p2.k, none⟩) n2 (p2.cap - o2)] := by
    match vs, hlen, hu1, hu2 with
    | [x, y], _, hu1, hu2 => simp at hu1 hu2; subst hu1 hu2; rfl
  subst hvs2
  have hbne : p1.b ≠ p2.b := R.inj l1 l2 p1 p2 ⟨_, _, _, _, _, h1, a1, a4⟩ ⟨_, _, _, _, _, h2, b1, b4⟩ hne
  have s1 : w.shape? p1.b = some (t1, C1.size) := by simp [World.shape?, a9]
  have s2 : w.shape? p2.b = some (t2, C2.size) := by simp [World.shape?, b9]
  have hin : o1 * p1.k < C1.size := by
    have := cell_in (k := p1.k) (i := o1) (n := p1.cap) (j := 0) (by omega) (by omega)
    rw [a10]; simpa using this
  have hC2 : C2.size ≠ 0 := by
    have : 0 < es2.length := List.length_pos_iff.2 ho2
    have hc : 0 < p2.cap := by omega
    have hk0 : 0 < p2.k := by omega
    rw [b10]
    exact Nat.ne_of_gt (Nat.mul_pos hc hk0)
  have f1 : w.frozen? ⟨p1.b, o1 * p1.k, none⟩ = false := okFr_free a9 a11 hin
  have f2 : w.frozen? { block := p1.b, off := C1.size } = false := by
    obtain ⟨lo, hi⟩ := fr1
    simp only [World.frozen?, a9]
    rcases a11.1 with q | ⟨_, q⟩
    · simp at q ⊢; omega
    · omega
  have hrun := Lib.run_overlaps_apart (P := P) w tS tR e (elemA_spec hel) k (fun w => run_sizeA hsz w) ⟨p1.b, o1 * p1.k, none⟩ ⟨p2.b, o2 * p2.k, none⟩ n1 (p1.cap - o1) n2 (p2.cap - o2) hbne t1 t2 C1.size C2.size s1 s2 hC2 f1 f2
  refine ⟨_, _, ?_, mk_c _, hk⟩
  rw [run_callFunc_extern hf hname hb hn he]
  rw [show ([Value.slice (some ⟨p1.b, o1 * p1.k, none⟩) n1 (p1.cap - o1), Value.slice (some ⟨p2.b, o2 * p2.k, none⟩) n2 (p2.cap - o2)] : List Value).toArray = #[.slice (some ⟨p1.b, o1 * p1.k, none⟩) n1 (p1.cap - o1), .slice (some ⟨p2.b, o2 * p2.k, none⟩) n2 (p2.cap - o2)] from rfl, hrun]
  rfl
end Go.BL
namespace Go.BL
theorem wf_set2 {h : AH} {l p : Nat} {o o' : AO} (hw : wfH h) (ho : ltO h.length o = true) (ho' : ltO h.length o' = true) : ((h.set l o).set p o').all (ltO h.length) = true := by
  rw [List.all_eq_true]
  intro x hx
  rcases List.mem_or_eq_of_mem_set hx with hx | rfl
  · exact (List.all_eq_true.1 (wf_set hw ho)) x hx
  · exact ho'
end Go.BL
namespace Go.BL
open Go.RowKit
/-- A contract by content, out of one that hands objects on. -/
theorem acall_im {P : Program} {g : Nat} {args : List AV} {K : AV → AH → Prop} (H : ACalls P g args [] fun r h' => K (retA h' r) []) : ACalls P g args [] K := by
  refine ⟨H.1, fun φ M w us R hargs => (H.2 φ M w us R hargs).mono ?_⟩
  rintro e w' ⟨v, r, h', φ', M', rfl, hv, hk, R', hle⟩
  obtain ⟨M2, RF, hM, hc⟩ := R'.freeze (List.range h'.length)
  refine ⟨v, retA h' r, [], fun _ => none, M2, rfl, retA_V R' hM (fun l p ho => hc l (List.mem_range.2 (own_lt' ho)) p ho) hv, hk, RF.drop, fun l p hl => ?_⟩
  rw [R.dom l (Nat.zero_le _)] at hl
  cases hl
end Go.BL
namespace Go.BL
open Go.RowKit
/-- The answer, and all objects as they stand at last. -/
def retW (P : Program) (rs : List ResultVar) (K : AV → AH → Prop) (f : AF) (h : AH) : Prop := On (rsG P f h rs) fun vs => vs.all notTup = true ∧ K (oneOrTup vs) h
theorem acall_w {P : Program} {h : AH} {g : Nat} {fn : Func} {c : Code} {args : List AV} {K : AV → AH → Prop} (rs : List ResultVar) (hmo : P.follows .mixedOrders = true) (hf : P.funcs[g]? = some fn) (hrs : fn.results.toList = rs) (hbody : fn.body = some c) (hB : (codeB fn.ntmps c && fnB fn && hasBody P g && decide (args.length ≤ fn.ntmps)) = true)
    (H : ∀ Q : AExit → AF → AH → Prop, (∀ f h', GC h.length (retW P rs K) f h' → Q .ret f h') → goG P c [] ⟨h.length, Q⟩ (frame0 args) h) : ACalls P g args h K := acall_gen rs hmo hf hrs hbody hB (fun Q hm hQ => by
    obtain ⟨m, q⟩ := Q
    simp only at hm
    subst hm
    refine H q (fun f h' hr => (hQ f h' (hr.mono fun f h' hr => ?_)).1)
    unfold retW at hr
    obtain ⟨vs, hvs, hnt, hk⟩ := hr.elim
    unfold ARet
    rw [hvs]
    exact ⟨hnt, _, _, hk, fun G φ M w u R hv => ⟨φ, M, R, hv, fun l p _ hp => ⟨p, hp, .inl rfl⟩⟩⟩)
end Go.BL
