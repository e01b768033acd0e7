/- Files: what functions over a disk's files compute. Conditions: none. -/
import Derived.Test.YtjfmfcdempkpdaaAC
import Derived.Test.YtjfmfcdempkpdaaT
import Derived.Test.YtjfmfcdempkpdaaDeed
namespace Go.Proofs.Ytjfmfcdempkpdaa
open Go.AL Go.RowKit
set_option linter.unusedVariables false
set_option linter.unusedSimpArgs false
attribute [local go_sem] g_skip g_region g_draw g_seq g_cond g_block g_loop g_exit g_ret n_nil n_seq n_seq_e n_seq_r n_inv n_inv_e n_inv_r n_blk n_blk_r n_blk_e n_blk_ne c_true c_false r_nil r_cons r_want w_tt w_ff w_tf w_ft w_u ds_mk gs_at gs_some k_some k_none k_dr k_dr_none k_dr_p k_dr_pn u_eq u_ne e_tmp e_const e_func v_int v_bool v_string v_slice f_zero f_succ On_some o_move o_assign o_pick pick_t pick_f o_alloc new_some o_box box_some v_some ld_any cs_ro cs_own o_load load_ptr o_store store_ptr set_some o_fieldAddr fa_ptr o_field fd_agg o_indexAddr ia_sl ia_slc o_index ix_str o_bin b_add b_sub b_mul b_quo b_rem b_eql b_neq b_lss b_leq b_gtr b_geq b_beql b_bneq b_seql b_sneq b_sadd b_aeql b_aneq aq_f aq_t eq_nil and2_some eq_cons ef_some ev_int ev_str ev_bool b_nn b_sn b_nn' b_sn' o_un un_not un_neg o_extract ex_tup o_nilCheck nc_ptr o_len ln_str ln_nil ln_sl ln_slc o_call ca_fn ca_clo c_val c_int c_bool c_str c_nil c_ptr c_sl c_slc c_clo c_agg p_any p_one p_agg h_cons h_len h_at h_at0 h_set h_set0 cset_nil cset_cons cons2_some rs_nil rs_cons rs_tmp rs_cell rc_ptr ret_p ret_g ret_g0 ot_1 ot_2 pv_c pv_agg pvs_nil pvs_int pvs_bool pvs_str pt_nil pt_cons pt2_some fl_nil fl_cons fl2_some o_build bd_some ag_some fs_nil fs_cons o_buildSlice bs_some bs2_some bs3_some rep_zero rep_succ le_maxLen o_makeSlice mk_some mk2_some bd_none bd_int o_slice sl_str ss_some sl_sl cap_nil cap_cons cap2_some o_makeFunc mf_some o_convert cv_int ci_some cv_str cs_ss cs_sb cv_sl cv_slc cv_nil sb_some so_some is_nil is_cons ics2_some o_append ap_some ap3_some row_sl row_slc row_nil row_str rw_some kill_len kill_app kill_app0 kill_cons o_min o_max mm_f mm_t d_nil d_cons d_op d_want held_some d_tk d_tw tk_v tk_l tw_tt tw_ff tw_tf tw_ft tw_u t_move t_assign t_pick tp_t tp_f vl_some t_load tl_ptr t_fieldAddr tf_ptr t_indexAddr ti_sl t_bin tb_add tb_sub tb_mul tb_eql tb_neq tb_lss tb_leq tb_gtr tb_geq t_un tu_not t_extract t_len tn_str tn_nil tn_sl te_tup mv_c mv_sl mv_sl0 mv_one mv_agg mv_tup mvs_nil mvs_cons at_int at_bool at_str at_sl at_sl0 at_one at_agg at_tup ats_nil ats_cons
attribute [local go_sem] List.map_cons List.map_nil List.getElem?_cons_zero List.getElem?_cons_succ Option.map_some List.length_cons List.length_nil List.cons_append List.nil_append ds_mk Option.bind_some List.set_cons_zero List.set_cons_succ List.getElem?_toArray List.size_toArray Array.size_empty List.forall_mem_cons List.drop_zero List.drop_succ_cons List.take_succ_cons List.take_zero List.take_nil Nat.le_refl Option.isSome_some ne_eq not_false_eq_true Bool.and_true Bool.true_or Bool.false_or Bool.or_false Bool.or_true List.not_mem_nil false_implies implies_true Int.toNat_natCast Int.natCast_nonneg ite_true if_true true_and and_true and_self Nat.add_zero Nat.zero_add
attribute [local go_sem] ag2 sz2 by2 ze2 ki2 us2 ag3 sz3 by3 ze3 ki3 us3 ag4 sz4 by4 ze4 bo4 ag5 sz5 by5 ze5 ki5 us5 ag6 sz6 by6 ze6 ki6 us6 ag7 sz7 by7 ze7 of7_0 of7_1 of7_2 of7_3 pl7 eq7 ag8 sz8 by8 ze8 of8_0 of8_1 of8_2 of8_3 pl8 eq8 ag9 sz9 by9 ze9 el9 st9 ag10 sz10 by10 ze10 el10 st10 ag11 sz11 by11 ze11 el11 st11 ag12 sz12 by12 ze12 ki12 us12 ag13 sz13 by13 ze13 of13_0 of13_1 pl13 ag14 sz14 by14 ze14 of14_0 of14_1 pl14 ag15 sz15 by15 ag16 sz16 by16 ag17 sz17 by17 ag18 sz18 by18 of18_0 pl18 ag19 sz19 by19 of19_0 pl19 ag21 sz21 by21 ze21 ki21 us21 ag22 sz22 by22 ze22 of22_0 of22_1 of22_2 of22_3 pl22 eq22 ag23 sz23 by23 ze23 of23_0 of23_1 of23_2 of23_3 pl23 eq23 ag26 sz26 by26 ze26 of26_0 of26_1 of26_2 of26_3 pl26 eq26 ag29 sz29 by29 ze29 el29 st29 ag30 sz30 by30 ze30 of30_0 of30_1 pl30 ag31 sz31 by31 ze31 of31_0 of31_1 pl31 ag33 sz33 by33 ze33 el33 st33 ag35 sz35 by35 ze35 el35 st35 ag36 sz36 by36 ze36 of36_0 of36_1 pl36 ag37 sz37 by37 ze37 of37_0 of37_1 pl37 ag47 sz47 by47 ze47 el47 st47 ag54 sz54 by54 ze54 el54 st54 ag75 sz75 by75 ze75 of75_0 of75_1 of75_2 pl75 eq75 ag76 sz76 by76 ze76 of76_0 of76_1 of76_2 pl76 eq76 ag83 sz83 by83 ag97 sz97 by97 ze97 of97_0 of97_1 of97_2 pl97 eq97
set_option maxRecDepth 100000
structure FileL where
  name : Int
  safe : ByteArray
  late : ByteArray
def fileC (f : FileL) : List CV := [.c (.int .i64 f.name), .c (.string f.safe), .c (.string f.late)]
def filesC : List FileL → List CV
  | [] => []
  | f :: r => fileC f ++ filesC r
theorem filesC_len : ∀ fs : List FileL, (filesC fs).length = fs.length * 3
  | [] => rfl
  | f :: r => by rw [filesC, List.length_append, filesC_len r, List.length_cons]; simp [fileC]; omega
theorem filesC_drop : ∀ (fs : List FileL) (i : Nat) (hi : i < fs.length), ((filesC fs).drop (i * 3)).take 3 = fileC fs[i]
  | f :: r, 0, _ => by simp [filesC, fileC]
  | f :: r, i + 1, hi => by
    have : (i + 1) * 3 = (fileC f).length + i * 3 := by simp [fileC]; omega
    rw [filesC, this, ← List.drop_drop, List.drop_left]
    exact filesC_drop r i (by simpa using hi)
/-- A slice value that shows files. -/
def SeesF (h : AH) (x : CV) (fs : List FileL) : Prop :=
  (x = .c (.slice none 0 0) ∧ fs = []) ∨ ∃ l off o, x = .sl l 3 off fs.length ∧ h[l]? = some o ∧ off + fs.length * 3 ≤ o.cs.length ∧ (o.cs.drop off).take (fs.length * 3) = filesC fs
theorem F_at {cs : List CV} {off : Nat} {fs : List FileL} (hle : off + fs.length * 3 ≤ cs.length) (hc : (cs.drop off).take (fs.length * 3) = filesC fs) (i : Nat) (hi : i < fs.length) :
    paG (some true) (some 3) cs (off + i * 3) = some (.agg [.c (.int .i64 fs[i].name), .c (.string fs[i].safe), .c (.string fs[i].late)]) ∧ cs[off + i * 3]? = some (.c (.int .i64 fs[i].name)) ∧ cs[off + i * 3 + 1]? = some (.c (.string fs[i].safe)) ∧ cs[off + i * 3 + 2]? = some (.c (.string fs[i].late)) := by
  have h3 : (cs.drop (off + i * 3)).take 3 = fileC fs[i] := by
    rw [← filesC_drop fs i hi, ← hc, List.drop_take, List.drop_drop, List.take_take]
    congr 1
    omega
  have at_ : ∀ j, j < 3 → cs[off + i * 3 + j]? = (fileC fs[i])[j]? := by
    intro j hj
    rw [← h3, List.getElem?_take, if_pos hj, List.getElem?_drop]
  refine ⟨?_, by simpa [fileC] using at_ 0 (by omega), by simpa [fileC] using at_ 1 (by omega), by simpa [fileC] using at_ 2 (by omega)⟩
  rw [p_agg, if_pos (by omega), h3]
  rfl
def roomTo (fs : List FileL) : Nat → Int
  | 0 => 0
  | i + 1 => roomTo fs i + (match fs[i]? with | some f => (f.safe.size : Int) + f.late.size | none => 0)
theorem roomTo_succ (fs : List FileL) (i : Nat) (hi : i < fs.length) : roomTo fs (i + 1) = roomTo fs i + ((fs[i].safe.size : Int) + fs[i].late.size) := by simp [roomTo, hi]
theorem ln_sees {h : AH} {x : CV} {fs : List FileL} (hx : SeesF h x fs) (t : TypeId) (ht : (elemA Try.prog t).isSome = true) (h1 : AH) (k : Ko) : lnG Try.prog t (.one x) h1 k = kr Try.prog k (.one (.c (.int .i64 fs.length))) h1 := by
  rcases hx with ⟨rfl, rfl⟩ | ⟨l, off, o, rfl, ho, hle, hc⟩
  · exact ln_nil _ _ _ _ ht
  · exact ln_sl _ _ _ _ _ _ _ _ ht
theorem c_sees {h : AH} {x : CV} {fs : List FileL} (hx : SeesF h x fs) : cellsA (.one x) = some [x] := by
  rcases hx with ⟨rfl, rfl⟩ | ⟨l, off, o, rfl, ho, hle, hc⟩ <;> rfl
theorem SeesF_app {h : AH} {x : CV} {fs : List FileL} (hx : SeesF h x fs) (a : AH) : SeesF (h ++ a) x fs := by
  rcases hx with h' | ⟨l, off, o, h1, h2, h3⟩
  · exact .inl h'
  · exact .inr ⟨l, off, o, h1, h_old a h2, h3⟩
theorem sees_pos {h : AH} {x : CV} {fs : List FileL} (hx : SeesF h x fs) {i : Nat} (hi : i < fs.length) : ∃ l off o, x = .sl l 3 off fs.length ∧ h[l]? = some o ∧ off + fs.length * 3 ≤ o.cs.length ∧ (o.cs.drop off).take (fs.length * 3) = filesC fs := by
  rcases hx with ⟨rfl, rfl⟩ | h
  · simp at hi
  · exact h
theorem c83 (n : Int) (h : AH) (K : AV → AH → Prop) (hk : ∀ r, r = decide (0 ≤ n ∧ n ≤ 21) → K (.one (.c (.bool r))) h) : ACalls Try.prog 83 [.one (.c (.int .i64 n))] h K := by
  refine acall_p Try.f83.results.toList mixed Try.func83 rfl rfl (by kernel_rfl) ?_
  intro Q hQ
  simp only [go_sem, Nat.reduceBEq, Nat.reduceAdd, Nat.reduceLeDiff, Nat.reduceMul, Nat.reduceSub, Nat.reduceLT, Int.reduceEq]
  repeat' (first | (with_reducible refine c_split (fun hb => ?_) (fun hb => ?_) <;> try simp only [go_sem, Nat.reduceBEq, Nat.reduceAdd, Nat.reduceLeDiff, Nat.reduceMul, Nat.reduceSub, Nat.reduceLT, Int.reduceEq, hb]) | (with_reducible refine w_split (fun hb => ?_) (fun hb => ?_) <;> try simp only [go_sem, Nat.reduceBEq, Nat.reduceAdd, Nat.reduceLeDiff, Nat.reduceMul, Nat.reduceSub, Nat.reduceLT, Int.reduceEq, hb]) | (with_reducible refine c55 _ _ _ _ _ (fun r hr => ?_) <;> try simp only [go_sem, Nat.reduceBEq, Nat.reduceAdd, Nat.reduceLeDiff, Nat.reduceMul, Nat.reduceSub, Nat.reduceLT, Int.reduceEq]) | (with_reducible refine hQ _ _ ?_ <;> simp only [Try.f83, go_sem, Nat.reduceBEq, Nat.reduceAdd, Nat.reduceLeDiff, Nat.reduceMul, Nat.reduceSub, Nat.reduceLT, Int.reduceEq]))
  all_goals (refine hk _ ?_; simp_all)
theorem c86 (n : Int) (h : AH) (K : AV → AH → Prop) (hk : ∀ r, r = decide (0 ≤ n ∧ n ≤ 21) → K (.one (.c (.bool r))) h) : ACalls Try.prog 86 [.one (.c (.int .i64 n))] h K := by
  refine acall_p Try.f86.results.toList mixed Try.func86 rfl rfl (by kernel_rfl) ?_
  intro Q hQ
  simp only [go_sem, Nat.reduceBEq, Nat.reduceAdd, Nat.reduceLeDiff, Nat.reduceMul, Nat.reduceSub, Nat.reduceLT, Int.reduceEq]
  repeat' (first | (with_reducible refine c_split (fun hb => ?_) (fun hb => ?_) <;> try simp only [go_sem, Nat.reduceBEq, Nat.reduceAdd, Nat.reduceLeDiff, Nat.reduceMul, Nat.reduceSub, Nat.reduceLT, Int.reduceEq, hb]) | (with_reducible refine w_split (fun hb => ?_) (fun hb => ?_) <;> try simp only [go_sem, Nat.reduceBEq, Nat.reduceAdd, Nat.reduceLeDiff, Nat.reduceMul, Nat.reduceSub, Nat.reduceLT, Int.reduceEq, hb]) | (with_reducible refine c54 _ _ _ _ _ (fun r hr => ?_) <;> try simp only [go_sem, Nat.reduceBEq, Nat.reduceAdd, Nat.reduceLeDiff, Nat.reduceMul, Nat.reduceSub, Nat.reduceLT, Int.reduceEq]) | (with_reducible refine hQ _ _ ?_ <;> simp only [Try.f86, go_sem, Nat.reduceBEq, Nat.reduceAdd, Nat.reduceLeDiff, Nat.reduceMul, Nat.reduceSub, Nat.reduceLT, Int.reduceEq]))
  all_goals (refine hk _ ?_; simp_all)
theorem c84 (room : Int) (x : CV) (fs : List FileL) (h : AH) (K : AV → AH → Prop) (hx : SeesF h x fs) (hn : fs.length ≤ 1000000000) (hk : K (.one (.c (.int .i64 (wrap64 (roomTo fs fs.length))))) h) : ACalls Try.prog 84 [.agg [.c (.int .i64 room), x]] h K := by
  refine acall_p Try.f84.results.toList mixed Try.func84 rfl rfl (by kernel_rfl) ?_
  intro Q hQ
  simp only [go_sem, Nat.reduceBEq, Nat.reduceAdd, Nat.reduceLeDiff, Nat.reduceMul, Nat.reduceSub, Nat.reduceLT, Int.reduceEq]
  simp only [go_sem, Nat.reduceBEq, Nat.reduceAdd, Nat.reduceLeDiff, Nat.reduceMul, Nat.reduceSub, Nat.reduceLT, Int.reduceEq, ln_sees hx]
  refine loop_at (fun k f h1 => ∃ (i : Nat), k = fs.length - i ∧ i ≤ fs.length ∧ f 7 = .one x ∧ f 9 = .one (.c (.int .i64 i)) ∧ f 8 = .one (.c (.int .i64 fs.length)) ∧ f 3 = .one (.c (.int .i64 (wrap64 (roomTo fs i)))) ∧ ∃ ext, h1 = h ++ AO.own 37 2 true [.c (.int .i64 room), x] :: ext) fs.length ?_ ?_
  · refine ⟨0, ?_⟩
    simp only [go_sem, Nat.reduceBEq, Nat.reduceAdd, Nat.reduceLeDiff, Nat.reduceMul, Nat.reduceSub, Nat.reduceLT, Int.reduceEq]
    exact ⟨rfl, Nat.zero_le _, by simp, by simp [roomTo, wrap64], _, rfl⟩
  · rintro k f h1 J hJ ⟨i, rfl, hi, e7, e9, e8, e3, ext, rfl⟩
    simp only [go_sem, Nat.reduceBEq, Nat.reduceAdd, Nat.reduceLeDiff, Nat.reduceMul, Nat.reduceSub, Nat.reduceLT, Int.reduceEq, e9, e8, e3]
    refine c_split (fun hb => ?_) (fun hb => ?_) <;> simp only [go_sem, Nat.reduceBEq, Nat.reduceAdd, Nat.reduceLeDiff, Nat.reduceMul, Nat.reduceSub, Nat.reduceLT, Int.reduceEq, hb, e9, e8, e3, e7]
    · have hi : i < fs.length := by simpa using hb
      obtain ⟨l, off, o, rfl, ho, hle, hc⟩ := sees_pos hx hi
      obtain ⟨q0, q1, q2, q3⟩ := F_at hle hc i hi
      simp only [go_sem, Nat.reduceBEq, Nat.reduceAdd, Nat.reduceLeDiff, Nat.reduceMul, Nat.reduceSub, Nat.reduceLT, Int.reduceEq, e9, e8, e3, e7, fun a => h_old a ho, q0, q1, q2, q3, Int.toNat_natCast, Int.natCast_nonneg, Int.ofNat_lt, hi]
      refine hJ (fs.length - (i + 1)) _ _ (by omega) ⟨i + 1, rfl, hi, ?_⟩
      simp only [go_sem, Nat.reduceBEq, Nat.reduceAdd, Nat.reduceLeDiff, Nat.reduceMul, Nat.reduceSub, Nat.reduceLT, Int.reduceEq, e9, e8, e3, e7, roomTo_succ fs i hi]
      refine ⟨?_, ?_, _, rfl⟩
      · congr 3; unfold wrap64; omega
      · congr 3; unfold wrap64; omega
    · have : i = fs.length := by simp at hb; omega
      subst this
      refine hQ _ _ ?_
      simp only [go_sem, Nat.reduceBEq, Nat.reduceAdd, Nat.reduceLeDiff, Nat.reduceMul, Nat.reduceSub, Nat.reduceLT, Int.reduceEq, Try.f84]
      exact hk
theorem c81 (room : Int) (x : CV) (fs : List FileL) (h : AH) (K : AV → AH → Prop) (hx : SeesF h x fs) (hn : fs.length ≤ 1000000000) (hk : K (.one (.c (.int .i64 (wrap64 (roomTo fs fs.length))))) h) : ACalls Try.prog 81 [.agg [.c (.int .i64 room), x]] h K := by
  refine acall_p Try.f81.results.toList mixed Try.func81 rfl rfl (by kernel_rfl) ?_
  intro Q hQ
  simp only [go_sem, Nat.reduceBEq, Nat.reduceAdd, Nat.reduceLeDiff, Nat.reduceMul, Nat.reduceSub, Nat.reduceLT, Int.reduceEq]
  refine loop_at (fun k f h1 => ∃ (i : Nat), k = fs.length - i ∧ i ≤ fs.length ∧ f 1 = .one (.ptr h.length 0) ∧ f 4 = .one (.c (.int .i64 i)) ∧ f 3 = .one (.c (.int .i64 (wrap64 (roomTo fs i)))) ∧ ∃ ext, h1 = h ++ AO.own 37 2 true [.c (.int .i64 room), x] :: ext) fs.length ?_ ?_
  · refine ⟨0, ?_⟩
    simp only [go_sem, Nat.reduceBEq, Nat.reduceAdd, Nat.reduceLeDiff, Nat.reduceMul, Nat.reduceSub, Nat.reduceLT, Int.reduceEq]
    exact ⟨rfl, Nat.zero_le _, by simp, by simp [roomTo, wrap64], _, rfl⟩
  · rintro k f h1 J hJ ⟨i, rfl, hi, e1, e4, e3, ext, rfl⟩
    simp only [go_sem, Nat.reduceBEq, Nat.reduceAdd, Nat.reduceLeDiff, Nat.reduceMul, Nat.reduceSub, Nat.reduceLT, Int.reduceEq, e1, e4, e3, ln_sees hx]
    refine c_split (fun hb => ?_) (fun hb => ?_) <;> simp only [go_sem, Nat.reduceBEq, Nat.reduceAdd, Nat.reduceLeDiff, Nat.reduceMul, Nat.reduceSub, Nat.reduceLT, Int.reduceEq, hb, e1, e4, e3]
    · have hi : i < fs.length := by simpa using hb
      obtain ⟨l, off, o, rfl, ho, hle, hc⟩ := sees_pos hx hi
      obtain ⟨q0, q1, q2, q3⟩ := F_at hle hc i hi
      first | (with_reducible refine draw_at 0 12 (by with_unfolding_all rfl) [(0, true, true), (1, true, false), (2, true, false), (3, true, false), (4, true, false), (5, true, false), (6, true, false), (7, true, false), (8, true, false), (9, true, false), (10, true, false), (11, false, false), (12, false, false), (13, false, false), (14, false, false), (15, false, false), (16, false, false), (17, false, true)] (by kernel_rfl) ?_)
      simp only [go_sem, Nat.reduceBEq, Nat.reduceAdd, Nat.reduceLeDiff, Nat.reduceMul, Nat.reduceSub, Nat.reduceLT, Int.reduceEq, e1, e4, e3, fun a => h_old a ho, q0, q1, q2, q3, Int.ofNat_lt, hi]
      refine hJ (fs.length - (i + 1)) _ _ (by omega) ⟨i + 1, rfl, hi, ?_⟩
      simp only [go_sem, Nat.reduceBEq, Nat.reduceAdd, Nat.reduceLeDiff, Nat.reduceMul, Nat.reduceSub, Nat.reduceLT, Int.reduceEq, e1, e4, e3, roomTo_succ fs i hi]
      refine ⟨?_, ?_, _, rfl⟩
      · congr 3; unfold wrap64; omega
      · congr 3; unfold wrap64; omega
    · have : i = fs.length := by simp at hb; omega
      subst this
      refine hQ _ _ ?_
      simp only [go_sem, Nat.reduceBEq, Nat.reduceAdd, Nat.reduceLeDiff, Nat.reduceMul, Nat.reduceSub, Nat.reduceLT, Int.reduceEq, Try.f81]
      exact hk
def rowOk (fs : List FileL) (i : Nat) : Bool := match fs[i]? with
  | some f => decide ((0 : Int) ≤ f.name ∧ f.name ≤ 21) && (match i with | 0 => true | j + 1 => match fs[j]? with | some g => decide (g.name < f.name) | none => false)
  | none => false
def rowsTo (fs : List FileL) : Nat → Bool
  | 0 => true
  | i + 1 => rowsTo fs i && rowOk fs i
theorem rowsTo_false (fs : List FileL) (i : Nat) (hi : rowOk fs i = false) : ∀ n, i < n → rowsTo fs n = false
  | n + 1, h => by
    rw [rowsTo]
    rcases Nat.lt_or_ge i n with h' | h'
    · rw [rowsTo_false fs i hi n h', Bool.false_and]
    · obtain rfl : i = n := by omega
      rw [hi, Bool.and_false]
theorem rowOk_0 (fs : List FileL) (hi : 0 < fs.length) : rowOk fs 0 = decide ((0 : Int) ≤ fs[0].name ∧ fs[0].name ≤ 21) := by simp [rowOk, hi]
theorem rowOk_s (fs : List FileL) (j : Nat) (hi : j + 1 < fs.length) : rowOk fs (j + 1) = (decide ((0 : Int) ≤ fs[j + 1].name ∧ fs[j + 1].name ≤ 21) && decide (fs[j].name < fs[j + 1].name)) := by
  have : j < fs.length := by omega
  simp [rowOk, hi, this]
def diskOk (room : Int) (fs : List FileL) : Bool := rowsTo fs fs.length && decide (0 ≤ room ∧ room ≤ 60000) && decide (wrap64 (roomTo fs fs.length) ≤ room)
theorem c45 (room : Int) (x : CV) (fs : List FileL) (h : AH) (K : AV → AH → Prop) (hx : SeesF h x fs) (hn : fs.length ≤ 1000000000) (hk : ∀ r, r = diskOk room fs → K (.one (.c (.bool r))) h) : ACalls Try.prog 45 [.agg [.c (.int .i64 room), x]] h K := by
  refine acall_p Try.f45.results.toList mixed Try.func45 rfl rfl (by kernel_rfl) ?_
  intro Q hQ
  simp only [go_sem, Nat.reduceBEq, Nat.reduceAdd, Nat.reduceLeDiff, Nat.reduceMul, Nat.reduceSub, Nat.reduceLT, Int.reduceEq]
  simp only [go_sem, Nat.reduceBEq, Nat.reduceAdd, Nat.reduceLeDiff, Nat.reduceMul, Nat.reduceSub, Nat.reduceLT, Int.reduceEq, ln_sees hx]
  refine loop_at (fun k f h1 => ∃ (i : Nat), k = fs.length - i ∧ i ≤ fs.length ∧ rowsTo fs i = true ∧ f 1 = .one (.ptr h.length 0) ∧ f 6 = .one x ∧ f 8 = .one (.c (.int .i64 i)) ∧ f 7 = .one (.c (.int .i64 fs.length)) ∧ ∃ ext, h1 = h ++ AO.own 37 2 true [.c (.int .i64 room), x] :: ext) fs.length ?_ ?_
  · refine ⟨0, ?_⟩
    simp only [go_sem, Nat.reduceBEq, Nat.reduceAdd, Nat.reduceLeDiff, Nat.reduceMul, Nat.reduceSub, Nat.reduceLT, Int.reduceEq]
    exact ⟨rfl, Nat.zero_le _, rfl, by simp, _, rfl⟩
  · rintro k f h1 J hJ ⟨i, rfl, hi, hr_, e1, e6, e8, e7, ext, rfl⟩
    simp only [go_sem, Nat.reduceBEq, Nat.reduceAdd, Nat.reduceLeDiff, Nat.reduceMul, Nat.reduceSub, Nat.reduceLT, Int.reduceEq, e1, e6, e8, e7]
    refine c_split (fun hb => ?_) (fun hb => ?_) <;> simp only [go_sem, Nat.reduceBEq, Nat.reduceAdd, Nat.reduceLeDiff, Nat.reduceMul, Nat.reduceSub, Nat.reduceLT, Int.reduceEq, hb, e1, e6, e8, e7]
    · have hi : i < fs.length := by simpa using hb
      obtain ⟨l, off, o, rfl, ho, hle, hc⟩ := sees_pos hx hi
      obtain ⟨q0, q1, q2, q3⟩ := F_at hle hc i hi
      simp only [go_sem, Nat.reduceBEq, Nat.reduceAdd, Nat.reduceLeDiff, Nat.reduceMul, Nat.reduceSub, Nat.reduceLT, Int.reduceEq, e1, e6, e8, e7, fun a => h_old a ho, q0, q1, q2, q3, Int.ofNat_lt, hi]
      rcases i with _ | j
      · repeat' (first | (with_reducible refine c_split (fun hb => ?_) (fun hb => ?_) <;> try simp only [go_sem, Nat.reduceBEq, Nat.reduceAdd, Nat.reduceLeDiff, Nat.reduceMul, Nat.reduceSub, Nat.reduceLT, Int.reduceEq, hb, e1, e6, e8, e7, fun a => h_old a ho, q0, q1, q2, q3, Int.ofNat_lt, hi, Int.natCast_zero, Int.lt_irrefl, decide_false]) | (with_reducible refine w_split (fun hb => ?_) (fun hb => ?_) <;> try simp only [go_sem, Nat.reduceBEq, Nat.reduceAdd, Nat.reduceLeDiff, Nat.reduceMul, Nat.reduceSub, Nat.reduceLT, Int.reduceEq, hb, e1, e6, e8, e7, fun a => h_old a ho, q0, q1, q2, q3, Int.ofNat_lt, hi, Int.natCast_zero, Int.lt_irrefl, decide_false]) | (with_reducible refine tw_split (fun hb => ?_) (fun hb => ?_) <;> try simp only [go_sem, Nat.reduceBEq, Nat.reduceAdd, Nat.reduceLeDiff, Nat.reduceMul, Nat.reduceSub, Nat.reduceLT, Int.reduceEq, hb, e1, e6, e8, e7, fun a => h_old a ho, q0, q1, q2, q3, Int.ofNat_lt, hi, Int.natCast_zero, Int.lt_irrefl, decide_false]) | (with_reducible refine draw_at 0 13 (by with_unfolding_all rfl) [(0, false, true), (1, false, true), (2, false, true), (3, false, true), (4, false, true), (5, false, true), (6, false, true), (7, false, true), (8, true, true), (9, true, true), (10, true, false), (11, true, false), (12, true, false), (13, true, false), (14, true, false), (15, false, false), (16, false, false), (17, false, false), (18, false, false), (19, false, false)] (by kernel_rfl) ?_ <;> try simp only [go_sem, Nat.reduceBEq, Nat.reduceAdd, Nat.reduceLeDiff, Nat.reduceMul, Nat.reduceSub, Nat.reduceLT, Int.reduceEq, e1, e6, e8, e7, fun a => h_old a ho, q0, q1, q2, q3, Int.ofNat_lt, hi, Int.natCast_zero, Int.lt_irrefl, decide_false]) | (with_reducible refine draw_at 0 34 (by with_unfolding_all rfl) [(0, false, true), (1, false, true), (2, false, true), (3, false, true), (4, true, true), (6, true, false), (7, true, false), (5, false, false), (8, false, false), (9, false, false), (10, false, true)] (by kernel_rfl) ?_ <;> try simp only [go_sem, Nat.reduceBEq, Nat.reduceAdd, Nat.reduceLeDiff, Nat.reduceMul, Nat.reduceSub, Nat.reduceLT, Int.reduceEq, e1, e6, e8, e7, fun a => h_old a ho, q0, q1, q2, q3, Int.ofNat_lt, hi, Int.natCast_zero, Int.lt_irrefl, decide_false]) | (with_reducible refine c83 _ _ _ (fun r hr => ?_) <;> try simp only [go_sem, Nat.reduceBEq, Nat.reduceAdd, Nat.reduceLeDiff, Nat.reduceMul, Nat.reduceSub, Nat.reduceLT, Int.reduceEq, e1, e6, e8, e7, fun a => h_old a ho, q0, q1, q2, q3, Int.ofNat_lt, hi, Int.natCast_zero, Int.lt_irrefl, decide_false]) | (with_reducible refine hQ _ _ ?_ <;> simp only [Try.f45, go_sem, Nat.reduceBEq, Nat.reduceAdd, Nat.reduceLeDiff, Nat.reduceMul, Nat.reduceSub, Nat.reduceLT, Int.reduceEq, e1, e6, e8, e7, fun a => h_old a ho, q0, q1, q2, q3, Int.ofNat_lt, hi, Int.natCast_zero, Int.lt_irrefl, decide_false]))
        · have hz : rowOk fs 0 = false := by rw [rowOk_0 fs hi, ← hr]; simpa using hb
          exact hk _ (by simp [diskOk, rowsTo_false fs 0 hz _ hi])
        · have hz : rowOk fs 0 = true := by rw [rowOk_0 fs hi, ← hr]; simpa using hb
          refine hJ (fs.length - 1) _ _ (by omega) ⟨1, rfl, hi, ?_⟩
          simp only [go_sem, Nat.reduceBEq, Nat.reduceAdd, Nat.reduceLeDiff, Nat.reduceMul, Nat.reduceSub, Nat.reduceLT, Int.reduceEq, e1, e6, e8, e7]
          exact ⟨by simp [rowsTo, hz], by simp [wrap64], _, rfl⟩
      · have hj : j < fs.length := by omega
        obtain ⟨p0, p1, p2, p3⟩ := F_at hle hc j hj
        have g1 : decide ((0 : Int) < ((j + 1 : Nat) : Int)) = true := decide_eq_true (by omega)
        have g2 : wrap64 (((j + 1 : Nat) : Int) - 1) = (j : Int) := by unfold wrap64; omega
        repeat' (first | (with_reducible refine c_split (fun hb => ?_) (fun hb => ?_) <;> try simp only [go_sem, Nat.reduceBEq, Nat.reduceAdd, Nat.reduceLeDiff, Nat.reduceMul, Nat.reduceSub, Nat.reduceLT, Int.reduceEq, hb, e1, e6, e8, e7, fun a => h_old a ho, q0, q1, q2, q3, p0, p1, p2, p3, Int.ofNat_lt, hi, hj, g1, g2]) | (with_reducible refine w_split (fun hb => ?_) (fun hb => ?_) <;> try simp only [go_sem, Nat.reduceBEq, Nat.reduceAdd, Nat.reduceLeDiff, Nat.reduceMul, Nat.reduceSub, Nat.reduceLT, Int.reduceEq, hb, e1, e6, e8, e7, fun a => h_old a ho, q0, q1, q2, q3, p0, p1, p2, p3, Int.ofNat_lt, hi, hj, g1, g2]) | (with_reducible refine tw_split (fun hb => ?_) (fun hb => ?_) <;> try simp only [go_sem, Nat.reduceBEq, Nat.reduceAdd, Nat.reduceLeDiff, Nat.reduceMul, Nat.reduceSub, Nat.reduceLT, Int.reduceEq, hb, e1, e6, e8, e7, fun a => h_old a ho, q0, q1, q2, q3, p0, p1, p2, p3, Int.ofNat_lt, hi, hj, g1, g2]) | (with_reducible refine draw_at 0 13 (by with_unfolding_all rfl) [(0, false, true), (1, false, true), (2, false, true), (3, false, true), (4, false, true), (5, false, true), (6, false, true), (7, false, true), (8, true, true), (9, true, true), (10, true, false), (11, true, false), (12, true, false), (13, true, false), (14, true, false), (15, false, false), (16, false, false), (17, false, false), (18, false, false), (19, false, false)] (by kernel_rfl) ?_ <;> try simp only [go_sem, Nat.reduceBEq, Nat.reduceAdd, Nat.reduceLeDiff, Nat.reduceMul, Nat.reduceSub, Nat.reduceLT, Int.reduceEq, e1, e6, e8, e7, fun a => h_old a ho, q0, q1, q2, q3, p0, p1, p2, p3, Int.ofNat_lt, hi, hj, g1, g2]) | (with_reducible refine draw_at 0 34 (by with_unfolding_all rfl) [(0, false, true), (1, false, true), (2, false, true), (3, false, true), (4, true, true), (6, true, false), (7, true, false), (5, false, false), (8, false, false), (9, false, false), (10, false, true)] (by kernel_rfl) ?_ <;> try simp only [go_sem, Nat.reduceBEq, Nat.reduceAdd, Nat.reduceLeDiff, Nat.reduceMul, Nat.reduceSub, Nat.reduceLT, Int.reduceEq, e1, e6, e8, e7, fun a => h_old a ho, q0, q1, q2, q3, p0, p1, p2, p3, Int.ofNat_lt, hi, hj, g1, g2]) | (with_reducible refine c83 _ _ _ (fun r hr => ?_) <;> try simp only [go_sem, Nat.reduceBEq, Nat.reduceAdd, Nat.reduceLeDiff, Nat.reduceMul, Nat.reduceSub, Nat.reduceLT, Int.reduceEq, e1, e6, e8, e7, fun a => h_old a ho, q0, q1, q2, q3, p0, p1, p2, p3, Int.ofNat_lt, hi, hj, g1, g2]) | (with_reducible refine hQ _ _ ?_ <;> simp only [Try.f45, go_sem, Nat.reduceBEq, Nat.reduceAdd, Nat.reduceLeDiff, Nat.reduceMul, Nat.reduceSub, Nat.reduceLT, Int.reduceEq, e1, e6, e8, e7, fun a => h_old a ho, q0, q1, q2, q3, p0, p1, p2, p3, Int.ofNat_lt, hi, hj, g1, g2]))
        · have hz : rowOk fs (j + 1) = false := by rw [rowOk_s fs j hi, ← hr, show r = false by simpa using hb, Bool.false_and]
          exact hk _ (by simp [diskOk, rowsTo_false fs _ hz _ hi])
        · rename_i hb2
          have hz : rowOk fs (j + 1) = false := by rw [rowOk_s fs j hi]; have := of_decide_eq_true hb; rw [decide_eq_false (p := fs[j].name < fs[j + 1].name) (by omega), Bool.and_false]
          exact hk _ (by simp [diskOk, rowsTo_false fs _ hz _ hi])
        · rename_i hb2
          have hz : rowOk fs (j + 1) = true := by
            have := of_decide_eq_false hb
            rw [rowOk_s fs j hi, decide_eq_true (p := fs[j].name < fs[j + 1].name) (by omega), Bool.and_true, ← hr]
            simpa using hb2
          refine hJ (fs.length - (j + 1 + 1)) _ _ (by omega) ⟨j + 1 + 1, rfl, hi, ?_⟩
          simp only [go_sem, Nat.reduceBEq, Nat.reduceAdd, Nat.reduceLeDiff, Nat.reduceMul, Nat.reduceSub, Nat.reduceLT, Int.reduceEq, e1, e6, e8, e7]
          refine ⟨by rw [rowsTo, hr_, hz]; rfl, ?_, _, rfl⟩
          congr 3; unfold wrap64; omega
    · have : i = fs.length := by simp at hb; omega
      subst this
      repeat' (first | (with_reducible refine c_split (fun hb => ?_) (fun hb => ?_) <;> try simp only [go_sem, Nat.reduceBEq, Nat.reduceAdd, Nat.reduceLeDiff, Nat.reduceMul, Nat.reduceSub, Nat.reduceLT, Int.reduceEq, hb, e1, e6, e8, e7, c_sees hx]) | (with_reducible refine w_split (fun hb => ?_) (fun hb => ?_) <;> try simp only [go_sem, Nat.reduceBEq, Nat.reduceAdd, Nat.reduceLeDiff, Nat.reduceMul, Nat.reduceSub, Nat.reduceLT, Int.reduceEq, hb, e1, e6, e8, e7, c_sees hx]) | (with_reducible refine tw_split (fun hb => ?_) (fun hb => ?_) <;> try simp only [go_sem, Nat.reduceBEq, Nat.reduceAdd, Nat.reduceLeDiff, Nat.reduceMul, Nat.reduceSub, Nat.reduceLT, Int.reduceEq, hb, e1, e6, e8, e7, c_sees hx]) | (with_reducible refine draw_at 0 13 (by with_unfolding_all rfl) [(0, false, true), (1, false, true), (2, false, true), (3, false, true), (4, false, true), (5, false, true), (6, false, true), (7, false, true), (8, true, true), (9, true, true), (10, true, false), (11, true, false), (12, true, false), (13, true, false), (14, true, false), (15, false, false), (16, false, false), (17, false, false), (18, false, false), (19, false, false)] (by kernel_rfl) ?_ <;> try simp only [go_sem, Nat.reduceBEq, Nat.reduceAdd, Nat.reduceLeDiff, Nat.reduceMul, Nat.reduceSub, Nat.reduceLT, Int.reduceEq, e1, e6, e8, e7, c_sees hx]) | (with_reducible refine draw_at 0 34 (by with_unfolding_all rfl) [(0, false, true), (1, false, true), (2, false, true), (3, false, true), (4, true, true), (6, true, false), (7, true, false), (5, false, false), (8, false, false), (9, false, false), (10, false, true)] (by kernel_rfl) ?_ <;> try simp only [go_sem, Nat.reduceBEq, Nat.reduceAdd, Nat.reduceLeDiff, Nat.reduceMul, Nat.reduceSub, Nat.reduceLT, Int.reduceEq, e1, e6, e8, e7, c_sees hx]) | (with_reducible refine c55 _ _ _ _ _ (fun r hr => ?_) <;> try simp only [go_sem, Nat.reduceBEq, Nat.reduceAdd, Nat.reduceLeDiff, Nat.reduceMul, Nat.reduceSub, Nat.reduceLT, Int.reduceEq, e1, e6, e8, e7, c_sees hx]) | (with_reducible refine c84 _ _ _ _ _ (SeesF_app hx _) hn ?_ <;> try simp only [go_sem, Nat.reduceBEq, Nat.reduceAdd, Nat.reduceLeDiff, Nat.reduceMul, Nat.reduceSub, Nat.reduceLT, Int.reduceEq, e1, e6, e8, e7, c_sees hx]) | (with_reducible refine hQ _ _ ?_ <;> simp only [Try.f45, go_sem, Nat.reduceBEq, Nat.reduceAdd, Nat.reduceLeDiff, Nat.reduceMul, Nat.reduceSub, Nat.reduceLT, Int.reduceEq, e1, e6, e8, e7, c_sees hx]))
      all_goals (refine hk _ ?_; simp [diskOk, hr_, ← hr, hb])
theorem rows_name (fs : List FileL) : ∀ (i : Nat) (hi : i < fs.length), rowsTo fs (i + 1) = true → (i : Int) ≤ fs[i].name ∧ fs[i].name ≤ 21
  | 0, hi, h => by
    rw [rowsTo, Bool.and_eq_true, rowOk_0 fs hi] at h
    have := of_decide_eq_true h.2
    omega
  | i + 1, hi, h => by
    rw [rowsTo, Bool.and_eq_true, rowOk_s fs i hi, Bool.and_eq_true] at h
    have h1 := of_decide_eq_true h.2.1
    have h2 := of_decide_eq_true h.2.2
    have h3 := rows_name fs i (by omega) h.1
    omega
theorem rows_len {fs : List FileL} (h : rowsTo fs fs.length = true) : fs.length ≤ 22 := by
  rcases Nat.eq_zero_or_pos fs.length with h0 | h0
  · omega
  · have := rows_name fs (fs.length - 1) (by omega) (by rw [show fs.length - 1 + 1 = fs.length by omega]; exact h)
    omega
theorem disk_long {room : Int} {fs : List FileL} (h : 22 < fs.length) : diskOk room fs = false := by
  have : rowsTo fs fs.length = false := by
    cases hh : rowsTo fs fs.length
    · rfl
    · have := rows_len hh; omega
  simp [diskOk, this]
theorem c49 (room : Int) (x : CV) (fs : List FileL) (h : AH) (K : AV → AH → Prop) (hx : SeesF h x fs) (hn : fs.length ≤ 1000000000) (hk : ∀ r, r = diskOk room fs → K (.one (.c (.bool r))) h) : ACalls Try.prog 49 [.agg [.c (.int .i64 room), x]] h K := by
  refine acall_p Try.f49.results.toList mixed Try.func49 rfl rfl (by kernel_rfl) ?_
  intro Q hQ
  simp only [go_sem, Nat.reduceBEq, Nat.reduceAdd, Nat.reduceLeDiff, Nat.reduceMul, Nat.reduceSub, Nat.reduceLT, Int.reduceEq]
  repeat' (first | (with_reducible refine c_split (fun hb => ?_) (fun hb => ?_) <;> try simp only [go_sem, Nat.reduceBEq, Nat.reduceAdd, Nat.reduceLeDiff, Nat.reduceMul, Nat.reduceSub, Nat.reduceLT, Int.reduceEq, hb, ln_sees hx, c_sees hx]) | (with_reducible refine w_split (fun hb => ?_) (fun hb => ?_) <;> try simp only [go_sem, Nat.reduceBEq, Nat.reduceAdd, Nat.reduceLeDiff, Nat.reduceMul, Nat.reduceSub, Nat.reduceLT, Int.reduceEq, hb, ln_sees hx, c_sees hx]) | (with_reducible refine tw_split (fun hb => ?_) (fun hb => ?_) <;> try simp only [go_sem, Nat.reduceBEq, Nat.reduceAdd, Nat.reduceLeDiff, Nat.reduceMul, Nat.reduceSub, Nat.reduceLT, Int.reduceEq, hb, ln_sees hx, c_sees hx]) | (with_reducible refine draw_at 0 4 (by with_unfolding_all rfl) [(0, false, true), (1, false, true), (2, false, true), (3, false, true), (4, false, true), (5, false, true), (6, false, true), (7, false, true), (8, false, true), (9, false, true), (10, false, true), (11, true, true), (13, true, false), (14, true, false), (12, false, false), (15, false, false), (16, false, false)] (by kernel_rfl) ?_ <;> try simp only [go_sem, Nat.reduceBEq, Nat.reduceAdd, Nat.reduceLeDiff, Nat.reduceMul, Nat.reduceSub, Nat.reduceLT, Int.reduceEq, ln_sees hx, c_sees hx]) | (with_reducible refine draw_at 0 28 (by with_unfolding_all rfl) [(0, true, true), (1, true, true), (2, false, false), (3, false, false), (4, false, false), (5, false, false), (6, false, false), (7, false, false), (8, false, false), (9, false, false), (10, false, false), (11, false, false), (12, true, false), (13, true, false), (14, true, false), (15, true, false), (16, true, false), (17, true, false), (18, true, false), (19, true, false), (20, true, false), (21, false, false), (22, false, false), (23, false, false), (24, false, false), (25, false, false), (26, false, false), (27, false, false)] (by kernel_rfl) ?_ <;> try simp only [go_sem, Nat.reduceBEq, Nat.reduceAdd, Nat.reduceLeDiff, Nat.reduceMul, Nat.reduceSub, Nat.reduceLT, Int.reduceEq, ln_sees hx, c_sees hx]) | (with_reducible refine c54 _ _ _ _ _ (fun r hr => ?_) <;> try simp only [go_sem, Nat.reduceBEq, Nat.reduceAdd, Nat.reduceLeDiff, Nat.reduceMul, Nat.reduceSub, Nat.reduceLT, Int.reduceEq, ln_sees hx, c_sees hx]) | (with_reducible refine c81 _ _ _ _ _ (SeesF_app hx _) hn ?_ <;> try simp only [go_sem, Nat.reduceBEq, Nat.reduceAdd, Nat.reduceLeDiff, Nat.reduceMul, Nat.reduceSub, Nat.reduceLT, Int.reduceEq, ln_sees hx, c_sees hx]) | (with_reducible refine hQ _ _ ?_ <;> simp only [Try.f49, go_sem, Nat.reduceBEq, Nat.reduceAdd, Nat.reduceLeDiff, Nat.reduceMul, Nat.reduceSub, Nat.reduceLT, Int.reduceEq, ln_sees hx, c_sees hx]))
  · have : r = false := by simpa using hb
    exact hk _ (by simp [diskOk, ← hr, this])
  · exact hk _ (by rw [disk_long (by have := of_decide_eq_true hb; omega)])
  · exact hk _ (by have := of_decide_eq_true hb; simp [diskOk]; intros; omega)
  · rename_i hb1 hb2
    have hr1 : r = true := by simpa using hb1
    have hw : wrap64 (roomTo fs fs.length) ≤ room := by have := of_decide_eq_false hb; omega
    refine loop_at (fun k f h1 => ∃ (i : Nat), k = fs.length - i ∧ i ≤ fs.length ∧ rowsTo fs i = true ∧ f 1 = .one (.ptr h.length 0) ∧ f 3 = .one (.c (.int .i64 i)) ∧ ∃ ext, h1 = h ++ AO.own 37 2 true [.c (.int .i64 room), x] :: ext) fs.length ?_ ?_
    · refine ⟨0, ?_⟩
      simp only [go_sem, Nat.reduceBEq, Nat.reduceAdd, Nat.reduceLeDiff, Nat.reduceMul, Nat.reduceSub, Nat.reduceLT, Int.reduceEq]
      exact ⟨rfl, Nat.zero_le _, rfl, by simp, _, rfl⟩
    · rintro k f h1 J hJ ⟨i, rfl, hi, hr_, e1, e3, ext, rfl⟩
      simp only [go_sem, Nat.reduceBEq, Nat.reduceAdd, Nat.reduceLeDiff, Nat.reduceMul, Nat.reduceSub, Nat.reduceLT, Int.reduceEq, e1, e3, ln_sees hx]
      refine c_split (fun hb => ?_) (fun hb => ?_) <;> simp only [go_sem, Nat.reduceBEq, Nat.reduceAdd, Nat.reduceLeDiff, Nat.reduceMul, Nat.reduceSub, Nat.reduceLT, Int.reduceEq, hb, e1, e3]
      · have hi : i < fs.length := by simpa using hb
        obtain ⟨l, off, o, rfl, ho, hle, hc⟩ := sees_pos hx hi
        obtain ⟨q0, q1, q2, q3⟩ := F_at hle hc i hi
        rcases i with _ | j
        · have g1 : decide ((0 : Int) < ((0 : Nat) : Int)) = false := rfl
          simp only [Nat.zero_mul, Nat.add_zero] at q0 q1 q2 q3
          repeat' (first | (with_reducible refine c_split (fun hb => ?_) (fun hb => ?_) <;> try simp only [go_sem, Nat.reduceBEq, Nat.reduceAdd, Nat.reduceLeDiff, Nat.reduceMul, Nat.reduceSub, Nat.reduceLT, Int.reduceEq, hb, e1, e3, fun a => h_old a ho, q0, q1, q2, q3, Int.ofNat_lt, hi, g1]) | (with_reducible refine w_split (fun hb => ?_) (fun hb => ?_) <;> try simp only [go_sem, Nat.reduceBEq, Nat.reduceAdd, Nat.reduceLeDiff, Nat.reduceMul, Nat.reduceSub, Nat.reduceLT, Int.reduceEq, hb, e1, e3, fun a => h_old a ho, q0, q1, q2, q3, Int.ofNat_lt, hi, g1]) | (with_reducible refine tw_split (fun hb => ?_) (fun hb => ?_) <;> try simp only [go_sem, Nat.reduceBEq, Nat.reduceAdd, Nat.reduceLeDiff, Nat.reduceMul, Nat.reduceSub, Nat.reduceLT, Int.reduceEq, hb, e1, e3, fun a => h_old a ho, q0, q1, q2, q3, Int.ofNat_lt, hi, g1]) | (with_reducible refine draw_at 0 4 (by with_unfolding_all rfl) [(0, false, true), (1, false, true), (2, false, true), (3, false, true), (4, false, true), (5, false, true), (6, false, true), (7, false, true), (8, false, true), (9, false, true), (10, false, true), (11, true, true), (13, true, false), (14, true, false), (12, false, false), (15, false, false), (16, false, false)] (by kernel_rfl) ?_ <;> try simp only [go_sem, Nat.reduceBEq, Nat.reduceAdd, Nat.reduceLeDiff, Nat.reduceMul, Nat.reduceSub, Nat.reduceLT, Int.reduceEq, e1, e3, fun a => h_old a ho, q0, q1, q2, q3, Int.ofNat_lt, hi, g1]) | (with_reducible refine draw_at 0 28 (by with_unfolding_all rfl) [(0, true, true), (1, true, true), (2, false, false), (3, false, false), (4, false, false), (5, false, false), (6, false, false), (7, false, false), (8, false, false), (9, false, false), (10, false, false), (11, false, false), (12, true, false), (13, true, false), (14, true, false), (15, true, false), (16, true, false), (17, true, false), (18, true, false), (19, true, false), (20, true, false), (21, false, false), (22, false, false), (23, false, false), (24, false, false), (25, false, false), (26, false, false), (27, false, false)] (by kernel_rfl) ?_ <;> try simp only [go_sem, Nat.reduceBEq, Nat.reduceAdd, Nat.reduceLeDiff, Nat.reduceMul, Nat.reduceSub, Nat.reduceLT, Int.reduceEq, e1, e3, fun a => h_old a ho, q0, q1, q2, q3, Int.ofNat_lt, hi, g1]) | (with_reducible refine c86 _ _ _ (fun r hr => ?_) <;> try simp only [go_sem, Nat.reduceBEq, Nat.reduceAdd, Nat.reduceLeDiff, Nat.reduceMul, Nat.reduceSub, Nat.reduceLT, Int.reduceEq, e1, e3, fun a => h_old a ho, q0, q1, q2, q3, Int.ofNat_lt, hi, g1]) | (with_reducible refine hQ _ _ ?_ <;> simp only [Try.f49, go_sem, Nat.reduceBEq, Nat.reduceAdd, Nat.reduceLeDiff, Nat.reduceMul, Nat.reduceSub, Nat.reduceLT, Int.reduceEq, e1, e3, fun a => h_old a ho, q0, q1, q2, q3, Int.ofNat_lt, hi, g1]))
          · have hz : rowOk fs 0 = false := by rw [rowOk_0 fs hi, ← hr]; simpa using hb
            exact hk _ (by simp [diskOk, rowsTo_false fs 0 hz _ hi])
          · have hz : rowOk fs 0 = true := by rw [rowOk_0 fs hi, ← hr]; simpa using hb
            refine hJ (fs.length - 1) _ _ (by omega) ⟨1, rfl, hi, ?_⟩
            simp only [go_sem, Nat.reduceBEq, Nat.reduceAdd, Nat.reduceLeDiff, Nat.reduceMul, Nat.reduceSub, Nat.reduceLT, Int.reduceEq, e1, e3]
            exact ⟨by simp [rowsTo, hz], by simp [wrap64], _, rfl⟩
        · have hj : j < fs.length := by omega
          obtain ⟨p0, p1, p2, p3⟩ := F_at hle hc j hj
          have g1 : decide ((0 : Int) < ((j + 1 : Nat) : Int)) = true := decide_eq_true (by omega)
          have g2 : wrap64 (((j + 1 : Nat) : Int) - 1) = (j : Int) := by unfold wrap64; omega
          repeat' (first | (with_reducible refine c_split (fun hb => ?_) (fun hb => ?_) <;> try simp only [go_sem, Nat.reduceBEq, Nat.reduceAdd, Nat.reduceLeDiff, Nat.reduceMul, Nat.reduceSub, Nat.reduceLT, Int.reduceEq, hb, e1, e3, fun a => h_old a ho, q0, q1, q2, q3, p0, p1, p2, p3, Int.ofNat_lt, hi, hj, g1, g2]) | (with_reducible refine w_split (fun hb => ?_) (fun hb => ?_) <;> try simp only [go_sem, Nat.reduceBEq, Nat.reduceAdd, Nat.reduceLeDiff, Nat.reduceMul, Nat.reduceSub, Nat.reduceLT, Int.reduceEq, hb, e1, e3, fun a => h_old a ho, q0, q1, q2, q3, p0, p1, p2, p3, Int.ofNat_lt, hi, hj, g1, g2]) | (with_reducible refine tw_split (fun hb => ?_) (fun hb => ?_) <;> try simp only [go_sem, Nat.reduceBEq, Nat.reduceAdd, Nat.reduceLeDiff, Nat.reduceMul, Nat.reduceSub, Nat.reduceLT, Int.reduceEq, hb, e1, e3, fun a => h_old a ho, q0, q1, q2, q3, p0, p1, p2, p3, Int.ofNat_lt, hi, hj, g1, g2]) | (with_reducible refine draw_at 0 4 (by with_unfolding_all rfl) [(0, false, true), (1, false, true), (2, false, true), (3, false, true), (4, false, true), (5, false, true), (6, false, true), (7, false, true), (8, false, true), (9, false, true), (10, false, true), (11, true, true), (13, true, false), (14, true, false), (12, false, false), (15, false, false), (16, false, false)] (by kernel_rfl) ?_ <;> try simp only [go_sem, Nat.reduceBEq, Nat.reduceAdd, Nat.reduceLeDiff, Nat.reduceMul, Nat.reduceSub, Nat.reduceLT, Int.reduceEq, e1, e3, fun a => h_old a ho, q0, q1, q2, q3, p0, p1, p2, p3, Int.ofNat_lt, hi, hj, g1, g2]) | (with_reducible refine draw_at 0 28 (by with_unfolding_all rfl) [(0, true, true), (1, true, true), (2, false, false), (3, false, false), (4, false, false), (5, false, false), (6, false, false), (7, false, false), (8, false, false), (9, false, false), (10, false, false), (11, false, false), (12, true, false), (13, true, false), (14, true, false), (15, true, false), (16, true, false), (17, true, false), (18, true, false), (19, true, false), (20, true, false), (21, false, false), (22, false, false), (23, false, false), (24, false, false), (25, false, false), (26, false, false), (27, false, false)] (by kernel_rfl) ?_ <;> try simp only [go_sem, Nat.reduceBEq, Nat.reduceAdd, Nat.reduceLeDiff, Nat.reduceMul, Nat.reduceSub, Nat.reduceLT, Int.reduceEq, e1, e3, fun a => h_old a ho, q0, q1, q2, q3, p0, p1, p2, p3, Int.ofNat_lt, hi, hj, g1, g2]) | (with_reducible refine c86 _ _ _ (fun r hr => ?_) <;> try simp only [go_sem, Nat.reduceBEq, Nat.reduceAdd, Nat.reduceLeDiff, Nat.reduceMul, Nat.reduceSub, Nat.reduceLT, Int.reduceEq, e1, e3, fun a => h_old a ho, q0, q1, q2, q3, p0, p1, p2, p3, Int.ofNat_lt, hi, hj, g1, g2]) | (with_reducible refine hQ _ _ ?_ <;> simp only [Try.f49, go_sem, Nat.reduceBEq, Nat.reduceAdd, Nat.reduceLeDiff, Nat.reduceMul, Nat.reduceSub, Nat.reduceLT, Int.reduceEq, e1, e3, fun a => h_old a ho, q0, q1, q2, q3, p0, p1, p2, p3, Int.ofNat_lt, hi, hj, g1, g2]))
          · have hz : rowOk fs (j + 1) = false := by rw [rowOk_s fs j hi, ← hr, show r = false by simpa using hb, Bool.false_and]
            exact hk _ (by simp [diskOk, rowsTo_false fs _ hz _ hi])
          · have hz : rowOk fs (j + 1) = false := by rw [rowOk_s fs j hi]; have := of_decide_eq_true hb; rw [decide_eq_false (p := fs[j].name < fs[j + 1].name) (by omega), Bool.and_false]
            exact hk _ (by simp [diskOk, rowsTo_false fs _ hz _ hi])
          · rename_i hb3
            have hz : rowOk fs (j + 1) = true := by
              have := of_decide_eq_false hb
              rw [rowOk_s fs j hi, decide_eq_true (p := fs[j].name < fs[j + 1].name) (by omega), Bool.and_true, ← hr]
              simpa using hb3
            refine hJ (fs.length - (j + 1 + 1)) _ _ (by omega) ⟨j + 1 + 1, rfl, hi, ?_⟩
            simp only [go_sem, Nat.reduceBEq, Nat.reduceAdd, Nat.reduceLeDiff, Nat.reduceMul, Nat.reduceSub, Nat.reduceLT, Int.reduceEq, e1, e3]
            refine ⟨by rw [rowsTo, hr_, hz]; rfl, ?_, _, rfl⟩
            congr 3; unfold wrap64; omega
      · have : i = fs.length := by simp at hb; omega
        subst this
        refine hQ _ _ ?_
        simp only [go_sem, Nat.reduceBEq, Nat.reduceAdd, Nat.reduceLeDiff, Nat.reduceMul, Nat.reduceSub, Nat.reduceLT, Int.reduceEq, Try.f49]
        exact hk _ (by simp [diskOk, hr_, ← hr, hr1, hw])
end Go.Proofs.Ytjfmfcdempkpdaa
