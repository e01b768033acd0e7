/- Find: the place of a file, as the program and as the specification finds it. Conditions: none. -/
import Derived.Test.YtjfmfcdempkpdaaAC
import Derived.Test.YtjfmfcdempkpdaaT
import Derived.Test.YtjfmfcdempkpdaaFiles
namespace Go.Proofs.Ytjfmfcdempkpdaa
open Go.AL Go.RowKit
set_option linter.unusedVariables false
set_option linter.unusedSimpArgs false
attribute [local go_sem] g_skip g_region g_draw g_seq g_cond g_block g_loop g_exit g_ret n_nil n_seq n_seq_e n_seq_r n_inv n_inv_e n_inv_r n_blk n_blk_r n_blk_e n_blk_ne c_true c_false r_nil r_cons r_want w_tt w_ff w_tf w_ft w_u ds_mk gs_at gs_some k_some k_none k_dr k_dr_none k_dr_p k_dr_pn u_eq u_ne e_tmp e_const e_func v_int v_bool v_string v_slice f_zero f_succ On_some o_move o_assign o_pick pick_t pick_f o_alloc new_some o_box box_some v_some ld_any cs_ro cs_own o_load load_ptr o_store store_ptr set_some o_fieldAddr fa_ptr o_field fd_agg o_indexAddr ia_sl ia_slc o_index ix_str o_bin b_add b_sub b_mul b_quo b_rem b_eql b_neq b_lss b_leq b_gtr b_geq b_beql b_bneq b_seql b_sneq b_sadd b_aeql b_aneq aq_f aq_t eq_nil and2_some eq_cons ef_some ev_int ev_str ev_bool b_nn b_sn b_nn' b_sn' o_un un_not un_neg o_extract ex_tup o_nilCheck nc_ptr o_len ln_str ln_nil ln_sl ln_slc o_call ca_fn ca_clo c_val c_int c_bool c_str c_nil c_ptr c_sl c_slc c_clo c_agg p_any p_one p_agg h_cons h_len h_at h_at0 h_set h_set0 cset_nil cset_cons cons2_some rs_nil rs_cons rs_tmp rs_cell rc_ptr ret_p ret_g ret_g0 ot_1 ot_2 pv_c pv_agg pvs_nil pvs_int pvs_bool pvs_str pt_nil pt_cons pt2_some fl_nil fl_cons fl2_some o_build bd_some ag_some fs_nil fs_cons o_buildSlice bs_some bs2_some bs3_some rep_zero rep_succ le_maxLen o_makeSlice mk_some mk2_some bd_none bd_int o_slice sl_str ss_some sl_sl cap_nil cap_cons cap2_some o_makeFunc mf_some o_convert cv_int ci_some cv_str cs_ss cs_sb cv_sl cv_slc cv_nil sb_some so_some is_nil is_cons ics2_some o_append ap_some ap3_some row_sl row_slc row_nil row_str rw_some kill_len kill_app kill_app0 kill_cons o_min o_max mm_f mm_t d_nil d_cons d_op d_want held_some d_tk d_tw tk_v tk_l tw_tt tw_ff tw_tf tw_ft tw_u t_move t_assign t_pick tp_t tp_f vl_some t_load tl_ptr t_fieldAddr tf_ptr t_indexAddr ti_sl t_bin tb_add tb_sub tb_mul tb_eql tb_neq tb_lss tb_leq tb_gtr tb_geq t_un tu_not t_extract t_len tn_str tn_nil tn_sl te_tup mv_c mv_sl mv_sl0 mv_one mv_agg mv_tup mvs_nil mvs_cons at_int at_bool at_str at_sl at_sl0 at_one at_agg at_tup ats_nil ats_cons
attribute [local go_sem] List.map_cons List.map_nil List.getElem?_cons_zero List.getElem?_cons_succ Option.map_some List.length_cons List.length_nil List.cons_append List.nil_append ds_mk Option.bind_some List.set_cons_zero List.set_cons_succ List.getElem?_toArray List.size_toArray Array.size_empty List.forall_mem_cons List.drop_zero List.drop_succ_cons List.take_succ_cons List.take_zero List.take_nil Nat.le_refl Option.isSome_some ne_eq not_false_eq_true Bool.and_true Bool.true_or Bool.false_or Bool.or_false Bool.or_true List.not_mem_nil false_implies implies_true Int.toNat_natCast Int.natCast_nonneg ite_true if_true true_and and_true and_self Nat.add_zero Nat.zero_add
attribute [local go_sem] ag2 sz2 by2 ze2 ki2 us2 ag3 sz3 by3 ze3 ki3 us3 ag4 sz4 by4 ze4 bo4 ag5 sz5 by5 ze5 ki5 us5 ag6 sz6 by6 ze6 ki6 us6 ag7 sz7 by7 ze7 of7_0 of7_1 of7_2 of7_3 pl7 eq7 ag8 sz8 by8 ze8 of8_0 of8_1 of8_2 of8_3 pl8 eq8 ag9 sz9 by9 ze9 el9 st9 ag10 sz10 by10 ze10 el10 st10 ag11 sz11 by11 ze11 el11 st11 ag12 sz12 by12 ze12 ki12 us12 ag13 sz13 by13 ze13 of13_0 of13_1 pl13 ag14 sz14 by14 ze14 of14_0 of14_1 pl14 ag15 sz15 by15 ag16 sz16 by16 ag17 sz17 by17 ag18 sz18 by18 of18_0 pl18 ag19 sz19 by19 of19_0 pl19 ag21 sz21 by21 ze21 ki21 us21 ag22 sz22 by22 ze22 of22_0 of22_1 of22_2 of22_3 pl22 eq22 ag23 sz23 by23 ze23 of23_0 of23_1 of23_2 of23_3 pl23 eq23 ag26 sz26 by26 ze26 of26_0 of26_1 of26_2 of26_3 pl26 eq26 ag29 sz29 by29 ze29 el29 st29 ag30 sz30 by30 ze30 of30_0 of30_1 pl30 ag31 sz31 by31 ze31 of31_0 of31_1 pl31 ag33 sz33 by33 ze33 el33 st33 ag35 sz35 by35 ze35 el35 st35 ag36 sz36 by36 ze36 of36_0 of36_1 pl36 ag37 sz37 by37 ze37 of37_0 of37_1 pl37 ag47 sz47 by47 ze47 el47 st47 ag54 sz54 by54 ze54 el54 st54 ag75 sz75 by75 ze75 of75_0 of75_1 of75_2 pl75 eq75 ag76 sz76 by76 ze76 of76_0 of76_1 of76_2 pl76 eq76 ag83 sz83 by83 ag97 sz97 by97 ze97 of97_0 of97_1 of97_2 pl97 eq97
set_option maxRecDepth 100000
def findG (p : FileL → Bool) (fs : List FileL) : Int := match fs.findIdx? p with | some i => (i : Int) | none => -1
theorem findG_at {p : FileL → Bool} {fs : List FileL} {i : Nat} (hi : i < fs.length) (h1 : ∀ j (hj : j < i), p (fs[j]'(Nat.lt_trans hj hi)) = false) (h2 : p fs[i] = true) : findG p fs = i := by
  have : fs.findIdx? p = some i := by
    rw [List.findIdx?_eq_some_iff_getElem]
    exact ⟨hi, h2, fun j hj => by simp [h1 j hj]⟩
  simp [findG, this]
theorem findG_none {p : FileL → Bool} {fs : List FileL} (h1 : ∀ j (hj : j < fs.length), p fs[j] = false) : findG p fs = -1 := by
  have : fs.findIdx? p = none := by
    rw [List.findIdx?_eq_none_iff]
    intro x hx
    obtain ⟨j, hj, rfl⟩ := List.mem_iff_getElem.1 hx
    exact h1 j hj
  simp [findG, this]
theorem c98 (x : CV) (fs : List FileL) (g : Nat) (caps : List Nat) (p : FileL → Bool) (h : AH) (K : AV → AH → Prop) (hx : SeesF h x fs) (hn : fs.length ≤ 1000000000)
    (hp : ∀ i (hi : i < fs.length) (K' : AV → AH → Prop), K' (.one (.c (.bool (p fs[i])))) h → ACalls Try.prog g ([.agg [.c (.int .i64 fs[i].name), .c (.string fs[i].safe), .c (.string fs[i].late)]] ++ caps.map fun l => .one (.ptr l 0)) h K')
    (hk : K (.one (.c (.int .i64 (findG p fs)))) h) : ACalls Try.prog 98 [.one x, .one (.clo g caps)] h K := by
  refine acall_p Try.f98.results.toList mixed Try.func98 rfl rfl (by kernel_rfl) ?_
  intro Q hQ
  simp only [go_sem, Nat.reduceBEq, Nat.reduceAdd, Nat.reduceLeDiff, Nat.reduceMul, Nat.reduceSub, Nat.reduceLT, Int.reduceEq]
  simp only [go_sem, Nat.reduceBEq, Nat.reduceAdd, Nat.reduceLeDiff, Nat.reduceMul, Nat.reduceSub, Nat.reduceLT, Int.reduceEq, ln_sees hx]
  refine loop_at (fun k f h1 => ∃ (i : Nat), k = fs.length - i ∧ i ≤ fs.length ∧ (∀ j (hj : j < i) (hj2 : j < fs.length), p fs[j] = false) ∧ f 0 = .one x ∧ f 1 = .one (.clo g caps) ∧ f 8 = .one (.c (.int .i64 i)) ∧ f 7 = .one (.c (.int .i64 fs.length)) ∧ h1 = h) fs.length ?_ ?_
  · refine ⟨0, ?_⟩
    simp only [go_sem, Nat.reduceBEq, Nat.reduceAdd, Nat.reduceLeDiff, Nat.reduceMul, Nat.reduceSub, Nat.reduceLT, Int.reduceEq]
    exact ⟨rfl, Nat.zero_le _, fun j hj => absurd hj (Nat.not_lt_zero j), by simp⟩
  · rintro k f h1 J hJ ⟨i, rfl, hi, hno, e0, e1, e8, e7, rfl⟩
    simp only [go_sem, Nat.reduceBEq, Nat.reduceAdd, Nat.reduceLeDiff, Nat.reduceMul, Nat.reduceSub, Nat.reduceLT, Int.reduceEq, e0, e1, e8, e7]
    refine c_split (fun hb => ?_) (fun hb => ?_) <;> simp only [go_sem, Nat.reduceBEq, Nat.reduceAdd, Nat.reduceLeDiff, Nat.reduceMul, Nat.reduceSub, Nat.reduceLT, Int.reduceEq, hb, e0, e1, e8, e7]
    · have hi : i < fs.length := by simpa using hb
      obtain ⟨l, off, o, rfl, ho, hle, hc⟩ := sees_pos hx hi
      obtain ⟨q0, q1, q2, q3⟩ := F_at hle hc i hi
      simp only [go_sem, Nat.reduceBEq, Nat.reduceAdd, Nat.reduceLeDiff, Nat.reduceMul, Nat.reduceSub, Nat.reduceLT, Int.reduceEq, e0, e1, e8, e7, ho, q0, q1, q2, q3, Int.ofNat_lt, hi]
      refine hp i hi _ ?_
      simp only [go_sem, Nat.reduceBEq, Nat.reduceAdd, Nat.reduceLeDiff, Nat.reduceMul, Nat.reduceSub, Nat.reduceLT, Int.reduceEq, e0, e1, e8, e7]
      refine c_split (fun hb => ?_) (fun hb => ?_) <;> simp only [go_sem, Nat.reduceBEq, Nat.reduceAdd, Nat.reduceLeDiff, Nat.reduceMul, Nat.reduceSub, Nat.reduceLT, Int.reduceEq, hb, e0, e1, e8, e7]
      · refine hQ _ _ ?_
        simp only [go_sem, Nat.reduceBEq, Nat.reduceAdd, Nat.reduceLeDiff, Nat.reduceMul, Nat.reduceSub, Nat.reduceLT, Int.reduceEq, Try.f98]
        rw [findG_at hi (fun j hj => hno j hj (by omega)) hb] at hk
        exact hk
      · refine hJ (fs.length - (i + 1)) _ _ (by omega) ⟨i + 1, rfl, hi, ?_, ?_⟩
        · intro j hj hj2
          rcases Nat.lt_or_ge j i with h' | h'
          · exact hno j h' hj2
          · obtain rfl : j = i := by omega
            exact hb
        · simp only [go_sem, Nat.reduceBEq, Nat.reduceAdd, Nat.reduceLeDiff, Nat.reduceMul, Nat.reduceSub, Nat.reduceLT, Int.reduceEq, e0, e1, e8, e7]
          congr 3; unfold wrap64; omega
    · have : i = fs.length := by simp at hb; omega
      subst this
      refine hQ _ _ ?_
      simp only [go_sem, Nat.reduceBEq, Nat.reduceAdd, Nat.reduceLeDiff, Nat.reduceMul, Nat.reduceSub, Nat.reduceLT, Int.reduceEq, Try.f98]
      rw [findG_none (fun j hj => hno j hj hj)] at hk
      exact hk
theorem c99 (a : Int) (b c : ByteArray) (name : Int) (l : Nat) (h : AH) (K : AV → AH → Prop) (hl : h[l]? = some (.own 3 1 true [.c (.int .i64 name)])) (hk : K (.one (.c (.bool (a == name)))) h) : ACalls Try.prog 99 ([.agg [.c (.int .i64 a), .c (.string b), .c (.string c)]] ++ [l].map fun l => .one (.ptr l 0)) h K := by
  show ACalls Try.prog 99 [.agg [.c (.int .i64 a), .c (.string b), .c (.string c)], .one (.ptr l 0)] h K
  refine acall_p Try.f99.results.toList mixed Try.func99 rfl rfl (by kernel_rfl) ?_
  intro Q hQ
  simp only [go_sem, Nat.reduceBEq, Nat.reduceAdd, Nat.reduceLeDiff, Nat.reduceMul, Nat.reduceSub, Nat.reduceLT, Int.reduceEq, fun a => h_old a hl]
  repeat' (first | (with_reducible refine c_split (fun hb => ?_) (fun hb => ?_) <;> try simp only [go_sem, Nat.reduceBEq, Nat.reduceAdd, Nat.reduceLeDiff, Nat.reduceMul, Nat.reduceSub, Nat.reduceLT, Int.reduceEq, hb, fun a => h_old a hl]) | (with_reducible refine w_split (fun hb => ?_) (fun hb => ?_) <;> try simp only [go_sem, Nat.reduceBEq, Nat.reduceAdd, Nat.reduceLeDiff, Nat.reduceMul, Nat.reduceSub, Nat.reduceLT, Int.reduceEq, hb, fun a => h_old a hl]) | (with_reducible refine hQ _ _ ?_ <;> simp only [Try.f99, go_sem, Nat.reduceBEq, Nat.reduceAdd, Nat.reduceLeDiff, Nat.reduceMul, Nat.reduceSub, Nat.reduceLT, Int.reduceEq, fun a => h_old a hl]))
  exact hk
theorem c62 (room name : Int) (x : CV) (fs : List FileL) (h : AH) (K : AV → AH → Prop) (hx : SeesF h x fs) (hn : fs.length ≤ 1000000000) (hk : K (.one (.c (.int .i64 (findG (fun f => f.name == name) fs)))) h) : ACalls Try.prog 62 [.agg [.c (.int .i64 room), x], .one (.c (.int .i64 name))] h K := by
  refine acall_p Try.f62.results.toList mixed Try.func62 rfl rfl (by kernel_rfl) ?_
  intro Q hQ
  simp only [go_sem, Nat.reduceBEq, Nat.reduceAdd, Nat.reduceLeDiff, Nat.reduceMul, Nat.reduceSub, Nat.reduceLT, Int.reduceEq]
  refine c98 _ _ _ _ (fun f => f.name == name) _ _ (SeesF_app hx _) hn (fun i hi K' hk' => c99 _ _ _ name _ _ _ (by simp only [go_sem, Nat.reduceBEq, Nat.reduceAdd, Nat.reduceLeDiff, Nat.reduceMul, Nat.reduceSub, Nat.reduceLT, Int.reduceEq]) hk') ?_
  simp only [go_sem, Nat.reduceBEq, Nat.reduceAdd, Nat.reduceLeDiff, Nat.reduceMul, Nat.reduceSub, Nat.reduceLT, Int.reduceEq]
  repeat' (first | (with_reducible refine c_split (fun hb => ?_) (fun hb => ?_) <;> try simp only [go_sem, Nat.reduceBEq, Nat.reduceAdd, Nat.reduceLeDiff, Nat.reduceMul, Nat.reduceSub, Nat.reduceLT, Int.reduceEq, hb]) | (with_reducible refine w_split (fun hb => ?_) (fun hb => ?_) <;> try simp only [go_sem, Nat.reduceBEq, Nat.reduceAdd, Nat.reduceLeDiff, Nat.reduceMul, Nat.reduceSub, Nat.reduceLT, Int.reduceEq, hb]) | (with_reducible refine hQ _ _ ?_ <;> simp only [Try.f62, go_sem, Nat.reduceBEq, Nat.reduceAdd, Nat.reduceLeDiff, Nat.reduceMul, Nat.reduceSub, Nat.reduceLT, Int.reduceEq]))
  exact hk
theorem c58 (room name : Int) (x : CV) (fs : List FileL) (h : AH) (K : AV → AH → Prop) (hx : SeesF h x fs) (hn : fs.length ≤ 1000000000) (hk : K (.one (.c (.int .i64 (findG (fun f => f.name == name) fs)))) h) : ACalls Try.prog 58 [.agg [.c (.int .i64 room), x], .one (.c (.int .i64 name))] h K := by
  refine acall_p Try.f58.results.toList mixed Try.func58 rfl rfl (by kernel_rfl) ?_
  intro Q hQ
  simp only [go_sem, Nat.reduceBEq, Nat.reduceAdd, Nat.reduceLeDiff, Nat.reduceMul, Nat.reduceSub, Nat.reduceLT, Int.reduceEq]
  refine loop_at (fun k f h1 => ∃ (i : Nat), k = fs.length - i ∧ i ≤ fs.length ∧ (∀ j (hj : j < i) (hj2 : j < fs.length), (fs[j].name == name) = false) ∧ f 2 = .one (.ptr h.length 0) ∧ f 5 = .one (.c (.int .i64 i)) ∧ f 1 = .one (.c (.int .i64 name)) ∧ ∃ ext, h1 = h ++ AO.own 37 2 true [.c (.int .i64 room), x] :: ext) fs.length ?_ ?_
  · refine ⟨0, ?_⟩
    simp only [go_sem, Nat.reduceBEq, Nat.reduceAdd, Nat.reduceLeDiff, Nat.reduceMul, Nat.reduceSub, Nat.reduceLT, Int.reduceEq]
    exact ⟨rfl, Nat.zero_le _, fun j hj => absurd hj (Nat.not_lt_zero j), by simp, _, rfl⟩
  · rintro k f h1 J hJ ⟨i, rfl, hi, hno, e2, e5, e1, ext, rfl⟩
    simp only [go_sem, Nat.reduceBEq, Nat.reduceAdd, Nat.reduceLeDiff, Nat.reduceMul, Nat.reduceSub, Nat.reduceLT, Int.reduceEq, e2, e1, e5, ln_sees hx]
    refine c_split (fun hb => ?_) (fun hb => ?_) <;> simp only [go_sem, Nat.reduceBEq, Nat.reduceAdd, Nat.reduceLeDiff, Nat.reduceMul, Nat.reduceSub, Nat.reduceLT, Int.reduceEq, hb, e2, e1, e5]
    · have hi : i < fs.length := by simpa using hb
      obtain ⟨l, off, o, rfl, ho, hle, hc⟩ := sees_pos hx hi
      obtain ⟨q0, q1, q2, q3⟩ := F_at hle hc i hi
      simp only [go_sem, Nat.reduceBEq, Nat.reduceAdd, Nat.reduceLeDiff, Nat.reduceMul, Nat.reduceSub, Nat.reduceLT, Int.reduceEq, e2, e1, e5, fun a => h_old a ho, q0, q1, q2, q3, Int.ofNat_lt, hi]
      refine c_split (fun hb => ?_) (fun hb => ?_) <;> simp only [go_sem, Nat.reduceBEq, Nat.reduceAdd, Nat.reduceLeDiff, Nat.reduceMul, Nat.reduceSub, Nat.reduceLT, Int.reduceEq, hb, e2, e1, e5]
      · refine hQ _ _ ?_
        simp only [go_sem, Nat.reduceBEq, Nat.reduceAdd, Nat.reduceLeDiff, Nat.reduceMul, Nat.reduceSub, Nat.reduceLT, Int.reduceEq, Try.f58]
        rw [findG_at (p := fun f => f.name == name) hi (fun j hj => hno j hj (by omega)) hb] at hk
        exact hk
      · refine hJ (fs.length - (i + 1)) _ _ (by omega) ⟨i + 1, rfl, hi, ?_, ?_⟩
        · intro j hj hj2
          rcases Nat.lt_or_ge j i with h' | h'
          · exact hno j h' hj2
          · obtain rfl : j = i := by omega
            exact hb
        · simp only [go_sem, Nat.reduceBEq, Nat.reduceAdd, Nat.reduceLeDiff, Nat.reduceMul, Nat.reduceSub, Nat.reduceLT, Int.reduceEq, e2, e1, e5]
          refine ⟨?_, _, rfl⟩
          congr 3; unfold wrap64; omega
    · have : i = fs.length := by simp at hb; omega
      subst this
      refine hQ _ _ ?_
      simp only [go_sem, Nat.reduceBEq, Nat.reduceAdd, Nat.reduceLeDiff, Nat.reduceMul, Nat.reduceSub, Nat.reduceLT, Int.reduceEq, Try.f58]
      rw [findG_none (p := fun f => f.name == name) (fun j hj => hno j hj hj)] at hk
      exact hk
end Go.Proofs.Ytjfmfcdempkpdaa
