/- Marks: what the laws write into a disk's files. Conditions: none. -/
import Derived.Test.YtjfmfcdempkpdaaAC
import Derived.Test.YtjfmfcdempkpdaaT
import Derived.Test.YtjfmfcdempkpdaaEqual
namespace Go.Proofs.Ytjfmfcdempkpdaa
open Go.AL Go.RowKit
set_option linter.unusedVariables false
set_option linter.unusedSimpArgs false
attribute [local go_sem] g_skip g_region g_draw g_seq g_cond g_block g_loop g_exit g_ret n_nil n_seq n_seq_e n_seq_r n_inv n_inv_e n_inv_r n_blk n_blk_r n_blk_e n_blk_ne c_true c_false r_nil r_cons r_want w_tt w_ff w_tf w_ft w_u ds_mk gs_at gs_some k_some k_none k_dr k_dr_none k_dr_p k_dr_pn u_eq u_ne e_tmp e_const e_func v_int v_bool v_string v_slice f_zero f_succ On_some o_move o_assign o_pick pick_t pick_f o_alloc new_some o_box box_some v_some ld_any cs_ro cs_own o_load load_ptr o_store store_ptr set_some o_fieldAddr fa_ptr o_field fd_agg o_indexAddr ia_sl ia_slc o_index ix_str o_bin b_add b_sub b_mul b_quo b_rem b_eql b_neq b_lss b_leq b_gtr b_geq b_beql b_bneq b_seql b_sneq b_sadd b_aeql b_aneq aq_f aq_t eq_nil and2_some eq_cons ef_some ev_int ev_str ev_bool b_nn b_sn b_nn' b_sn' o_un un_not un_neg o_extract ex_tup o_nilCheck nc_ptr o_len ln_str ln_nil ln_sl ln_slc o_call ca_fn ca_clo c_val c_int c_bool c_str c_nil c_ptr c_sl c_slc c_clo c_agg p_any p_one p_agg h_cons h_len h_at h_at0 h_set h_set0 cset_nil cset_cons cons2_some rs_nil rs_cons rs_tmp rs_cell rc_ptr ret_p ret_g ret_g0 ot_1 ot_2 pv_c pv_agg pvs_nil pvs_int pvs_bool pvs_str pt_nil pt_cons pt2_some fl_nil fl_cons fl2_some o_build bd_some ag_some fs_nil fs_cons o_buildSlice bs_some bs2_some bs3_some rep_zero rep_succ le_maxLen o_makeSlice mk_some mk2_some bd_none bd_int o_slice sl_str ss_some sl_sl cap_nil cap_cons cap2_some o_makeFunc mf_some o_convert cv_int ci_some cv_str cs_ss cs_sb cv_sl cv_slc cv_nil sb_some so_some is_nil is_cons ics2_some o_append ap_some ap3_some row_sl row_slc row_nil row_str rw_some kill_len kill_app kill_app0 kill_cons o_min o_max mm_f mm_t d_nil d_cons d_op d_want held_some d_tk d_tw tk_v tk_l tw_tt tw_ff tw_tf tw_ft tw_u t_move t_assign t_pick tp_t tp_f vl_some t_load tl_ptr t_fieldAddr tf_ptr t_indexAddr ti_sl t_bin tb_add tb_sub tb_mul tb_eql tb_neq tb_lss tb_leq tb_gtr tb_geq t_un tu_not t_extract t_len tn_str tn_nil tn_sl te_tup mv_c mv_sl mv_sl0 mv_one mv_agg mv_tup mvs_nil mvs_cons at_int at_bool at_str at_sl at_sl0 at_one at_agg at_tup ats_nil ats_cons
attribute [local go_sem] List.map_cons List.map_nil List.getElem?_cons_zero List.getElem?_cons_succ Option.map_some List.length_cons List.length_nil List.cons_append List.nil_append ds_mk Option.bind_some List.set_cons_zero List.set_cons_succ List.getElem?_toArray List.size_toArray Array.size_empty List.forall_mem_cons List.drop_zero List.drop_succ_cons List.take_succ_cons List.take_zero List.take_nil Nat.le_refl Option.isSome_some ne_eq not_false_eq_true Bool.and_true Bool.true_or Bool.false_or Bool.or_false Bool.or_true List.not_mem_nil false_implies implies_true Int.toNat_natCast Int.natCast_nonneg ite_true if_true true_and and_true and_self Nat.add_zero Nat.zero_add
attribute [local go_sem] ag2 sz2 by2 ze2 ki2 us2 ag3 sz3 by3 ze3 ki3 us3 ag4 sz4 by4 ze4 bo4 ag5 sz5 by5 ze5 ki5 us5 ag6 sz6 by6 ze6 ki6 us6 ag7 sz7 by7 ze7 of7_0 of7_1 of7_2 of7_3 pl7 eq7 ag8 sz8 by8 ze8 of8_0 of8_1 of8_2 of8_3 pl8 eq8 ag9 sz9 by9 ze9 el9 st9 ag10 sz10 by10 ze10 el10 st10 ag11 sz11 by11 ze11 el11 st11 ag12 sz12 by12 ze12 ki12 us12 ag13 sz13 by13 ze13 of13_0 of13_1 pl13 ag14 sz14 by14 ze14 of14_0 of14_1 pl14 ag15 sz15 by15 ag16 sz16 by16 ag17 sz17 by17 ag18 sz18 by18 of18_0 pl18 ag19 sz19 by19 of19_0 pl19 ag21 sz21 by21 ze21 ki21 us21 ag22 sz22 by22 ze22 of22_0 of22_1 of22_2 of22_3 pl22 eq22 ag23 sz23 by23 ze23 of23_0 of23_1 of23_2 of23_3 pl23 eq23 ag26 sz26 by26 ze26 of26_0 of26_1 of26_2 of26_3 pl26 eq26 ag29 sz29 by29 ze29 el29 st29 ag30 sz30 by30 ze30 of30_0 of30_1 pl30 ag31 sz31 by31 ze31 of31_0 of31_1 pl31 ag33 sz33 by33 ze33 el33 st33 ag35 sz35 by35 ze35 el35 st35 ag36 sz36 by36 ze36 of36_0 of36_1 pl36 ag37 sz37 by37 ze37 of37_0 of37_1 pl37 ag47 sz47 by47 ze47 el47 st47 ag54 sz54 by54 ze54 el54 st54 ag75 sz75 by75 ze75 of75_0 of75_1 of75_2 pl75 eq75 ag76 sz76 by76 ze76 of76_0 of76_1 of76_2 pl76 eq76 ag83 sz83 by83 ag97 sz97 by97 ze97 of97_0 of97_1 of97_2 pl97 eq97
set_option maxRecDepth 100000
theorem c74 (k : Int) (h : AH) (K : AV → AH → Prop) (hk1 : k ≤ 4000000000) (hk : ∀ s, K (.one (.c (.string s))) h) : ACalls Try.prog 74 [.one (.c (.int .i64 k))] h K := by
  refine acall_p Try.f74.results.toList mixed Try.func74 rfl rfl (by kernel_rfl) ?_
  intro Q hQ
  simp only [go_sem, Nat.reduceBEq, Nat.reduceAdd, Nat.reduceLeDiff, Nat.reduceMul, Nat.reduceSub, Nat.reduceLT, Int.reduceEq]
  refine c_split (fun hb => ?_) (fun hb => ?_) <;> simp only [go_sem, Nat.reduceBEq, Nat.reduceAdd, Nat.reduceLeDiff, Nat.reduceMul, Nat.reduceSub, Nat.reduceLT, Int.reduceEq, hb]
  · refine hQ _ _ ?_
    simp only [go_sem, Nat.reduceBEq, Nat.reduceAdd, Nat.reduceLeDiff, Nat.reduceMul, Nat.reduceSub, Nat.reduceLT, Int.reduceEq, Try.f74]
    exact hk _
  · have hk0 := of_decide_eq_false hb
    refine loop_at (fun k' f h1 => ∃ (cur : Int) (out : ByteArray), k' = cur.toNat ∧ 0 ≤ cur ∧ (out.size : Int) + cur ≤ k ∧ f 0 = .one (.c (.int .i64 cur)) ∧ f 3 = .one (.c (.string out)) ∧ ∃ ext, h1 = h ++ ext) k.toNat ?_ ?_
    · refine ⟨k, ⟨#[]⟩, rfl, by omega, ?_, by simp only [go_sem, Nat.reduceBEq, Nat.reduceAdd, Nat.reduceLeDiff, Nat.reduceMul, Nat.reduceSub, Nat.reduceLT, Int.reduceEq], by simp only [go_sem, Nat.reduceBEq, Nat.reduceAdd, Nat.reduceLeDiff, Nat.reduceMul, Nat.reduceSub, Nat.reduceLT, Int.reduceEq], [], by simp⟩
      show ((0 : Nat) : Int) + k ≤ k
      omega
    · rintro k' f h1 J hJ ⟨cur, out, rfl, hc0, hsz, e0, e3, ext, rfl⟩
      simp only [go_sem, Nat.reduceBEq, Nat.reduceAdd, Nat.reduceLeDiff, Nat.reduceMul, Nat.reduceSub, Nat.reduceLT, Int.reduceEq, e0, e3]
      refine c_split (fun hb => ?_) (fun hb => ?_) <;> simp only [go_sem, Nat.reduceBEq, Nat.reduceAdd, Nat.reduceLeDiff, Nat.reduceMul, Nat.reduceSub, Nat.reduceLT, Int.reduceEq, hb, e0, e3]
      · have hp := of_decide_eq_true hb
        have hs1 : (strOfNums [IntKind.wrap .u8 (wrap64 (48 + cur.tmod 10))]).size + out.size ≤ 9223372036854775807 := by
          rw [strOfNums_size]; simp; omega
        have hd : cur.tdiv 10 = cur / 10 := Int.tdiv_eq_ediv_of_nonneg hc0
        have hw : wrap64 (cur / 10) = cur / 10 := by unfold wrap64; omega
        simp only [go_sem, Nat.reduceBEq, Nat.reduceAdd, Nat.reduceLeDiff, Nat.reduceMul, Nat.reduceSub, Nat.reduceLT, Int.reduceEq, hb, e0, e3, le_maxLen, hs1]
        refine hJ (cur / 10).toNat _ _ (by omega) ⟨cur / 10, strOfNums [IntKind.wrap .u8 (wrap64 (48 + cur.tmod 10))] ++ out, rfl, by omega, ?_, by simp only [go_sem, Nat.reduceBEq, Nat.reduceAdd, Nat.reduceLeDiff, Nat.reduceMul, Nat.reduceSub, Nat.reduceLT, Int.reduceEq, hd, hw], by simp only [go_sem, Nat.reduceBEq, Nat.reduceAdd, Nat.reduceLeDiff, Nat.reduceMul, Nat.reduceSub, Nat.reduceLT, Int.reduceEq], _, rfl⟩
        rw [ByteArray.size_append, strOfNums_size]
        simp
        omega
      · have hs2 : (ByteArray.mk #[109]).size + out.size ≤ 9223372036854775807 := by
          show 1 + out.size ≤ _
          omega
        rw [b_sadd (hs := hs2)]
        simp only [go_sem, Nat.reduceBEq, Nat.reduceAdd, Nat.reduceLeDiff, Nat.reduceMul, Nat.reduceSub, Nat.reduceLT, Int.reduceEq]
        refine hQ _ _ ?_
        simp only [go_sem, Nat.reduceBEq, Nat.reduceAdd, Nat.reduceLeDiff, Nat.reduceMul, Nat.reduceSub, Nat.reduceLT, Int.reduceEq, Try.f74]
        exact hk _
theorem pvs_set : ∀ (cs : List CV) (i : Nat) (v : Value), v.oneCell' = true → pvs cs = true → pvs (cs.set i (.c v)) = true
  | [], _, _, _, _ => rfl
  | .c u :: r, 0, v, hv, hp => by simp only [pvs, Bool.and_eq_true] at hp; simp [pvs, hv, hp.2]
  | .c u :: r, i + 1, v, hv, hp => by
    simp only [pvs, Bool.and_eq_true] at hp
    simp only [List.set_cons_succ, pvs, hp.1, pvs_set r i v hv hp.2, Bool.and_self]
  | .ptr _ _ :: _, _, _, _, hp => by simp [pvs] at hp
  | .sl _ _ _ _ :: _, _, _, _, hp => by simp [pvs] at hp
  | .slc _ _ _ _ :: _, _, _, _, hp => by simp [pvs] at hp
  | .clo _ _ :: _, _, _, _, hp => by simp [pvs] at hp
theorem c65 (l n : Nat) (full : Bool) (cs : List CV) (k : Int) (h : AH) (K : AV → AH → Prop) (hl : h[l]? = some (.own 76 3 full cs)) (hcs : cs.length = n * 3) (hp : pvs cs = true) (hn : n ≤ 1000000000) (hk0 : 0 ≤ k) (hk1 : k ≤ 1000000000)
    (hk : ∀ cs', cs'.length = n * 3 → pvs cs' = true → K (.one (.c (.int .i64 (k + 3 * n)))) (h.set l (.own 76 3 full cs'))) : ACalls Try.prog 65 [.one (.sl l 3 0 n), .one (.c (.int .i64 k))] h K := by
  refine acall_m Try.f65.results.toList mixed Try.func65 rfl rfl (by kernel_rfl) ?_
  intro Q hQ hQM
  simp only [go_sem, Nat.reduceBEq, Nat.reduceAdd, Nat.reduceLeDiff, Nat.reduceMul, Nat.reduceSub, Nat.reduceLT, Int.reduceEq]
  refine loop_at (fun k' f h1 => ∃ (i : Nat) (cs' : List CV), k' = n - i ∧ i ≤ n ∧ cs'.length = n * 3 ∧ pvs cs' = true ∧ f 0 = .one (.sl l 3 0 n) ∧ f 1 = .one (.c (.int .i64 (k + 3 * i))) ∧ f 5 = .one (.c (.int .i64 i)) ∧ h1 = h.set l (.own 76 3 full cs')) n ?_ ?_
  · refine ⟨0, cs, rfl, Nat.zero_le _, hcs, hp, ?_⟩
    simp only [go_sem, Nat.reduceBEq, Nat.reduceAdd, Nat.reduceLeDiff, Nat.reduceMul, Nat.reduceSub, Nat.reduceLT, Int.reduceEq, set_same hl]
    simp
  · rintro k' f h1 J hJ ⟨i, cs', rfl, hi, hcl, hpc, e0, e1, e5, rfl⟩
    simp only [go_sem, Nat.reduceBEq, Nat.reduceAdd, Nat.reduceLeDiff, Nat.reduceMul, Nat.reduceSub, Nat.reduceLT, Int.reduceEq, e0, e1, e5]
    refine c_split (fun hb => ?_) (fun hb => ?_) <;> simp only [go_sem, Nat.reduceBEq, Nat.reduceAdd, Nat.reduceLeDiff, Nat.reduceMul, Nat.reduceSub, Nat.reduceLT, Int.reduceEq, hb, e0, e1, e5]
    · have hi : i < n := by simpa using hb
      have g1 : i * 3 + 1 ≤ cs'.length := by omega
      have g2 : i * 3 + 1 + 1 ≤ cs'.length := by omega
      have g3 : i * 3 + 2 + 1 ≤ cs'.length := by omega
      have w1 : wrap64 (k + 3 * (i : Int) + 1) = k + 3 * i + 1 := by unfold wrap64; omega
      have w2 : wrap64 (k + 3 * (i : Int) + 1 + 1) = k + 3 * i + 2 := by unfold wrap64; omega
      have w3 : wrap64 (k + 3 * (i : Int) + 2 + 1) = k + 3 * ((i + 1 : Nat) : Int) := by unfold wrap64; omega
      have w4 : wrap64 ((i : Int) + 1) = ((i + 1 : Nat) : Int) := by unfold wrap64; omega
      simp only [go_sem, Nat.reduceBEq, Nat.reduceAdd, Nat.reduceLeDiff, Nat.reduceMul, Nat.reduceSub, Nat.reduceLT, Int.reduceEq, e0, e1, e5, Int.ofNat_lt, hi, set_at hl, g1, List.set_set, w1]
      refine c74 _ _ _ (by omega) (fun s1 => ?_)
      simp only [go_sem, Nat.reduceBEq, Nat.reduceAdd, Nat.reduceLeDiff, Nat.reduceMul, Nat.reduceSub, Nat.reduceLT, Int.reduceEq, e0, e1, e5, Int.ofNat_lt, hi, set_at hl, g1, g2, List.set_set, List.length_set, w1, w2]
      refine c74 _ _ _ (by omega) (fun s2 => ?_)
      simp only [go_sem, Nat.reduceBEq, Nat.reduceAdd, Nat.reduceLeDiff, Nat.reduceMul, Nat.reduceSub, Nat.reduceLT, Int.reduceEq, e0, e1, e5, Int.ofNat_lt, hi, set_at hl, g1, g2, g3, List.set_set, List.length_set, w1, w2, w3, w4]
      refine hJ (n - (i + 1)) _ _ (by omega) ⟨i + 1, _, rfl, hi, ?_, ?_, by simp only [go_sem, Nat.reduceBEq, Nat.reduceAdd, Nat.reduceLeDiff, Nat.reduceMul, Nat.reduceSub, Nat.reduceLT, Int.reduceEq, e0], by simp only [go_sem, Nat.reduceBEq, Nat.reduceAdd, Nat.reduceLeDiff, Nat.reduceMul, Nat.reduceSub, Nat.reduceLT, Int.reduceEq], by simp only [go_sem, Nat.reduceBEq, Nat.reduceAdd, Nat.reduceLeDiff, Nat.reduceMul, Nat.reduceSub, Nat.reduceLT, Int.reduceEq], rfl⟩
      · simp [hcl]
      · exact pvs_set _ _ _ rfl (pvs_set _ _ _ rfl (pvs_set _ _ _ rfl hpc))
    · have : i = n := by simp at hb; omega
      subst this
      refine hQM _ _ (retM0 (by simp only [go_sem, Nat.reduceBEq, Nat.reduceAdd, Nat.reduceLeDiff, Nat.reduceMul, Nat.reduceSub, Nat.reduceLT, Int.reduceEq, Try.f65]; rfl) hpc (by simp only [go_sem, Nat.reduceBEq, Nat.reduceAdd, Nat.reduceLeDiff, Nat.reduceMul, Nat.reduceSub, Nat.reduceLT, Int.reduceEq]) ?_)
      simp only [go_sem, Nat.reduceBEq, Nat.reduceAdd, Nat.reduceLeDiff, Nat.reduceMul, Nat.reduceSub, Nat.reduceLT, Int.reduceEq]
      exact hk _ hcl hpc
theorem c22 (room : Int) (l n : Nat) (full : Bool) (cs : List CV) (k : Int) (h : AH) (K : AV → AH → Prop) (hl : h[l]? = some (.own 76 3 full cs)) (hcs : cs.length = n * 3) (hp : pvs cs = true) (hn : n ≤ 1000000000) (hk0 : 0 ≤ k) (hk1 : k ≤ 1000000000)
    (hk : ∀ cs', cs'.length = n * 3 → K (.one (.c (.int .i64 (k + 3 * n)))) (h.set l (.own 76 3 full cs'))) : ACalls Try.prog 22 [.agg [.c (.int .i64 room), .sl l 3 0 n], .one (.c (.int .i64 k))] h K := by
  have hlt := (List.getElem?_eq_some_iff.1 hl).1
  refine acall_m Try.f22.results.toList mixed Try.func22 rfl rfl (by kernel_rfl) ?_
  intro Q hQ hQM
  simp only [go_sem, Nat.reduceBEq, Nat.reduceAdd, Nat.reduceLeDiff, Nat.reduceMul, Nat.reduceSub, Nat.reduceLT, Int.reduceEq]
  refine c65 _ _ full cs _ _ _ (h_old _ hl) hcs hp hn hk0 hk1 (fun cs' hc hpc => ?_)
  simp only [go_sem, Nat.reduceBEq, Nat.reduceAdd, Nat.reduceLeDiff, Nat.reduceMul, Nat.reduceSub, Nat.reduceLT, Int.reduceEq, List.set_append_left _ _ hlt]
  refine hQM _ _ (retM _ (by simp only [go_sem, Nat.reduceBEq, Nat.reduceAdd, Nat.reduceLeDiff, Nat.reduceMul, Nat.reduceSub, Nat.reduceLT, Int.reduceEq, Try.f22]; rfl) hpc (by simp only [go_sem, Nat.reduceBEq, Nat.reduceAdd, Nat.reduceLeDiff, Nat.reduceMul, Nat.reduceSub, Nat.reduceLT, Int.reduceEq]) ?_)
  simp only [go_sem, Nat.reduceBEq, Nat.reduceAdd, Nat.reduceLeDiff, Nat.reduceMul, Nat.reduceSub, Nat.reduceLT, Int.reduceEq]
  exact hk _ hc
theorem SeesF_new {H : AH} {l : Nat} {full : Bool} {fs : List FileL} (hl : H[l]? = some (.own 76 3 full (filesC fs))) : SeesF H (.sl l 3 0 fs.length) fs :=
  .inr ⟨l, 0, _, rfl, hl, by simp [AO.cs, filesC_len], by simp only [AO.cs, List.drop_zero]; rw [List.take_of_length_le (by rw [filesC_len]; exact Nat.le_refl _)]⟩
theorem SeesI_new {H : AH} {l n : Nat} {full : Bool} {ns : List Int} (hl : H[l]? = some (.own 3 1 full (intsC ns))) (hn : ns.length = n) : SeesI H (.sl l 1 0 n) ns := by
  subst hn
  have : (intsC ns).length = ns.length := by simp [intsC]
  exact .inr ⟨l, 0, _, rfl, hl, by simp [AO.cs, this], by simp only [AO.cs, List.drop_zero]; rw [List.take_of_length_le (by rw [this]; exact Nat.le_refl _)]⟩
theorem segsFrom_len (fs : List FileL) : ∀ k seg, (segsFrom fs k seg).length ≤ k
  | 0, _ => by simp [segsFrom]
  | k + 1, seg => by
    rw [segsFrom]
    split
    · have := segsFrom_len fs k (after seg); simp; omega
    · simp
theorem segsOf_len (room : Int) (fs : List FileL) (seg : Int) : (segsOf room fs seg).length ≤ 1000000000 := by
  unfold segsOf
  split
  · have := segsFrom_len fs 20 seg; omega
  · simp
end Go.Proofs.Ytjfmfcdempkpdaa
