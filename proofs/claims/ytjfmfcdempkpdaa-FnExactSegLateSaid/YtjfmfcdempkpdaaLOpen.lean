/- Open: a law's disk and a law's row of numbers, laid open. Conditions: none. -/
import Derived.Test.YtjfmfcdempkpdaaLF
import Derived.Test.YtjfmfcdempkpdaaLT
import Derived.Test.YtjfmfcdempkpdaaLMark
import Derived.Test.YtjfmfcdempkpdaaLE
namespace Go.Proofs.Ytjfmfcdempkpdaa
open Go.BL Go.RowKit
set_option linter.unusedVariables false
set_option linter.unusedSimpArgs false
attribute [local go_sem] g_skip g_region g_draw g_seq g_cond g_block g_loop g_exit g_ret n_nil n_seq n_seq_e n_seq_r n_inv n_jn n_jn_e n_jn_r n_inv_e n_inv_r n_blk n_blk_r n_blk_e n_blk_ne c_true c_false r_nil r_cons r_want w_tt w_ff w_tf w_ft w_u k0_some k0_none ds_mk gs_at gs_some k_some k_none ho_t ho_nil ho_s ho_w ho0_t ho0_nil ho0_s ho0_w kl_some kl_none kl_dr kl_dr_none k_dr k_dr_none k0_dr k0_dr_none as_nil as_cons tc_store tc_call tcc tc_append tc_pt tc_sl tc_nl tc_box tc_alloc tc_build tc_load tc_bin tc_slice tc_convert tc_buildSlice tc_makeFunc tc_index tc_indexAddr tc_fieldAddr tc_field tc_pick tc_move tc_assign tc_makeSlice tc_nilCheck tc_len tc_min tc_max tc_un tc_extract cl_c cl_im cl_nl cl_emp cl_clo cl_agg clb_c clb_im clb_nl clb_emp clb_clo u_eq u_ne e_tmp e_const e_func v_int v_bool v_string v_nil v_nilFunc v_nilIface f_zero f_succ On_some o_move o_assign o_pick pick_t pick_f o_alloc new_some o_box box_some v_some objA_at obA_own objR_at obR_own obR_ro ldE_some ldR_some o_load load_pt load_pel o_store store_pt set_some stE_some pt_t o_fieldAddr fa_pt fa_pel o_field fd_agg o_indexAddr ia_sl iaO_some ia_im iaE_some o_index ix_str nq_e nq_n nq_e0 nq_n0 is_nl is_emp is_im is_sl fr_nl fr_emp fr_im fr_sl nq_nl nq_emp nq_im0 nq_im nq_imc nq_sl0 nq_sl nq_sls o_bin b_add b_sub b_mul b_quo b_rem b_eql b_neq b_lss b_leq b_gtr b_geq b_beql b_bneq b_seql b_sneq b_sadd b_aeql b_aneq aq_f aq_t eq_nil and2_some eq_cons ef_some ev_int ev_str ev_bool b_and b_or b_xor b_shl b_shr b_nil o_un un_not un_neg o_extract ex_tup o_nilCheck nc_pt nc_pel o_len ln_str ln_nl ln_emp ln_im ln_sl o_call ca_fn ca_clo c_val c_int c_bool c_str c_nl c_emp c_im c_pt c_pel c_sl c_clo c_agg p_any p_one p_agg h_cons h_len h_at h_at0 h_set h_set0 cset_nil cset_cons im_c im_nl im_emp im_im im_pel im_sl im_clo im_agg imv_c imv_nl imv_emp imv_im imv_sl imS_some imS_all clz_c clz_im clz_nl lo_c lo_nl lo_emp lo_im lo_pel lo_pt lo_sl lo_clo lo_agg lv_c lv_nl lv_emp lv_im lv_sl fz_nil fz_cons frO2_some frO_own frO_ro pl_c pl_im pl_sl pl_agg pl_tup pl1_c pl1_im pl1_sl pl1_agg plc_c plc_im plc_nl plc_sl sh_1 sh_agg sh_tup sh1_1 sh1_agg shv_c shv_nl shv_emp shv_im shv_sl sho_own pt_nil pt_cons pt2_some fl_nil fl_cons fl2_some o_build bd_some ag_some fe_nil fe_cons o_buildSlice bs_some bs2_some bs3_some le_maxLen o_makeSlice mk_some mk2_some bd_none bd_int o_slice sl_str ss_some sl_im si_some sl_im3 se_some sl_se sxe_some sx_a sx_0 cap_nil cap_cons cap2_some o_makeFunc mf_some o_convert cv_int ci_some cv_str cs_ss cs_sb cv_sl cv_im cv_nl cv_emp sb_some so_some o_append ap_some ap3_some src_at srB_t srB_i row_sl rw_some rw_all row_nl row_emp row_im row_str ks_nil ks_cons ks_map ks_app ks_bytes o_copy o_clear cr_im0 cr_nl cr_emp o_cap cg_nl cg_emp o_min o_max mm_f mm_t d_nil d_cons d_op d_want held_p held_s held_ro d_tk d_tw tk_v tk_l tw_tt tw_ff tw_tf tw_ft tw_u t_move t_assign t_slice ts_sl tsE_some tsS_some tsS_0 ts_str tsT_some ts_im tsI_some tagB_some t_build tbd_some tkN_t t_nilCheck tnc_pt tnc_pel t_pick tp_t tp_f vl_some t_load tl_pt tl_pel tfB_t t_fieldAddr tf_pt tf_pel t_indexAddr ti_sl tiO_some ti_im tiE_some t_bin tb_add tb_sub tb_mul tb_eql tb_neq tb_lss tb_leq tb_gtr tb_geq t_un tu_not t_extract t_len tn_str tn_nl tn_emp tn_im tn_sl t_convert tcg_int tb_seql tb_sneq tb_sadd tb_beql tb_bneq tb_and tb_or tb_shl tb_shr tb_rem tb_quo te_tup clE_nil clE_cons clE_map clE_app clE_bytes clz_E shV_E rs_nil rs_cons cons2_some rs_tmp rs_cell rc_pt ot_1 ot_2 ot_0 ret_i ri_some ret_o ro_some nt_1 nt_agg ra_tup ra_1 ra_agg rt_tup rt_1 rt_agg rna_c rna_nl rna_im rna_sl rna_agg rnv_c rnv_nl rnv_im rnv_sl rnS_some rnS_none stL_nil stL_cons stL_map stL_app stL_bytes st_c st_im rno_own rno_none tr_at tr_c tr_nl tr_im tr_sl tr_pt tr_agg trv_c trv_im trv_nl trv_sl lt_own lt_ro lt_dead lte_nil lte_cons lte_cl ltv_c ltv_nl ltv_im ltv_sl ltv_pt cc_p cc_n ccI_t ccI_f cc_o fe_c fe_im fe_sl fe_agg fe_tup fe1_c fe1_im fe1_sl fe1_agg fec_c fec_im fec_sl fec_nl feo_own feo_dead fee_nil fee_cons fee_app fee_map ag_nil ag_cons bo_nil bo_cons bo_map
attribute [local go_sem] List.map_cons List.map_nil List.getElem?_cons_zero List.getElem?_cons_succ List.getElem?_nil Option.map_some Option.map_none List.length_cons List.length_nil List.cons_append List.nil_append ds_mk Option.bind_some List.set_cons_zero List.set_cons_succ List.getElem?_toArray List.size_toArray Array.size_empty List.forall_mem_cons List.drop_zero List.drop_succ_cons List.take_succ_cons List.take_zero List.take_nil Nat.le_refl Option.isSome_some ne_eq not_false_eq_true Bool.and_true Bool.true_and Bool.true_or Bool.false_or Bool.or_false Bool.or_true Bool.false_and Bool.and_false Bool.not_true Bool.not_false List.not_mem_nil false_implies implies_true Int.toNat_natCast Int.natCast_nonneg ite_true ite_false if_true if_false Bool.false_eq_true true_and and_true and_self Nat.add_zero Nat.zero_add List.flatMap_cons List.flatMap_nil List.append_nil List.all_cons List.all_nil List.getElem?_map List.length_map Nat.zero_lt_one List.replicate_succ List.replicate_zero List.length_append List.length_set decide_true decide_false List.set_set
attribute [local go_sem] ag2 sz2 by2 ze2 el2 st2 ki2 us2 ag3 sz3 by3 ze3 el3 st3 ki3 us3 ag4 sz4 by4 ze4 bo4 ag5 sz5 by5 ze5 el5 st5 ki5 us5 ag6 sz6 by6 ze6 el6 st6 ki6 us6 ag7 sz7 by7 ze7 of7_0 of7_1 of7_2 of7_3 pl7 eq7 ag8 sz8 by8 ze8 of8_0 of8_1 of8_2 of8_3 pl8 eq8 ag9 sz9 by9 ze9 el9 st9 ag10 sz10 by10 ze10 el10 st10 ag11 sz11 by11 ze11 el11 st11 ag12 sz12 by12 ze12 el12 st12 ki12 us12 ag13 sz13 by13 ze13 of13_0 of13_1 pl13 ag14 sz14 by14 ze14 of14_0 of14_1 pl14 ag15 sz15 by15 ag16 sz16 by16 ag17 sz17 by17 ag18 sz18 by18 of18_0 pl18 ag19 sz19 by19 of19_0 pl19 ag21 sz21 by21 ze21 el21 st21 ki21 us21 ag22 sz22 by22 ze22 of22_0 of22_1 of22_2 of22_3 pl22 eq22 ag23 sz23 by23 ze23 of23_0 of23_1 of23_2 of23_3 pl23 eq23 ag26 sz26 by26 ze26 of26_0 of26_1 of26_2 of26_3 pl26 eq26 ag29 sz29 by29 ze29 el29 st29 ag30 sz30 by30 ze30 of30_0 of30_1 pl30 ag31 sz31 by31 ze31 of31_0 of31_1 pl31 ag33 sz33 by33 ze33 el33 st33 ag35 sz35 by35 ze35 el35 st35 ag36 sz36 by36 ze36 of36_0 of36_1 pl36 ag37 sz37 by37 ze37 of37_0 of37_1 pl37 ag47 sz47 by47 ze47 el47 st47 ag54 sz54 by54 ze54 el54 st54 ag75 sz75 by75 ze75 of75_0 of75_1 of75_2 pl75 eq75 ag76 sz76 by76 ze76 of76_0 of76_1 of76_2 pl76 eq76 ag83 sz83 by83 ag97 sz97 by97 ze97 of97_0 of97_1 of97_2 pl97 eq97 ag105 sz105 by105 ze105 el105 st105 ki105 us105 ag111 sz111 by111 ze111 of111_0 of111_1 of111_2 pl111 ag112 sz112 by112 ze112 of112_0 of112_1 of112_2 pl112 ag115 sz115 by115 ag120 sz120 by120 ze120 el120 st120 ag125 sz125 by125 of125_0 of125_1 of125_2 of125_3 pl125 ag126 sz126 by126 of126_0 of126_1 of126_2 of126_3 pl126 ag131 sz131 by131 ze131 el131 st131 ki131 us131 ag132 sz132 by132 ze132 el132 st132 ki132 us132 ag133 sz133 by133 ze133 el133 st133 ki133 us133 ag135 sz135 by135 ag136 sz136 by136 ze136 el136 st136 ki136 us136 ag137 sz137 by137 ze137 el137 st137 ki137 us137 ag138 sz138 by138 of138_0 of138_1 of138_2 of138_3 of138_4 of138_5 of138_6 of138_7 of138_8 of138_9 of138_10 pl138 ag139 sz139 by139 of139_0 of139_1 of139_2 of139_3 of139_4 of139_5 of139_6 of139_7 of139_8 of139_9 of139_10 pl139
set_option maxRecDepth 100000
attribute [local go_sem] fileC_cl fileC_st fileC_clE fileC_stL fileC_ltE fileC_clz fileC_shV fileC_snoc fileC_ks fileC_tk fileC_fr fileC_set fileC_rep intC_cl intC_st intC_clE intC_stL intC_ltE intC_clz intC_shV intC_snoc intC_ks intC_tk intC_fr intC_set intC_rep
open Go.ChangeShapes Go.WideShapes Go.ChangeAt Go.Joins Go.Deep
section
variable {H : Type} {enc0 : TypeId × Value → H} {W : World} {hd : Bool}
def goodF (f : File) : Prop := f.safe.size ≤ 1000000000000000 ∧ f.late.size ≤ 1000000000000000
instance : Inhabited File := ⟨⟨0, ⟨#[]⟩, ⟨#[]⟩⟩⟩
theorem elem_file : Elem enc0 Try.prog W hd 97 fileC goodF := fun fuel cs x hl h hw => by
  have hc : Try.prog.cellsOf 97 = 3 := by kernel_rfl
  rw [hc] at hl
  match cs, hl with
  | [u, v, w], _ =>
    obtain ⟨y0, y1, y2, m, rfl, _, h0, h1, h2⟩ := trod_struct3 Try.underlying97 h
    have e3 : Try.prog.cellsOf 3 = 1 := by kernel_rfl
    have e9 : Try.prog.cellsOf 9 = 1 := by kernel_rfl
    simp only [e3, e9, List.drop_zero, List.drop_succ_cons, List.take_succ_cons, List.take_zero] at h0 h1 h2
    obtain ⟨a, rfl, _⟩ := one_int Try.underlying3 h0
    obtain ⟨b, hb, eb, _⟩ := DataW.trod_string Try.underlying9 h1
    obtain ⟨c, hc, ec, _⟩ := DataW.trod_string Try.underlying9 h2
    simp at hb hc
    subst hb hc
    refine ⟨⟨a, b, c⟩, ⟨rfl, fun j z hj => ?_⟩, reach_le (hw _ (by rw [eb]; simp [DataW.weights, Try.underlying97, DataW.weightsEach])), reach_le (hw _ (by rw [ec]; simp [DataW.weights, Try.underlying97, DataW.weightsEach]))⟩
    rcases j with _ | _ | _ | j
    · simp [fileC] at hj; subst hj; exact ⟨_, rfl, .c _ rfl⟩
    · simp [fileC] at hj; subst hj; exact ⟨_, rfl, .c _ rfl⟩
    · simp [fileC] at hj; subst hj; exact ⟨_, rfl, .c _ rfl⟩
    · simp [fileC] at hj
theorem open_disk {v : Value} {d : DataW H} {p : List MemPlace} (hok : Value.okWide Try.prog W .any 0 31 v) (h : DataW.Trod enc0 Try.prog W 0 (fun _ => true) hd 31 v d p) (hw : ∀ n ∈ d.weights Try.prog 31, n ≤ reachBytes) :
    ∃ d' : Disk, VA (fun _ => none) (MW W) (.agg (diskC d')) v ∧ SizedF d'.files ∧ d'.files.length ≤ 1000000000000000 := by
  obtain ⟨v0, v1, y0, y1, m, rfl, rfl, _, e0, e1⟩ := open_agg2 Try.underlying31 (by kernel_rfl) (by kernel_rfl) hok h
  obtain ⟨room, rfl, _⟩ := one_int Try.underlying3 e0
  have hok1 := struct_cell (i := 1) Try.underlying31 (ts := [3, 29]) (by kernel_rfl) hok rfl rfl rfl
  obtain ⟨xs, hx, hl, hg⟩ := open_row (k := 3) Try.underlying29 (by kernel_rfl) fileC_len (of_decide_eq_true (by kernel_rfl)) hok1 e1 (fun n hn => hw n (by
    simp only [DataW.weights, Try.underlying31, List.map_cons, List.map_nil, DataW.weightsEach]
    exact List.mem_append_right _ (List.mem_append_left _ hn))) elem_file
  refine ⟨⟨room, xs⟩, ⟨[.int .i64 room, v1], rfl, rfl, fun j x hj => ?_⟩, hg, hl⟩
  rcases j with _ | _ | j
  · simp [diskC] at hj; subst hj; exact ⟨_, rfl, .c _ rfl⟩
  · simp [diskC] at hj; subst hj; exact ⟨_, rfl, hx⟩
  · simp [diskC] at hj
theorem open_ints {v : Value} {d : DataW H} {p : List MemPlace} (hok : Value.okWide Try.prog W .any 0 33 v) (h : DataW.Trod enc0 Try.prog W 0 (fun _ => true) hd 33 v d p) (hw : ∀ n ∈ d.weights Try.prog 33, n ≤ reachBytes) :
    ∃ xs : List Int, VA (fun _ => none) (MW W) (.one (.im (xs.map intC))) v ∧ xs.length ≤ 1000000000000000 := by
  obtain ⟨fuel, hf⟩ := h
  have hcell := slice_ok Try.underlying33 hok
  have hv : v.cells.toList = [v] := by
    obtain ⟨a, n, c, rfl⟩ := okWide_slice Try.underlying33 hok
    rfl
  rw [hv] at hf
  obtain ⟨xs, hx, hl, _⟩ := open_row (enc := intC) (k := 1) Try.underlying33 (by kernel_rfl) (fun _ => rfl) (of_decide_eq_true (by kernel_rfl)) hcell hf hw (elem_int Try.underlying3 (by kernel_rfl))
  exact ⟨xs, hx, hl⟩
end
end Go.Proofs.Ytjfmfcdempkpdaa
