/- Seal: numbers as bytes, bytes sealed with a check. Conditions: none. -/
import Derived.Test.YtjfmfcdempkpdaaLF
import Derived.Test.YtjfmfcdempkpdaaLT
import Derived.Test.YtjfmfcdempkpdaaLUnseal
namespace Go.Proofs.Ytjfmfcdempkpdaa
open Go.BL Go.RowKit
set_option linter.unusedVariables false
set_option linter.unusedSimpArgs false
attribute [local go_sem] g_skip g_region g_draw g_seq g_cond g_block g_loop g_exit g_ret n_nil n_seq n_seq_e n_seq_r n_inv n_jn n_jn_e n_jn_r n_inv_e n_inv_r n_blk n_blk_r n_blk_e n_blk_ne c_true c_false r_nil r_cons r_want w_tt w_ff w_tf w_ft w_u k0_some k0_none ds_mk gs_at gs_some k_some k_none ho_t ho_nil ho_s ho_w ho0_t ho0_nil ho0_s ho0_w kl_some kl_none kl_dr kl_dr_none k_dr k_dr_none k0_dr k0_dr_none as_nil as_cons tc_store tc_call tcc tc_append tc_pt tc_sl tc_nl tc_box tc_alloc tc_build tc_load tc_bin tc_slice tc_convert tc_buildSlice tc_makeFunc tc_index tc_indexAddr tc_fieldAddr tc_field tc_pick tc_move tc_assign tc_makeSlice tc_nilCheck tc_len tc_min tc_max tc_un tc_extract cl_c cl_im cl_nl cl_emp cl_clo cl_agg clb_c clb_im clb_nl clb_emp clb_clo u_eq u_ne e_tmp e_const e_func v_int v_bool v_string v_nil v_nilFunc v_nilIface f_zero f_succ On_some o_move o_assign o_pick pick_t pick_f o_alloc new_some o_box box_some v_some objA_at obA_own objR_at obR_own obR_ro ldE_some ldR_some o_load load_pt load_pel o_store store_pt set_some stE_some pt_t o_fieldAddr fa_pt fa_pel o_field fd_agg o_indexAddr ia_sl iaO_some ia_im iaE_some o_index ix_str nq_e nq_n nq_e0 nq_n0 is_nl is_emp is_im is_sl fr_nl fr_emp fr_im fr_sl nq_nl nq_emp nq_im0 nq_im nq_imc nq_sl0 nq_sl nq_sls o_bin b_add b_sub b_mul b_quo b_rem b_eql b_neq b_lss b_leq b_gtr b_geq b_beql b_bneq b_seql b_sneq b_sadd b_aeql b_aneq aq_f aq_t eq_nil and2_some eq_cons ef_some ev_int ev_str ev_bool b_and b_or b_xor b_shl b_shr b_nil o_un un_not un_neg o_extract ex_tup o_nilCheck nc_pt nc_pel o_len ln_str ln_nl ln_emp ln_im ln_sl o_call ca_fn ca_clo c_val c_int c_bool c_str c_nl c_emp c_im c_pt c_pel c_sl c_clo c_agg p_any p_one p_agg h_cons h_len h_at h_at0 h_set h_set0 cset_nil cset_cons im_c im_nl im_emp im_im im_pel im_sl im_clo im_agg imv_c imv_nl imv_emp imv_im imv_sl imS_some imS_all clz_c clz_im clz_nl lo_c lo_nl lo_emp lo_im lo_pel lo_pt lo_sl lo_clo lo_agg lv_c lv_nl lv_emp lv_im lv_sl fz_nil fz_cons frO2_some frO_own frO_ro pl_c pl_im pl_sl pl_agg pl_tup pl1_c pl1_im pl1_sl pl1_agg plc_c plc_im plc_nl plc_sl sh_1 sh_agg sh_tup sh1_1 sh1_agg shv_c shv_nl shv_emp shv_im shv_sl sho_own pt_nil pt_cons pt2_some fl_nil fl_cons fl2_some o_build bd_some ag_some fe_nil fe_cons o_buildSlice bs_some bs2_some bs3_some le_maxLen o_makeSlice mk_some mk2_some bd_none bd_int o_slice sl_str ss_some sl_im si_some sl_im3 se_some sl_se sxe_some sx_a sx_0 cap_nil cap_cons cap2_some o_makeFunc mf_some o_convert cv_int ci_some cv_str cs_ss cs_sb cv_sl cv_im cv_nl cv_emp sb_some so_some o_append ap_some ap3_some src_at srB_t srB_i row_sl rw_some rw_all row_nl row_emp row_im row_str ks_nil ks_cons ks_map ks_app ks_bytes o_copy o_clear cr_im0 cr_nl cr_emp o_cap cg_nl cg_emp o_min o_max mm_f mm_t d_nil d_cons d_op d_want held_p held_s held_ro d_tk d_tw tk_v tk_l tw_tt tw_ff tw_tf tw_ft tw_u t_move t_assign t_slice ts_sl tsE_some tsS_some tsS_0 ts_str tsT_some ts_im tsI_some tagB_some t_build tbd_some tkN_t t_nilCheck tnc_pt tnc_pel t_pick tp_t tp_f vl_some t_load tl_pt tl_pel tfB_t t_fieldAddr tf_pt tf_pel t_indexAddr ti_sl tiO_some ti_im tiE_some t_bin tb_add tb_sub tb_mul tb_eql tb_neq tb_lss tb_leq tb_gtr tb_geq t_un tu_not t_extract t_len tn_str tn_nl tn_emp tn_im tn_sl t_convert tcg_int tb_seql tb_sneq tb_sadd tb_beql tb_bneq tb_and tb_or tb_shl tb_shr tb_rem tb_quo te_tup clE_nil clE_cons clE_map clE_app clE_bytes clz_E shV_E rs_nil rs_cons cons2_some rs_tmp rs_cell rc_pt ot_1 ot_2 ot_0 ret_i ri_some ret_o ro_some nt_1 nt_agg ra_tup ra_1 ra_agg rt_tup rt_1 rt_agg rna_c rna_nl rna_im rna_sl rna_agg rnv_c rnv_nl rnv_im rnv_sl rnS_some rnS_none stL_nil stL_cons stL_map stL_app stL_bytes st_c st_im rno_own rno_none tr_at tr_c tr_nl tr_im tr_sl tr_pt tr_agg trv_c trv_im trv_nl trv_sl lt_own lt_ro lt_dead lte_nil lte_cons lte_cl ltv_c ltv_nl ltv_im ltv_sl ltv_pt cc_p cc_n ccI_t ccI_f cc_o fe_c fe_im fe_sl fe_agg fe_tup fe1_c fe1_im fe1_sl fe1_agg fec_c fec_im fec_sl fec_nl feo_own feo_dead fee_nil fee_cons fee_app fee_map ag_nil ag_cons bo_nil bo_cons bo_map
attribute [local go_sem] List.map_cons List.map_nil List.getElem?_cons_zero List.getElem?_cons_succ List.getElem?_nil Option.map_some Option.map_none List.length_cons List.length_nil List.cons_append List.nil_append ds_mk Option.bind_some List.set_cons_zero List.set_cons_succ List.getElem?_toArray List.size_toArray Array.size_empty List.forall_mem_cons List.drop_zero List.drop_succ_cons List.take_succ_cons List.take_zero List.take_nil Nat.le_refl Option.isSome_some ne_eq not_false_eq_true Bool.and_true Bool.true_and Bool.true_or Bool.false_or Bool.or_false Bool.or_true Bool.false_and Bool.and_false Bool.not_true Bool.not_false List.not_mem_nil false_implies implies_true Int.toNat_natCast Int.natCast_nonneg ite_true ite_false if_true if_false Bool.false_eq_true true_and and_true and_self Nat.add_zero Nat.zero_add List.flatMap_cons List.flatMap_nil List.append_nil List.all_cons List.all_nil List.getElem?_map List.length_map Nat.zero_lt_one List.replicate_succ List.replicate_zero List.length_append List.length_set decide_true decide_false List.set_set
attribute [local go_sem] ag2 sz2 by2 ze2 el2 st2 ki2 us2 ag3 sz3 by3 ze3 el3 st3 ki3 us3 ag4 sz4 by4 ze4 bo4 ag5 sz5 by5 ze5 el5 st5 ki5 us5 ag6 sz6 by6 ze6 el6 st6 ki6 us6 ag7 sz7 by7 ze7 of7_0 of7_1 of7_2 of7_3 pl7 eq7 ag8 sz8 by8 ze8 of8_0 of8_1 of8_2 of8_3 pl8 eq8 ag9 sz9 by9 ze9 el9 st9 ag10 sz10 by10 ze10 el10 st10 ag11 sz11 by11 ze11 el11 st11 ag12 sz12 by12 ze12 el12 st12 ki12 us12 ag13 sz13 by13 ze13 of13_0 of13_1 pl13 ag14 sz14 by14 ze14 of14_0 of14_1 pl14 ag15 sz15 by15 ag16 sz16 by16 ag17 sz17 by17 ag18 sz18 by18 of18_0 pl18 ag19 sz19 by19 of19_0 pl19 ag21 sz21 by21 ze21 el21 st21 ki21 us21 ag22 sz22 by22 ze22 of22_0 of22_1 of22_2 of22_3 pl22 eq22 ag23 sz23 by23 ze23 of23_0 of23_1 of23_2 of23_3 pl23 eq23 ag26 sz26 by26 ze26 of26_0 of26_1 of26_2 of26_3 pl26 eq26 ag29 sz29 by29 ze29 el29 st29 ag30 sz30 by30 ze30 of30_0 of30_1 pl30 ag31 sz31 by31 ze31 of31_0 of31_1 pl31 ag33 sz33 by33 ze33 el33 st33 ag35 sz35 by35 ze35 el35 st35 ag36 sz36 by36 ze36 of36_0 of36_1 pl36 ag37 sz37 by37 ze37 of37_0 of37_1 pl37 ag47 sz47 by47 ze47 el47 st47 ag54 sz54 by54 ze54 el54 st54 ag75 sz75 by75 ze75 of75_0 of75_1 of75_2 pl75 eq75 ag76 sz76 by76 ze76 of76_0 of76_1 of76_2 pl76 eq76 ag83 sz83 by83 ag97 sz97 by97 ze97 of97_0 of97_1 of97_2 pl97 eq97 ag105 sz105 by105 ze105 el105 st105 ki105 us105 ag111 sz111 by111 ze111 of111_0 of111_1 of111_2 pl111 ag112 sz112 by112 ze112 of112_0 of112_1 of112_2 pl112 ag115 sz115 by115 ag120 sz120 by120 ze120 el120 st120 ag125 sz125 by125 of125_0 of125_1 of125_2 of125_3 pl125 ag126 sz126 by126 of126_0 of126_1 of126_2 of126_3 pl126 ag131 sz131 by131 ze131 el131 st131 ki131 us131 ag132 sz132 by132 ze132 el132 st132 ki132 us132 ag133 sz133 by133 ze133 el133 st133 ki133 us133 ag135 sz135 by135 ag136 sz136 by136 ze136 el136 st136 ki136 us136 ag137 sz137 by137 ze137 el137 st137 ki137 us137 ag138 sz138 by138 of138_0 of138_1 of138_2 of138_3 of138_4 of138_5 of138_6 of138_7 of138_8 of138_9 of138_10 pl138 ag139 sz139 by139 of139_0 of139_1 of139_2 of139_3 of139_4 of139_5 of139_6 of139_7 of139_8 of139_9 of139_10 pl139
set_option maxRecDepth 100000
attribute [local go_sem] fileC_cl fileC_st fileC_clE fileC_stL fileC_ltE fileC_clz fileC_shV fileC_snoc fileC_ks fileC_tk fileC_fr fileC_set fileC_rep byteC_cl byteC_st byteC_clE byteC_stL byteC_ltE byteC_clz byteC_shV byteC_snoc byteC_ks byteC_tk byteC_fr byteC_set byteC_rep
/-- The form of a number. -/
def putN (x : Nat) : List UInt8 := if 127 < x then UInt8.ofNat (x % 128 + 128) :: putN (x / 128) else [UInt8.ofNat x]
termination_by x
decreasing_by omega
theorem putN_big {x : Nat} (h : 127 < x) : putN x = UInt8.ofNat (x % 128 + 128) :: putN (x / 128) := by rw [putN, if_pos h]
theorem putN_small {x : Nat} (h : ¬ 127 < x) : putN x = [UInt8.ofNat x] := by rw [putN, if_neg h]
def putNum (x : Int) : List UInt8 := if x < 0 then [] else putN x.toNat
theorem put_step {x out f : Nat} (hx : 127 < x) (hf : x < 128 ^ f) (h : out + f = 9) : ∃ f', f = f' + 1 ∧ x / 128 < 128 ^ f' ∧ out + 1 + f' = 9 := by
  obtain ⟨f', rfl⟩ : ∃ q, f = q + 1 := ⟨f - 1, by cases f; simp at hf; omega; omega⟩
  refine ⟨f', rfl, ?_, by omega⟩
  rw [Nat.pow_succ] at hf
  exact Nat.div_lt_of_lt_mul (by rw [Nat.mul_comm]; exact hf)
theorem put_less {x : Nat} (h : 127 < x) : x / 128 < x := by omega
theorem shr7 (x : Nat) : (x : Int).fdiv (2 ^ min (7 : Int).toNat 64) = ((x / 128 : Nat) : Int) := by
  rw [show (2 : Int) ^ min (7 : Int).toNat 64 = 128 by decide, Int.fdiv_eq_ediv_of_nonneg _ (by decide)]; rfl
theorem and127 (x : Nat) (hx : x < 9223372036854775808) : IntKind.i64.wrap (((BitVec.ofInt IntKind.i64.bits (x : Int) &&& BitVec.ofInt IntKind.i64.bits 127).toNat : Nat) : Int) = ((x % 128 : Nat) : Int) := by
  have h := and_nat x 127 hx (by omega)
  rw [Nat.and_two_pow_sub_one_eq_mod x 7] at h
  exact h
theorem or128 (x : Nat) : IntKind.i64.wrap (((BitVec.ofInt IntKind.i64.bits ((x % 128 : Nat) : Int) ||| BitVec.ofInt IntKind.i64.bits 128).toNat : Nat) : Int) = ((x % 128 + 128 : Nat) : Int) := by
  have h := or_nat (x % 128) 128 (by omega) (by omega)
  have h2 : x % 128 ||| 128 = x % 128 + 128 := or_add (x % 128) 1 1 (by omega)
  rw [h2] at h
  exact h
theorem c_impl_PutNum (x : Int) (hx : x < 9223372036854775808) (K : AV → AH → Prop) (hk : K (.one (.sl 0 0 0 (putNum x).length)) [.own 0 5 1 none ((putNum x).map byteC)]) : ACalls Try.prog 119 [(.one (.c (.int .i64 (x))))] [] K := by
  refine acall_c Try.f119.results.toList mixed Try.func119 rfl rfl (by kernel_rfl) ?_
  intro Q hQ hQO
  simp only [go_sem, eq_self, Nat.reduceBEq, Nat.reduceAdd, Nat.reduceLeDiff, Nat.reduceMul, Nat.reduceSub, Nat.reduceLT, Int.reduceEq, Nat.reduceEqDiff, Int.reduceBEq, byteC]
  (try simp only [go_sem, eq_self, Nat.reduceBEq, Nat.reduceAdd, Nat.reduceLeDiff, Nat.reduceMul, Nat.reduceSub, Nat.reduceLT, Int.reduceEq, Nat.reduceEqDiff, Int.reduceBEq, byteC]); repeat' (first | (with_reducible refine c_split (fun hb => ?_) (fun hb => ?_) <;> try simp only [go_sem, eq_self, Nat.reduceBEq, Nat.reduceAdd, Nat.reduceLeDiff, Nat.reduceMul, Nat.reduceSub, Nat.reduceLT, Int.reduceEq, Nat.reduceEqDiff, Int.reduceBEq, byteC, hb]) | (with_reducible refine w_split (fun hb => ?_) (fun hb => ?_) <;> try simp only [go_sem, eq_self, Nat.reduceBEq, Nat.reduceAdd, Nat.reduceLeDiff, Nat.reduceMul, Nat.reduceSub, Nat.reduceLT, Int.reduceEq, Nat.reduceEqDiff, Int.reduceBEq, byteC, hb]) | (fail))
  · rw [putNum, if_pos (of_decide_eq_true hb)] at hk
    refine hQO [0] _ _ (GC.step (Ghost.nlr 2 (by simp only [go_sem, eq_self, Nat.reduceBEq, Nat.reduceAdd, Nat.reduceLeDiff, Nat.reduceMul, Nat.reduceSub, Nat.reduceLT, Int.reduceEq, Nat.reduceEqDiff, Int.reduceBEq, byteC]) 5 1) (GC.now ?_)) <;> simp only [Try.f119, go_sem, eq_self, Nat.reduceBEq, Nat.reduceAdd, Nat.reduceLeDiff, Nat.reduceMul, Nat.reduceSub, Nat.reduceLT, Int.reduceEq, Nat.reduceEqDiff, Int.reduceBEq, byteC, List.nodup_cons, List.nodup_nil, List.mem_cons, List.not_mem_nil, or_false, not_false_eq_true, List.idxOf?_cons, List.idxOf?_nil, Option.map_none]
    exact hk
  rw [putNum, if_neg (of_decide_eq_false hb)] at hk
  obtain ⟨x0, rfl⟩ : ∃ q : Nat, x = (q : Int) := ⟨x.toNat, by have := of_decide_eq_false hb; omega⟩
  rw [Int.toNat_natCast] at hk
  have h07 : (0 : Int) ≤ 7 := by decide
  refine while_at (α := Nat × List UInt8 × Nat × Nat × Option Nat) (fun ⟨cur, out, n, g, cap⟩ => cur) [] (fun ⟨cur, out, n, g, cap⟩ f h => f 0 = (.one (.c (.int .i64 ((cur : Int))))) ∧ f 3 = .one (.sl 0 g 0 out.length) ∧ h = [.own g 5 1 cap (out.map byteC)] ∧ putN x0 = out ++ putN cur ∧ cur < 128 ^ n ∧ out.length + n = 9 ∧ cur < 9223372036854775808) (x0, [], 9, 0, some 0) (GC.now ?_) ?_
  · simp only [go_sem, eq_self, Nat.reduceBEq, Nat.reduceAdd, Nat.reduceLeDiff, Nat.reduceMul, Nat.reduceSub, Nat.reduceLT, Int.reduceEq, Nat.reduceEqDiff, Int.reduceBEq, byteC, nc_0, true_and]
    simp; omega
  · rintro ⟨cur, out, n, g, cap⟩ f h J hA ⟨e0, e3, rfl, hP⟩ hJ
    simp only [go_sem, eq_self, Nat.reduceBEq, Nat.reduceAdd, Nat.reduceLeDiff, Nat.reduceMul, Nat.reduceSub, Nat.reduceLT, Int.reduceEq, Nat.reduceEqDiff, Int.reduceBEq, byteC] at hA
    try dsimp only at hJ
    simp only [go_sem, eq_self, Nat.reduceBEq, Nat.reduceAdd, Nat.reduceLeDiff, Nat.reduceMul, Nat.reduceSub, Nat.reduceLT, Int.reduceEq, Nat.reduceEqDiff, Int.reduceBEq, byteC, hA, e0, e3]
    obtain ⟨hp1, hp2, hp3, hp4⟩ := hP
    refine c_split (fun hb => ?_) (fun hb => ?_)
    · have hbig : 127 < cur := by have := of_decide_eq_true hb; omega
      obtain ⟨n', rfl, q1, q2⟩ := put_step hbig hp2 hp3
      rw [putN_big hbig] at hp1
      have hand := and127 cur hp4
      have hor := or128 cur
      simp only [IntKind.bits] at hand hor
      (try simp only [go_sem, eq_self, Nat.reduceBEq, Nat.reduceAdd, Nat.reduceLeDiff, Nat.reduceMul, Nat.reduceSub, Nat.reduceLT, Int.reduceEq, Nat.reduceEqDiff, Int.reduceBEq, byteC, hA, e0, e3, hand, hor, b_and, b_or, b_shr, h07, shr7, u8_wrapn]); repeat' (first | (with_reducible refine c_split (fun hb => ?_) (fun hb => ?_) <;> try simp only [go_sem, eq_self, Nat.reduceBEq, Nat.reduceAdd, Nat.reduceLeDiff, Nat.reduceMul, Nat.reduceSub, Nat.reduceLT, Int.reduceEq, Nat.reduceEqDiff, Int.reduceBEq, byteC, hb, hA, e0, e3, hand, hor, b_and, b_or, b_shr, h07, shr7, u8_wrapn]) | (with_reducible refine w_split (fun hb => ?_) (fun hb => ?_) <;> try simp only [go_sem, eq_self, Nat.reduceBEq, Nat.reduceAdd, Nat.reduceLeDiff, Nat.reduceMul, Nat.reduceSub, Nat.reduceLT, Int.reduceEq, Nat.reduceEqDiff, Int.reduceBEq, byteC, hb, hA, e0, e3, hand, hor, b_and, b_or, b_shr, h07, shr7, u8_wrapn]) | (fail))
      refine ap_end rfl (by simp) (by simp; omega) ?_
      (try simp only [go_sem, eq_self, Nat.reduceBEq, Nat.reduceAdd, Nat.reduceLeDiff, Nat.reduceMul, Nat.reduceSub, Nat.reduceLT, Int.reduceEq, Nat.reduceEqDiff, Int.reduceBEq, byteC, hA, e0, e3, b_shr, h07, shr7]); repeat' (first | (with_reducible refine c_split (fun hb => ?_) (fun hb => ?_) <;> try simp only [go_sem, eq_self, Nat.reduceBEq, Nat.reduceAdd, Nat.reduceLeDiff, Nat.reduceMul, Nat.reduceSub, Nat.reduceLT, Int.reduceEq, Nat.reduceEqDiff, Int.reduceBEq, byteC, hb, hA, e0, e3, b_shr, h07, shr7]) | (with_reducible refine w_split (fun hb => ?_) (fun hb => ?_) <;> try simp only [go_sem, eq_self, Nat.reduceBEq, Nat.reduceAdd, Nat.reduceLeDiff, Nat.reduceMul, Nat.reduceSub, Nat.reduceLT, Int.reduceEq, Nat.reduceEqDiff, Int.reduceBEq, byteC, hb, hA, e0, e3, b_shr, h07, shr7]) | (fail))
      refine gc_trim 1 (by decide) (by simp only [go_sem, eq_self, Nat.reduceBEq, Nat.reduceAdd, Nat.reduceLeDiff, Nat.reduceMul, Nat.reduceSub, Nat.reduceLT, Int.reduceEq, Nat.reduceEqDiff, Int.reduceBEq, byteC]) (by simp only [go_sem, eq_self, Nat.reduceBEq, Nat.reduceAdd, Nat.reduceLeDiff, Nat.reduceMul, Nat.reduceSub, Nat.reduceLT, Int.reduceEq, Nat.reduceEqDiff, Int.reduceBEq, byteC]) (hJ (cur / 128, out ++ [UInt8.ofNat (cur % 128 + 128)], n', g + 1, none) _ _ (by exact put_less hbig) (by simp only [go_sem, eq_self, Nat.reduceBEq, Nat.reduceAdd, Nat.reduceLeDiff, Nat.reduceMul, Nat.reduceSub, Nat.reduceLT, Int.reduceEq, Nat.reduceEqDiff, Int.reduceBEq, byteC, hA, e0, e3]) ⟨?_, ?_, ?_, ?_⟩) <;> try simp only [go_sem, eq_self, Nat.reduceBEq, Nat.reduceAdd, Nat.reduceLeDiff, Nat.reduceMul, Nat.reduceSub, Nat.reduceLT, Int.reduceEq, Nat.reduceEqDiff, Int.reduceBEq, byteC, hA, e0, e3]
      exact ⟨by rw [hp1]; simp, q1, by simpa using q2, by omega⟩
    · have hsm : ¬ 127 < cur := by have := of_decide_eq_false hb; omega
      rw [putN_small hsm] at hp1
      (try simp only [go_sem, eq_self, Nat.reduceBEq, Nat.reduceAdd, Nat.reduceLeDiff, Nat.reduceMul, Nat.reduceSub, Nat.reduceLT, Int.reduceEq, Nat.reduceEqDiff, Int.reduceBEq, byteC, hA, e0, e3, u8_wrapn]); repeat' (first | (with_reducible refine c_split (fun hb => ?_) (fun hb => ?_) <;> try simp only [go_sem, eq_self, Nat.reduceBEq, Nat.reduceAdd, Nat.reduceLeDiff, Nat.reduceMul, Nat.reduceSub, Nat.reduceLT, Int.reduceEq, Nat.reduceEqDiff, Int.reduceBEq, byteC, hb, hA, e0, e3, u8_wrapn]) | (with_reducible refine w_split (fun hb => ?_) (fun hb => ?_) <;> try simp only [go_sem, eq_self, Nat.reduceBEq, Nat.reduceAdd, Nat.reduceLeDiff, Nat.reduceMul, Nat.reduceSub, Nat.reduceLT, Int.reduceEq, Nat.reduceEqDiff, Int.reduceBEq, byteC, hb, hA, e0, e3, u8_wrapn]) | (fail))
      refine ap_end rfl (by simp) (by simp; omega) ?_
      (try simp only [go_sem, eq_self, Nat.reduceBEq, Nat.reduceAdd, Nat.reduceLeDiff, Nat.reduceMul, Nat.reduceSub, Nat.reduceLT, Int.reduceEq, Nat.reduceEqDiff, Int.reduceBEq, byteC, hA, e0, e3]); repeat' (first | (with_reducible refine c_split (fun hb => ?_) (fun hb => ?_) <;> try simp only [go_sem, eq_self, Nat.reduceBEq, Nat.reduceAdd, Nat.reduceLeDiff, Nat.reduceMul, Nat.reduceSub, Nat.reduceLT, Int.reduceEq, Nat.reduceEqDiff, Int.reduceBEq, byteC, hb, hA, e0, e3]) | (with_reducible refine w_split (fun hb => ?_) (fun hb => ?_) <;> try simp only [go_sem, eq_self, Nat.reduceBEq, Nat.reduceAdd, Nat.reduceLeDiff, Nat.reduceMul, Nat.reduceSub, Nat.reduceLT, Int.reduceEq, Nat.reduceEqDiff, Int.reduceBEq, byteC, hb, hA, e0, e3]) | (fail))
      have hl : (putN x0).length = out.length + 1 := by rw [hp1]; simp
      rw [hl] at hk
      refine hQO [0] _ _ (GC.now ?_) <;> simp only [Try.f119, go_sem, eq_self, Nat.reduceBEq, Nat.reduceAdd, Nat.reduceLeDiff, Nat.reduceMul, Nat.reduceSub, Nat.reduceLT, Int.reduceEq, Nat.reduceEqDiff, Int.reduceBEq, byteC, List.nodup_cons, List.nodup_nil, List.mem_cons, List.not_mem_nil, or_false, not_false_eq_true, List.idxOf?_cons, List.idxOf?_nil, Option.map_none, ← hp1]
      exact hk
theorem c_spec_PutNum (x : Int) (hx : x < 9223372036854775808) (K : AV → AH → Prop) (hk : K (.one (.sl 0 0 0 (putNum x).length)) [.own 0 5 1 none ((putNum x).map byteC)]) : ACalls Try.prog 117 [(.one (.c (.int .i64 (x))))] [] K := by
  have h128 : (128 : Int) ≠ 0 := by decide
  refine acall_c Try.f117.results.toList mixed Try.func117 rfl rfl (by kernel_rfl) ?_
  intro Q hQ hQO
  simp only [go_sem, eq_self, Nat.reduceBEq, Nat.reduceAdd, Nat.reduceLeDiff, Nat.reduceMul, Nat.reduceSub, Nat.reduceLT, Int.reduceEq, Nat.reduceEqDiff, Int.reduceBEq, byteC]
  (try simp only [go_sem, eq_self, Nat.reduceBEq, Nat.reduceAdd, Nat.reduceLeDiff, Nat.reduceMul, Nat.reduceSub, Nat.reduceLT, Int.reduceEq, Nat.reduceEqDiff, Int.reduceBEq, byteC]); repeat' (first | (with_reducible refine c_split (fun hb => ?_) (fun hb => ?_) <;> try simp only [go_sem, eq_self, Nat.reduceBEq, Nat.reduceAdd, Nat.reduceLeDiff, Nat.reduceMul, Nat.reduceSub, Nat.reduceLT, Int.reduceEq, Nat.reduceEqDiff, Int.reduceBEq, byteC, hb]) | (with_reducible refine w_split (fun hb => ?_) (fun hb => ?_) <;> try simp only [go_sem, eq_self, Nat.reduceBEq, Nat.reduceAdd, Nat.reduceLeDiff, Nat.reduceMul, Nat.reduceSub, Nat.reduceLT, Int.reduceEq, Nat.reduceEqDiff, Int.reduceBEq, byteC, hb]) | (fail))
  · rw [putNum, if_pos (of_decide_eq_true hb)] at hk
    refine hQO [0] _ _ (GC.step (Ghost.cut (l := 0) rfl 0) (GC.now ?_)) <;> simp only [Try.f117, go_sem, eq_self, Nat.reduceBEq, Nat.reduceAdd, Nat.reduceLeDiff, Nat.reduceMul, Nat.reduceSub, Nat.reduceLT, Int.reduceEq, Nat.reduceEqDiff, Int.reduceBEq, byteC, List.nodup_cons, List.nodup_nil, List.mem_cons, List.not_mem_nil, or_false, not_false_eq_true, List.idxOf?_cons, List.idxOf?_nil, Option.map_none]
    exact hk
  rw [putNum, if_neg (of_decide_eq_false hb)] at hk
  obtain ⟨x0, rfl⟩ : ∃ q : Nat, x = (q : Int) := ⟨x.toNat, by have := of_decide_eq_false hb; omega⟩
  rw [Int.toNat_natCast] at hk
  refine while_at (α := Nat × List UInt8 × Nat × Nat × Option Nat) (fun ⟨cur, out, n, g, cap⟩ => cur) [] (fun ⟨cur, out, n, g, cap⟩ f h => f 0 = (.one (.c (.int .i64 ((cur : Int))))) ∧ f 3 = .one (.sl 0 g 0 out.length) ∧ h = [.own g 5 1 cap (out.map byteC)] ∧ putN x0 = out ++ putN cur ∧ cur < 128 ^ n ∧ out.length + n = 9 ∧ cur < 9223372036854775808) (x0, [], 9, 0, some 0) (GC.now ?_) ?_
  · simp only [go_sem, eq_self, Nat.reduceBEq, Nat.reduceAdd, Nat.reduceLeDiff, Nat.reduceMul, Nat.reduceSub, Nat.reduceLT, Int.reduceEq, Nat.reduceEqDiff, Int.reduceBEq, byteC, nc_0, true_and]
    simp; omega
  · rintro ⟨cur, out, n, g, cap⟩ f h J hA ⟨e0, e3, rfl, hP⟩ hJ
    simp only [go_sem, eq_self, Nat.reduceBEq, Nat.reduceAdd, Nat.reduceLeDiff, Nat.reduceMul, Nat.reduceSub, Nat.reduceLT, Int.reduceEq, Nat.reduceEqDiff, Int.reduceBEq, byteC] at hA
    try dsimp only at hJ
    simp only [go_sem, eq_self, Nat.reduceBEq, Nat.reduceAdd, Nat.reduceLeDiff, Nat.reduceMul, Nat.reduceSub, Nat.reduceLT, Int.reduceEq, Nat.reduceEqDiff, Int.reduceBEq, byteC, hA, e0, e3]
    obtain ⟨hp1, hp2, hp3, hp4⟩ := hP
    refine c_split (fun hb => ?_) (fun hb => ?_)
    · have hbig : 127 < cur := by have := of_decide_eq_true hb; omega
      obtain ⟨n', rfl, q1, q2⟩ := put_step hbig hp2 hp3
      rw [putN_big hbig] at hp1
      have hm := nat_tmod128 cur
      have hw1 : wrap64 (((cur % 128 : Nat) : Int) + 128) = ((cur % 128 + 128 : Nat) : Int) := by unfold wrap64; omega
      have hd : wrap64 ((cur : Int).tdiv 128) = ((cur / 128 : Nat) : Int) := by rw [Int.tdiv_eq_ediv_of_nonneg (by omega)]; unfold wrap64; omega
      (try simp only [go_sem, eq_self, Nat.reduceBEq, Nat.reduceAdd, Nat.reduceLeDiff, Nat.reduceMul, Nat.reduceSub, Nat.reduceLT, Int.reduceEq, Nat.reduceEqDiff, Int.reduceBEq, byteC, hA, e0, e3, ne_eq, h128, not_false_eq_true, b_rem, b_quo, hm, hw1, u8_wrapn]); repeat' (first | (with_reducible refine c_split (fun hb => ?_) (fun hb => ?_) <;> try simp only [go_sem, eq_self, Nat.reduceBEq, Nat.reduceAdd, Nat.reduceLeDiff, Nat.reduceMul, Nat.reduceSub, Nat.reduceLT, Int.reduceEq, Nat.reduceEqDiff, Int.reduceBEq, byteC, hb, hA, e0, e3, ne_eq, h128, not_false_eq_true, b_rem, b_quo, hm, hw1, u8_wrapn]) | (with_reducible refine w_split (fun hb => ?_) (fun hb => ?_) <;> try simp only [go_sem, eq_self, Nat.reduceBEq, Nat.reduceAdd, Nat.reduceLeDiff, Nat.reduceMul, Nat.reduceSub, Nat.reduceLT, Int.reduceEq, Nat.reduceEqDiff, Int.reduceBEq, byteC, hb, hA, e0, e3, ne_eq, h128, not_false_eq_true, b_rem, b_quo, hm, hw1, u8_wrapn]) | (fail))
      refine ap_end rfl (by simp) (by simp; omega) ?_
      (try simp only [go_sem, eq_self, Nat.reduceBEq, Nat.reduceAdd, Nat.reduceLeDiff, Nat.reduceMul, Nat.reduceSub, Nat.reduceLT, Int.reduceEq, Nat.reduceEqDiff, Int.reduceBEq, byteC, hA, e0, e3, ne_eq, h128, not_false_eq_true, b_rem, b_quo, hd]); repeat' (first | (with_reducible refine c_split (fun hb => ?_) (fun hb => ?_) <;> try simp only [go_sem, eq_self, Nat.reduceBEq, Nat.reduceAdd, Nat.reduceLeDiff, Nat.reduceMul, Nat.reduceSub, Nat.reduceLT, Int.reduceEq, Nat.reduceEqDiff, Int.reduceBEq, byteC, hb, hA, e0, e3, ne_eq, h128, not_false_eq_true, b_rem, b_quo, hd]) | (with_reducible refine w_split (fun hb => ?_) (fun hb => ?_) <;> try simp only [go_sem, eq_self, Nat.reduceBEq, Nat.reduceAdd, Nat.reduceLeDiff, Nat.reduceMul, Nat.reduceSub, Nat.reduceLT, Int.reduceEq, Nat.reduceEqDiff, Int.reduceBEq, byteC, hb, hA, e0, e3, ne_eq, h128, not_false_eq_true, b_rem, b_quo, hd]) | (fail))
      refine gc_trim 1 (by decide) (by simp only [go_sem, eq_self, Nat.reduceBEq, Nat.reduceAdd, Nat.reduceLeDiff, Nat.reduceMul, Nat.reduceSub, Nat.reduceLT, Int.reduceEq, Nat.reduceEqDiff, Int.reduceBEq, byteC]) (by simp only [go_sem, eq_self, Nat.reduceBEq, Nat.reduceAdd, Nat.reduceLeDiff, Nat.reduceMul, Nat.reduceSub, Nat.reduceLT, Int.reduceEq, Nat.reduceEqDiff, Int.reduceBEq, byteC, hd]) (hJ (cur / 128, out ++ [UInt8.ofNat (cur % 128 + 128)], n', g + 1, none) _ _ (by exact put_less hbig) (by simp only [go_sem, eq_self, Nat.reduceBEq, Nat.reduceAdd, Nat.reduceLeDiff, Nat.reduceMul, Nat.reduceSub, Nat.reduceLT, Int.reduceEq, Nat.reduceEqDiff, Int.reduceBEq, byteC, hA, e0, e3]) ⟨?_, ?_, ?_, ?_⟩) <;> try simp only [go_sem, eq_self, Nat.reduceBEq, Nat.reduceAdd, Nat.reduceLeDiff, Nat.reduceMul, Nat.reduceSub, Nat.reduceLT, Int.reduceEq, Nat.reduceEqDiff, Int.reduceBEq, byteC, hA, e0, e3, hd]
      exact ⟨by rw [hp1]; simp, q1, by simpa using q2, by omega⟩
    · have hsm : ¬ 127 < cur := by have := of_decide_eq_false hb; omega
      rw [putN_small hsm] at hp1
      (try simp only [go_sem, eq_self, Nat.reduceBEq, Nat.reduceAdd, Nat.reduceLeDiff, Nat.reduceMul, Nat.reduceSub, Nat.reduceLT, Int.reduceEq, Nat.reduceEqDiff, Int.reduceBEq, byteC, hA, e0, e3, u8_wrapn]); repeat' (first | (with_reducible refine c_split (fun hb => ?_) (fun hb => ?_) <;> try simp only [go_sem, eq_self, Nat.reduceBEq, Nat.reduceAdd, Nat.reduceLeDiff, Nat.reduceMul, Nat.reduceSub, Nat.reduceLT, Int.reduceEq, Nat.reduceEqDiff, Int.reduceBEq, byteC, hb, hA, e0, e3, u8_wrapn]) | (with_reducible refine w_split (fun hb => ?_) (fun hb => ?_) <;> try simp only [go_sem, eq_self, Nat.reduceBEq, Nat.reduceAdd, Nat.reduceLeDiff, Nat.reduceMul, Nat.reduceSub, Nat.reduceLT, Int.reduceEq, Nat.reduceEqDiff, Int.reduceBEq, byteC, hb, hA, e0, e3, u8_wrapn]) | (fail))
      refine ap_end rfl (by simp) (by simp; omega) ?_
      (try simp only [go_sem, eq_self, Nat.reduceBEq, Nat.reduceAdd, Nat.reduceLeDiff, Nat.reduceMul, Nat.reduceSub, Nat.reduceLT, Int.reduceEq, Nat.reduceEqDiff, Int.reduceBEq, byteC, hA, e0, e3]); repeat' (first | (with_reducible refine c_split (fun hb => ?_) (fun hb => ?_) <;> try simp only [go_sem, eq_self, Nat.reduceBEq, Nat.reduceAdd, Nat.reduceLeDiff, Nat.reduceMul, Nat.reduceSub, Nat.reduceLT, Int.reduceEq, Nat.reduceEqDiff, Int.reduceBEq, byteC, hb, hA, e0, e3]) | (with_reducible refine w_split (fun hb => ?_) (fun hb => ?_) <;> try simp only [go_sem, eq_self, Nat.reduceBEq, Nat.reduceAdd, Nat.reduceLeDiff, Nat.reduceMul, Nat.reduceSub, Nat.reduceLT, Int.reduceEq, Nat.reduceEqDiff, Int.reduceBEq, byteC, hb, hA, e0, e3]) | (fail))
      have hl : (putN x0).length = out.length + 1 := by rw [hp1]; simp
      rw [hl] at hk
      refine hQO [0] _ _ (GC.now ?_) <;> simp only [Try.f117, go_sem, eq_self, Nat.reduceBEq, Nat.reduceAdd, Nat.reduceLeDiff, Nat.reduceMul, Nat.reduceSub, Nat.reduceLT, Int.reduceEq, Nat.reduceEqDiff, Int.reduceBEq, byteC, List.nodup_cons, List.nodup_nil, List.mem_cons, List.not_mem_nil, or_false, not_false_eq_true, List.idxOf?_cons, List.idxOf?_nil, Option.map_none, ← hp1]
      exact hk
/-- By content. -/
theorem im_row {K : AV → AH → Prop} (bs : List UInt8) (hk : K (.one (.im (bs.map byteC))) []) : K (retA [.own 0 5 1 none (bs.map byteC)] (.one (.sl 0 0 0 bs.length))) [] := by
  have : retA [AO.own 0 5 1 none (bs.map byteC)] (.one (.sl 0 0 0 bs.length)) = (.one (.im (bs.map byteC))) := by
    simp only [retA, imA, imV, objR_at, List.getElem?_cons_zero, obR_own, Nat.zero_add, List.drop_zero, byteC_tk, byteC_clz, List.length_map, Nat.le_refl, if_true]
  rw [this]; exact hk
theorem c_impl_PutNum_im (x : Int) (hx : x < 9223372036854775808) (K : AV → AH → Prop) (hk : K (.one (.im ((putNum x).map byteC))) []) : ACalls Try.prog 119 [(.one (.c (.int .i64 (x))))] [] K := acall_im (c_impl_PutNum x hx _ (im_row _ hk))
theorem c_Grow (n : Nat) (h : AH) (h0 : 0 < n) (h1 : n ≤ 1000000000000) (K : AV → AH → Prop) (hk : K (.one (.sl h.length 0 0 0)) (h ++ [.own 0 5 1 none (List.replicate n [.c (.int .u8 (0))])])) : ACalls Try.prog 126 [.one .nl, (.one (.c (.int .i64 ((n : Int)))))] h K := by
  have hw : wrap64 ((n : Int) - 0) = n := by unfold wrap64; omega
  have h2 : decide ((n : Int) < 0) = false := decide_eq_false (by omega)
  have h3 : decide ((0 : Int) < (n : Int)) = true := decide_eq_true (by omega)
  have h4 : (0 : Int) ≤ (n : Int) := by omega
  have h5 : (n : Int) ≤ 9223372036854775807 := by omega
  have h6 : n * 1 ≤ 281474976710656 := by omega
  have hnw : ∀ a : AO, (h ++ [a])[h.length]? = some a := fun a => by simp
  have p0 : (0 : Int) ≤ 0 := Int.le_refl _
  have t0 : Int.toNat 0 = 0 := rfl
  refine acall_w Try.f126.results.toList mixed Try.func126 rfl rfl (by kernel_rfl) ?_
  intro Q hQ
  simp only [go_sem, eq_self, Nat.reduceBEq, Nat.reduceAdd, Nat.reduceLeDiff, Nat.reduceMul, Nat.reduceSub, Nat.reduceLT, Int.reduceEq, Nat.reduceEqDiff, Int.reduceBEq, byteC]
  have hw0 : wrap64 ((0 : Int) - 0) = 0 := by unfold wrap64; omega
  (try simp only [go_sem, eq_self, Nat.reduceBEq, Nat.reduceAdd, Nat.reduceLeDiff, Nat.reduceMul, Nat.reduceSub, Nat.reduceLT, Int.reduceEq, Nat.reduceEqDiff, Int.reduceBEq, byteC, hw, hw0, h2, h3]); repeat' (first | (with_reducible refine c_split (fun hb => ?_) (fun hb => ?_) <;> try simp only [go_sem, eq_self, Nat.reduceBEq, Nat.reduceAdd, Nat.reduceLeDiff, Nat.reduceMul, Nat.reduceSub, Nat.reduceLT, Int.reduceEq, Nat.reduceEqDiff, Int.reduceBEq, byteC, hb, hw, hw0, h2, h3]) | (with_reducible refine w_split (fun hb => ?_) (fun hb => ?_) <;> try simp only [go_sem, eq_self, Nat.reduceBEq, Nat.reduceAdd, Nat.reduceLeDiff, Nat.reduceMul, Nat.reduceSub, Nat.reduceLT, Int.reduceEq, Nat.reduceEqDiff, Int.reduceBEq, byteC, hb, hw, hw0, h2, h3]) | (fail))
  rw [sl_nl (he := (by kernel_rfl : elemA Try.prog 54 = some 5)) (hn := (by kernel_rfl : sizeA Try.prog 5 = some 1)) (h1 := rfl) (h2 := rfl)]
  (try simp only [go_sem, eq_self, Nat.reduceBEq, Nat.reduceAdd, Nat.reduceLeDiff, Nat.reduceMul, Nat.reduceSub, Nat.reduceLT, Int.reduceEq, Nat.reduceEqDiff, Int.reduceBEq, byteC, Option.isSome_none, srB_i, h4, h5, h6]); repeat' (first | (with_reducible refine c_split (fun hb => ?_) (fun hb => ?_) <;> try simp only [go_sem, eq_self, Nat.reduceBEq, Nat.reduceAdd, Nat.reduceLeDiff, Nat.reduceMul, Nat.reduceSub, Nat.reduceLT, Int.reduceEq, Nat.reduceEqDiff, Int.reduceBEq, byteC, hb, Option.isSome_none, srB_i, h4, h5, h6]) | (with_reducible refine w_split (fun hb => ?_) (fun hb => ?_) <;> try simp only [go_sem, eq_self, Nat.reduceBEq, Nat.reduceAdd, Nat.reduceLeDiff, Nat.reduceMul, Nat.reduceSub, Nat.reduceLT, Int.reduceEq, Nat.reduceEqDiff, Int.reduceBEq, byteC, hb, Option.isSome_none, srB_i, h4, h5, h6]) | (fail))
  refine ap_nl (by simp; omega) ?_
  (try simp only [go_sem, eq_self, Nat.reduceBEq, Nat.reduceAdd, Nat.reduceLeDiff, Nat.reduceMul, Nat.reduceSub, Nat.reduceLT, Int.reduceEq, Nat.reduceEqDiff, Int.reduceBEq, byteC, Nat.zero_le, p0, t0, hnw]); repeat' (first | (with_reducible refine c_split (fun hb => ?_) (fun hb => ?_) <;> try simp only [go_sem, eq_self, Nat.reduceBEq, Nat.reduceAdd, Nat.reduceLeDiff, Nat.reduceMul, Nat.reduceSub, Nat.reduceLT, Int.reduceEq, Nat.reduceEqDiff, Int.reduceBEq, byteC, hb, Nat.zero_le, p0, t0, hnw]) | (with_reducible refine w_split (fun hb => ?_) (fun hb => ?_) <;> try simp only [go_sem, eq_self, Nat.reduceBEq, Nat.reduceAdd, Nat.reduceLeDiff, Nat.reduceMul, Nat.reduceSub, Nat.reduceLT, Int.reduceEq, Nat.reduceEqDiff, Int.reduceBEq, byteC, hb, Nat.zero_le, p0, t0, hnw]) | (fail))
  refine hQ _ _ (GC.now ?_) <;> simp only [retW, Try.f126, go_sem, eq_self, Nat.reduceBEq, Nat.reduceAdd, Nat.reduceLeDiff, Nat.reduceMul, Nat.reduceSub, Nat.reduceLT, Int.reduceEq, Nat.reduceEqDiff, Int.reduceBEq, byteC]
  exact hk
def rowC (bs : List UInt8) : List CV := [.im (bs.map byteC)]
def lenTo (xss : List (List UInt8)) : Nat → Nat
  | 0 => 0
  | i + 1 => lenTo xss i + (xss[i]?.getD []).length
theorem lenTo_eq (xss : List (List UInt8)) : ∀ i, lenTo xss i = ((xss.take i).flatten).length
  | 0 => rfl
  | i + 1 => by
    rw [lenTo, lenTo_eq xss i, List.take_add_one]
    cases xss[i]? <;> simp
theorem lenTo_mono (xss : List (List UInt8)) : ∀ {i j : Nat}, i ≤ j → lenTo xss i ≤ lenTo xss j := fun {i j} h => by
  induction j with
  | zero => rw [show i = 0 by omega]; exact Nat.le_refl _
  | succ j ih =>
    rcases Nat.lt_or_ge i (j + 1) with h' | h'
    · have := ih (by omega)
      rw [lenTo]; omega
    · rw [show i = j + 1 by omega]; exact Nat.le_refl _
theorem cset_fill (A : List UInt8) (n m : Nat) (bs : List UInt8) (z : List CV) (h : A.length + bs.length + m = n) : cset (A.map byteC ++ List.replicate (n - A.length) z) A.length (bs.map byteC) = (A ++ bs).map byteC ++ List.replicate (n - (A ++ bs).length) z := by
  apply List.ext_getElem?
  intro j
  rw [cset_get _ _ _ _ (by simp; omega)]
  simp only [List.length_map]
  by_cases hc : A.length ≤ j ∧ j < A.length + bs.length
  · rw [if_pos hc, List.map_append, List.append_assoc, List.getElem?_append_right (by simp; omega), List.getElem?_append_left (by simp; omega)]
    congr 1; simp
  · rw [if_neg hc]
    by_cases h1 : j < A.length
    · rw [List.getElem?_append_left (by simpa using h1), List.map_append, List.append_assoc, List.getElem?_append_left (by simpa using h1)]
    · rw [List.getElem?_append_right (by simp; omega), List.getElem?_append_right (by simp; omega), List.getElem?_replicate, List.getElem?_replicate]
      simp only [List.length_map, List.length_append]
      by_cases h2 : j < n
      · rw [if_pos (by omega), if_pos (by omega)]
      · rw [if_neg (by omega), if_neg (by omega)]
theorem fee_rep (n : Nat) : freeE (List.replicate n [.c (.int .u8 (0))]) = true := by
  unfold freeE
  rw [List.all_eq_true]
  intro x hx
  rw [List.eq_of_mem_replicate hx]
  rfl
theorem c_Concat (xss : List (List UInt8)) (hn : xss.length ≤ 1000000000) (h0 : 0 < lenTo xss xss.length) (h1 : lenTo xss xss.length ≤ 1000000000000) (K : AV → AH → Prop) (hk : K (.one (.sl 0 0 0 xss.flatten.length)) [.own 0 5 1 none (xss.flatten.map byteC)]) : ACalls Try.prog 118 [(.one (.im (xss.map rowC)))] [] K := by
  have hlt : lenTo xss xss.length = xss.flatten.length := by rw [lenTo_eq, List.take_length]
  refine acall_c Try.f118.results.toList mixed Try.func118 rfl rfl (by kernel_rfl) ?_
  intro Q hQ hQO
  simp only [go_sem, eq_self, Nat.reduceBEq, Nat.reduceAdd, Nat.reduceLeDiff, Nat.reduceMul, Nat.reduceSub, Nat.reduceLT, Int.reduceEq, Nat.reduceEqDiff, Int.reduceBEq, byteC, rowC]
  refine for_at (xss.length) [0, 9, 10] (fun i f h => f 11 = (.one (.c (.int .i64 (i)))) ∧ f 3 = (.one (.c (.int .i64 ((lenTo xss i : Int))))) ∧ h = []) (GC.now ?_) ?_
  · simp only [go_sem, eq_self, Nat.reduceBEq, Nat.reduceAdd, Nat.reduceLeDiff, Nat.reduceMul, Nat.reduceSub, Nat.reduceLT, Int.reduceEq, Nat.reduceEqDiff, Int.reduceBEq, byteC, nc_0, true_and, rowC]
    simp [lenTo]
  · rintro i f h J hi hA ⟨e11, e3, rfl⟩ hJ
    simp only [go_sem, eq_self, Nat.reduceBEq, Nat.reduceAdd, Nat.reduceLeDiff, Nat.reduceMul, Nat.reduceSub, Nat.reduceLT, Int.reduceEq, Nat.reduceEqDiff, Int.reduceBEq, byteC, rowC] at hA
    simp only [go_sem, eq_self, Nat.reduceBEq, Nat.reduceAdd, Nat.reduceLeDiff, Nat.reduceMul, Nat.reduceSub, Nat.reduceLT, Int.reduceEq, Nat.reduceEqDiff, Int.reduceBEq, byteC, hA, e11, e3, rowC]
    refine c_split (fun hb => ?_) (fun hb => ?_)
    rotate_left
    · simp only [go_sem, eq_self, Nat.reduceBEq, Nat.reduceAdd, Nat.reduceLeDiff, Nat.reduceMul, Nat.reduceSub, Nat.reduceLT, Int.reduceEq, Nat.reduceEqDiff, Int.reduceBEq, byteC, hb, hA, e11, e3, rowC]
      obtain rfl := ge_len hb hi
      (try simp only [go_sem, eq_self, Nat.reduceBEq, Nat.reduceAdd, Nat.reduceLeDiff, Nat.reduceMul, Nat.reduceSub, Nat.reduceLT, Int.reduceEq, Nat.reduceEqDiff, Int.reduceBEq, byteC, hA, e11, e3, rowC, List.nil_append, List.length_nil, fee_rep]); repeat' (first | (with_reducible refine c_split (fun hb => ?_) (fun hb => ?_) <;> try simp only [go_sem, eq_self, Nat.reduceBEq, Nat.reduceAdd, Nat.reduceLeDiff, Nat.reduceMul, Nat.reduceSub, Nat.reduceLT, Int.reduceEq, Nat.reduceEqDiff, Int.reduceBEq, byteC, hb, hA, e11, e3, rowC, List.nil_append, List.length_nil, fee_rep]) | (with_reducible refine w_split (fun hb => ?_) (fun hb => ?_) <;> try simp only [go_sem, eq_self, Nat.reduceBEq, Nat.reduceAdd, Nat.reduceLeDiff, Nat.reduceMul, Nat.reduceSub, Nat.reduceLT, Int.reduceEq, Nat.reduceEqDiff, Int.reduceBEq, byteC, hb, hA, e11, e3, rowC, List.nil_append, List.length_nil, fee_rep]) | (refine call_n (c_Grow (lenTo xss xss.length) [] h0 h1 _ ?_) <;> try simp only [go_sem, eq_self, Nat.reduceBEq, Nat.reduceAdd, Nat.reduceLeDiff, Nat.reduceMul, Nat.reduceSub, Nat.reduceLT, Int.reduceEq, Nat.reduceEqDiff, Int.reduceBEq, byteC, hA, e11, e3, rowC, List.nil_append, List.length_nil, fee_rep]) | (fail))
      refine for_at (xss.length) [25, 26] (fun i f h => f 27 = (.one (.c (.int .i64 (i)))) ∧ f 6 = .one (.sl 0 0 0 (lenTo xss i)) ∧ h = [.own 0 5 1 none (((xss.take i).flatten).map byteC ++ List.replicate (lenTo xss xss.length - lenTo xss i) [.c (.int .u8 (0))])]) (GC.now ?_) ?_
      · simp only [go_sem, eq_self, Nat.reduceBEq, Nat.reduceAdd, Nat.reduceLeDiff, Nat.reduceMul, Nat.reduceSub, Nat.reduceLT, Int.reduceEq, Nat.reduceEqDiff, Int.reduceBEq, byteC, nc_0, true_and, rowC]
        simp [lenTo]; exact .inr rfl
      · rintro i f h J hi hA ⟨e27, e6, rfl⟩ hJ
        simp only [go_sem, eq_self, Nat.reduceBEq, Nat.reduceAdd, Nat.reduceLeDiff, Nat.reduceMul, Nat.reduceSub, Nat.reduceLT, Int.reduceEq, Nat.reduceEqDiff, Int.reduceBEq, byteC, rowC] at hA
        simp only [go_sem, eq_self, Nat.reduceBEq, Nat.reduceAdd, Nat.reduceLeDiff, Nat.reduceMul, Nat.reduceSub, Nat.reduceLT, Int.reduceEq, Nat.reduceEqDiff, Int.reduceBEq, byteC, hA, e27, e6, rowC]
        refine c_split (fun hb => ?_) (fun hb => ?_)
        rotate_left
        · simp only [go_sem, eq_self, Nat.reduceBEq, Nat.reduceAdd, Nat.reduceLeDiff, Nat.reduceMul, Nat.reduceSub, Nat.reduceLT, Int.reduceEq, Nat.reduceEqDiff, Int.reduceBEq, byteC, hb, hA, e27, e6, rowC]
          obtain rfl := ge_len hb hi
          (try simp only [go_sem, eq_self, Nat.reduceBEq, Nat.reduceAdd, Nat.reduceLeDiff, Nat.reduceMul, Nat.reduceSub, Nat.reduceLT, Int.reduceEq, Nat.reduceEqDiff, Int.reduceBEq, byteC, hA, e27, e6, rowC]); repeat' (first | (with_reducible refine c_split (fun hb => ?_) (fun hb => ?_) <;> try simp only [go_sem, eq_self, Nat.reduceBEq, Nat.reduceAdd, Nat.reduceLeDiff, Nat.reduceMul, Nat.reduceSub, Nat.reduceLT, Int.reduceEq, Nat.reduceEqDiff, Int.reduceBEq, byteC, hb, hA, e27, e6, rowC]) | (with_reducible refine w_split (fun hb => ?_) (fun hb => ?_) <;> try simp only [go_sem, eq_self, Nat.reduceBEq, Nat.reduceAdd, Nat.reduceLeDiff, Nat.reduceMul, Nat.reduceSub, Nat.reduceLT, Int.reduceEq, Nat.reduceEqDiff, Int.reduceBEq, byteC, hb, hA, e27, e6, rowC]) | (fail))
          refine hQO [0] _ _ (GC.now ?_) <;> simp only [Try.f118, go_sem, eq_self, Nat.reduceBEq, Nat.reduceAdd, Nat.reduceLeDiff, Nat.reduceMul, Nat.reduceSub, Nat.reduceLT, Int.reduceEq, Nat.reduceEqDiff, Int.reduceBEq, byteC, List.nodup_cons, List.nodup_nil, List.mem_cons, List.not_mem_nil, or_false, not_false_eq_true, List.idxOf?_cons, List.idxOf?_nil, Option.map_none, List.take_length, Nat.sub_self, List.replicate_zero, List.append_nil, hlt]
          exact hk
        have hi := lt_len hb
        have hw := wrap_nat i (by omega)
        have hil : (i : Int) < ((xss.length : Nat) : Int) := Int.ofNat_lt.2 hi
        have hg0 : (xss)[i]? = some ((xss)[i]) := List.getElem?_eq_getElem (by omega)
        simp only [go_sem, eq_self, Nat.reduceBEq, Nat.reduceAdd, Nat.reduceLeDiff, Nat.reduceMul, Nat.reduceSub, Nat.reduceLT, Int.reduceEq, Nat.reduceEqDiff, Int.reduceBEq, byteC, hb, hA, e27, e6, rowC, hg0]
        try simp only [go_sem, eq_self, Nat.reduceBEq, Nat.reduceAdd, Nat.reduceLeDiff, Nat.reduceMul, Nat.reduceSub, Nat.reduceLT, Int.reduceEq, Nat.reduceEqDiff, Int.reduceBEq, byteC, hA, e27, e6, rowC, hil, hg0]
        have hm := lenTo_mono xss (show i + 1 ≤ xss.length by omega)
        have hs : lenTo xss (i + 1) = lenTo xss i + xss[i].length := by rw [lenTo, hg0]; rfl
        (try simp only [go_sem, eq_self, Nat.reduceBEq, Nat.reduceAdd, Nat.reduceLeDiff, Nat.reduceMul, Nat.reduceSub, Nat.reduceLT, Int.reduceEq, Nat.reduceEqDiff, Int.reduceBEq, byteC, hA, e27, e6, rowC, hil, hg0]); repeat' (first | (with_reducible refine c_split (fun hb => ?_) (fun hb => ?_) <;> try simp only [go_sem, eq_self, Nat.reduceBEq, Nat.reduceAdd, Nat.reduceLeDiff, Nat.reduceMul, Nat.reduceSub, Nat.reduceLT, Int.reduceEq, Nat.reduceEqDiff, Int.reduceBEq, byteC, hb, hA, e27, e6, rowC, hil, hg0]) | (with_reducible refine w_split (fun hb => ?_) (fun hb => ?_) <;> try simp only [go_sem, eq_self, Nat.reduceBEq, Nat.reduceAdd, Nat.reduceLeDiff, Nat.reduceMul, Nat.reduceSub, Nat.reduceLT, Int.reduceEq, Nat.reduceEqDiff, Int.reduceBEq, byteC, hb, hA, e27, e6, rowC, hil, hg0]) | (fail))
        have hle := lenTo_eq xss i
        have hl1 : ((xss.take i).flatten).length + xss[i].length ≤ lenTo xss xss.length := by omega
        have hfl : (xss.take (i + 1)).flatten = (xss.take i).flatten ++ xss[i] := by rw [List.take_add_one, hg0, Option.toList_some, List.flatten_append, List.flatten_cons, List.flatten_nil, List.append_nil]
        refine ap_in rfl (by simp only [List.length_map, List.length_append, List.length_replicate]; omega) ?_
        have hcs := cset_fill ((xss.take i).flatten) (lenTo xss xss.length) (lenTo xss xss.length - lenTo xss (i + 1)) xss[i] [.c (.int .u8 (0))] (by omega)
        rw [← hfl, ← lenTo_eq xss (i + 1), ← hle] at hcs
        (try simp only [go_sem, eq_self, Nat.reduceBEq, Nat.reduceAdd, Nat.reduceLeDiff, Nat.reduceMul, Nat.reduceSub, Nat.reduceLT, Int.reduceEq, Nat.reduceEqDiff, Int.reduceBEq, byteC, hA, e27, e6, rowC, hil, hg0, Nat.zero_add, hcs, List.length_map, ← hs]); repeat' (first | (with_reducible refine c_split (fun hb => ?_) (fun hb => ?_) <;> try simp only [go_sem, eq_self, Nat.reduceBEq, Nat.reduceAdd, Nat.reduceLeDiff, Nat.reduceMul, Nat.reduceSub, Nat.reduceLT, Int.reduceEq, Nat.reduceEqDiff, Int.reduceBEq, byteC, hb, hA, e27, e6, rowC, hil, hg0, Nat.zero_add, hcs, List.length_map, ← hs]) | (with_reducible refine w_split (fun hb => ?_) (fun hb => ?_) <;> try simp only [go_sem, eq_self, Nat.reduceBEq, Nat.reduceAdd, Nat.reduceLeDiff, Nat.reduceMul, Nat.reduceSub, Nat.reduceLT, Int.reduceEq, Nat.reduceEqDiff, Int.reduceBEq, byteC, hb, hA, e27, e6, rowC, hil, hg0, Nat.zero_add, hcs, List.length_map, ← hs]) | (fail))
        refine GC.now (hJ _ _ hi (by simp only [go_sem, eq_self, Nat.reduceBEq, Nat.reduceAdd, Nat.reduceLeDiff, Nat.reduceMul, Nat.reduceSub, Nat.reduceLT, Int.reduceEq, Nat.reduceEqDiff, Int.reduceBEq, byteC, hA, e27, e6, rowC]) ⟨?_, ?_, ?_⟩) <;> try simp only [go_sem, eq_self, Nat.reduceBEq, Nat.reduceAdd, Nat.reduceLeDiff, Nat.reduceMul, Nat.reduceSub, Nat.reduceLT, Int.reduceEq, Nat.reduceEqDiff, Int.reduceBEq, byteC, hA, e27, e6, rowC, hw]
    have hi := lt_len hb
    have hw := wrap_nat i (by omega)
    have hil : (i : Int) < ((xss.length : Nat) : Int) := Int.ofNat_lt.2 hi
    have hg0 : (xss)[i]? = some ((xss)[i]) := List.getElem?_eq_getElem (by omega)
    simp only [go_sem, eq_self, Nat.reduceBEq, Nat.reduceAdd, Nat.reduceLeDiff, Nat.reduceMul, Nat.reduceSub, Nat.reduceLT, Int.reduceEq, Nat.reduceEqDiff, Int.reduceBEq, byteC, hb, hA, e11, e3, rowC, hg0]
    try simp only [go_sem, eq_self, Nat.reduceBEq, Nat.reduceAdd, Nat.reduceLeDiff, Nat.reduceMul, Nat.reduceSub, Nat.reduceLT, Int.reduceEq, Nat.reduceEqDiff, Int.reduceBEq, byteC, hA, e11, e3, rowC, hil, hg0]
    have hm := lenTo_mono xss (show i + 1 ≤ xss.length by omega)
    have hs : lenTo xss (i + 1) = lenTo xss i + xss[i].length := by rw [lenTo, hg0]; rfl
    have hw2 : wrap64 ((lenTo xss i : Int) + (xss[i].length : Int)) = ((lenTo xss (i + 1) : Nat) : Int) := by rw [hs]; unfold wrap64; omega
    have hng : decide (((lenTo xss (i + 1) : Nat) : Int) < 0) = false := decide_eq_false (by omega)
    (try simp only [go_sem, eq_self, Nat.reduceBEq, Nat.reduceAdd, Nat.reduceLeDiff, Nat.reduceMul, Nat.reduceSub, Nat.reduceLT, Int.reduceEq, Nat.reduceEqDiff, Int.reduceBEq, byteC, hA, e11, e3, rowC, hil, hg0, hw2, hng]); repeat' (first | (with_reducible refine c_split (fun hb => ?_) (fun hb => ?_) <;> try simp only [go_sem, eq_self, Nat.reduceBEq, Nat.reduceAdd, Nat.reduceLeDiff, Nat.reduceMul, Nat.reduceSub, Nat.reduceLT, Int.reduceEq, Nat.reduceEqDiff, Int.reduceBEq, byteC, hb, hA, e11, e3, rowC, hil, hg0, hw2, hng]) | (with_reducible refine w_split (fun hb => ?_) (fun hb => ?_) <;> try simp only [go_sem, eq_self, Nat.reduceBEq, Nat.reduceAdd, Nat.reduceLeDiff, Nat.reduceMul, Nat.reduceSub, Nat.reduceLT, Int.reduceEq, Nat.reduceEqDiff, Int.reduceBEq, byteC, hb, hA, e11, e3, rowC, hil, hg0, hw2, hng]) | (fail))
    refine GC.now (hJ _ _ hi (by simp only [go_sem, eq_self, Nat.reduceBEq, Nat.reduceAdd, Nat.reduceLeDiff, Nat.reduceMul, Nat.reduceSub, Nat.reduceLT, Int.reduceEq, Nat.reduceEqDiff, Int.reduceBEq, byteC, hA, e11, e3, rowC]) ⟨?_, ?_, ?_⟩) <;> try simp only [go_sem, eq_self, Nat.reduceBEq, Nat.reduceAdd, Nat.reduceLeDiff, Nat.reduceMul, Nat.reduceSub, Nat.reduceLT, Int.reduceEq, Nat.reduceEqDiff, Int.reduceBEq, byteC, hA, e11, e3, rowC, hw]
theorem c_Concat_im (xss : List (List UInt8)) (hn : xss.length ≤ 1000000000) (h0 : 0 < lenTo xss xss.length) (h1 : lenTo xss xss.length ≤ 1000000000000) (K : AV → AH → Prop) (hk : K (.one (.im (xss.flatten.map byteC))) []) : ACalls Try.prog 118 [(.one (.im (xss.map rowC)))] [] K := acall_im (c_Concat xss hn h0 h1 _ (im_row _ hk))
def sealS (bs : List UInt8) : List UInt8 × Bool := if 9000 < bs.length then ([], false) else (putNum bs.length ++ bs ++ ckBytes (ckN bs), true)
def sealR (s : List UInt8 × Bool) : AV := .tup [(.one (.im (s.1.map byteC))), (.one (.c (.bool (s.2))))]
theorem putN_len (x : Nat) : 0 < (putN x).length := by rw [putN]; split <;> simp
theorem putNum_nat (n : Nat) : putNum (n : Int) = putN n := by rw [putNum, if_neg (by omega), Int.toNat_natCast]
theorem putN_le : ∀ (f x : Nat), x < 128 ^ f → (putN x).length ≤ f + 1
  | 0, x, h => by rw [putN_small (by simp at h; omega)]; simp
  | f + 1, x, h => by
    by_cases hb : 127 < x
    · rw [putN_big hb]
      have := putN_le f (x / 128) (Nat.div_lt_of_lt_mul (by rw [Nat.pow_succ] at h; rw [Nat.mul_comm]; exact h))
      simp; omega
    · rw [putN_small hb]; simp
theorem putNum_le (n : Nat) (h : n < 9223372036854775808) : (putNum (n : Int)).length ≤ 10 := by
  rw [putNum_nat]; exact putN_le 9 n (by rw [show (128 : Nat) ^ 9 = 9223372036854775808 by decide]; exact h)
theorem c_impl_Seal (bs : List UInt8) (hn : bs.length ≤ 1000000000000) (K : AV → AH → Prop) (hk : K (sealR (sealS bs)) []) : ACalls Try.prog 91 [(.one (.im (bs.map byteC)))] [] K := by
  refine acall_c Try.f91.results.toList mixed Try.func91 rfl rfl (by kernel_rfl) ?_
  intro Q hQ hQO
  simp only [go_sem, eq_self, Nat.reduceBEq, Nat.reduceAdd, Nat.reduceLeDiff, Nat.reduceMul, Nat.reduceSub, Nat.reduceLT, Int.reduceEq, Nat.reduceEqDiff, Int.reduceBEq, byteC]
  (try simp only [go_sem, eq_self, Nat.reduceBEq, Nat.reduceAdd, Nat.reduceLeDiff, Nat.reduceMul, Nat.reduceSub, Nat.reduceLT, Int.reduceEq, Nat.reduceEqDiff, Int.reduceBEq, byteC]); repeat' (first | (with_reducible refine c_split (fun hb => ?_) (fun hb => ?_) <;> try simp only [go_sem, eq_self, Nat.reduceBEq, Nat.reduceAdd, Nat.reduceLeDiff, Nat.reduceMul, Nat.reduceSub, Nat.reduceLT, Int.reduceEq, Nat.reduceEqDiff, Int.reduceBEq, byteC, hb]) | (with_reducible refine w_split (fun hb => ?_) (fun hb => ?_) <;> try simp only [go_sem, eq_self, Nat.reduceBEq, Nat.reduceAdd, Nat.reduceLeDiff, Nat.reduceMul, Nat.reduceSub, Nat.reduceLT, Int.reduceEq, Nat.reduceEqDiff, Int.reduceBEq, byteC, hb]) | (fail))
  · have hb' : 9000 < bs.length := by have := of_decide_eq_true hb; omega
    rw [sealS, if_pos hb'] at hk
    (try simp only [go_sem, eq_self, Nat.reduceBEq, Nat.reduceAdd, Nat.reduceLeDiff, Nat.reduceMul, Nat.reduceSub, Nat.reduceLT, Int.reduceEq, Nat.reduceEqDiff, Int.reduceBEq, byteC]); repeat' (first | (with_reducible refine c_split (fun hb => ?_) (fun hb => ?_) <;> try simp only [go_sem, eq_self, Nat.reduceBEq, Nat.reduceAdd, Nat.reduceLeDiff, Nat.reduceMul, Nat.reduceSub, Nat.reduceLT, Int.reduceEq, Nat.reduceEqDiff, Int.reduceBEq, byteC, hb]) | (with_reducible refine w_split (fun hb => ?_) (fun hb => ?_) <;> try simp only [go_sem, eq_self, Nat.reduceBEq, Nat.reduceAdd, Nat.reduceLeDiff, Nat.reduceMul, Nat.reduceSub, Nat.reduceLT, Int.reduceEq, Nat.reduceEqDiff, Int.reduceBEq, byteC, hb]) | (with_reducible refine hQ _ _ ?_ <;> simp only [Try.f91, go_sem, eq_self, Nat.reduceBEq, Nat.reduceAdd, Nat.reduceLeDiff, Nat.reduceMul, Nat.reduceSub, Nat.reduceLT, Int.reduceEq, Nat.reduceEqDiff, Int.reduceBEq, byteC]))
    exact hk
  · have hb' : ¬ 9000 < bs.length := by have := of_decide_eq_false hb; omega
    rw [sealS, if_neg hb'] at hk
    (try simp only [go_sem, eq_self, Nat.reduceBEq, Nat.reduceAdd, Nat.reduceLeDiff, Nat.reduceMul, Nat.reduceSub, Nat.reduceLT, Int.reduceEq, Nat.reduceEqDiff, Int.reduceBEq, byteC]); repeat' (first | (with_reducible refine c_split (fun hb => ?_) (fun hb => ?_) <;> try simp only [go_sem, eq_self, Nat.reduceBEq, Nat.reduceAdd, Nat.reduceLeDiff, Nat.reduceMul, Nat.reduceSub, Nat.reduceLT, Int.reduceEq, Nat.reduceEqDiff, Int.reduceBEq, byteC, hb]) | (with_reducible refine w_split (fun hb => ?_) (fun hb => ?_) <;> try simp only [go_sem, eq_self, Nat.reduceBEq, Nat.reduceAdd, Nat.reduceLeDiff, Nat.reduceMul, Nat.reduceSub, Nat.reduceLT, Int.reduceEq, Nat.reduceEqDiff, Int.reduceBEq, byteC, hb]) | (refine call_c (c_checkBytes bs (by omega) _ ?_) <;> try simp only [go_sem, eq_self, Nat.reduceBEq, Nat.reduceAdd, Nat.reduceLeDiff, Nat.reduceMul, Nat.reduceSub, Nat.reduceLT, Int.reduceEq, Nat.reduceEqDiff, Int.reduceBEq, byteC]) | (refine call_c (c_impl_PutNum_im bs.length (by omega) _ ?_) <;> try simp only [go_sem, eq_self, Nat.reduceBEq, Nat.reduceAdd, Nat.reduceLeDiff, Nat.reduceMul, Nat.reduceSub, Nat.reduceLT, Int.reduceEq, Nat.reduceEqDiff, Int.reduceBEq, byteC]) | (fail))
    refine call_c (c_Concat_im [putNum bs.length, bs, ckBytes (ckN bs)] (Nat.le_of_ble_eq_true rfl) ?_ ?_ _ ?_)
    · rw [lenTo_eq]; simp [putNum_nat]; have := putN_len bs.length; omega
    · rw [lenTo_eq]; have := putNum_le bs.length (by omega); simp [ckBytes]; omega
    simp only [List.flatten_cons, List.flatten_nil, List.append_nil, ← List.append_assoc]
    (try simp only [go_sem, eq_self, Nat.reduceBEq, Nat.reduceAdd, Nat.reduceLeDiff, Nat.reduceMul, Nat.reduceSub, Nat.reduceLT, Int.reduceEq, Nat.reduceEqDiff, Int.reduceBEq, byteC]); repeat' (first | (with_reducible refine c_split (fun hb => ?_) (fun hb => ?_) <;> try simp only [go_sem, eq_self, Nat.reduceBEq, Nat.reduceAdd, Nat.reduceLeDiff, Nat.reduceMul, Nat.reduceSub, Nat.reduceLT, Int.reduceEq, Nat.reduceEqDiff, Int.reduceBEq, byteC, hb]) | (with_reducible refine w_split (fun hb => ?_) (fun hb => ?_) <;> try simp only [go_sem, eq_self, Nat.reduceBEq, Nat.reduceAdd, Nat.reduceLeDiff, Nat.reduceMul, Nat.reduceSub, Nat.reduceLT, Int.reduceEq, Nat.reduceEqDiff, Int.reduceBEq, byteC, hb]) | (with_reducible refine hQ _ _ ?_ <;> simp only [Try.f91, go_sem, eq_self, Nat.reduceBEq, Nat.reduceAdd, Nat.reduceLeDiff, Nat.reduceMul, Nat.reduceSub, Nat.reduceLT, Int.reduceEq, Nat.reduceEqDiff, Int.reduceBEq, byteC]))
    exact hk
theorem c_spec_Seal (bs : List UInt8) (hn : bs.length ≤ 1000000000000) (K : AV → AH → Prop) (hk : K (sealR (sealS bs)) []) : ACalls Try.prog 90 [(.one (.im (bs.map byteC)))] [] K := by
  refine acall_c Try.f90.results.toList mixed Try.func90 rfl rfl (by kernel_rfl) ?_
  intro Q hQ hQO
  simp only [go_sem, eq_self, Nat.reduceBEq, Nat.reduceAdd, Nat.reduceLeDiff, Nat.reduceMul, Nat.reduceSub, Nat.reduceLT, Int.reduceEq, Nat.reduceEqDiff, Int.reduceBEq, byteC]
  (try simp only [go_sem, eq_self, Nat.reduceBEq, Nat.reduceAdd, Nat.reduceLeDiff, Nat.reduceMul, Nat.reduceSub, Nat.reduceLT, Int.reduceEq, Nat.reduceEqDiff, Int.reduceBEq, byteC]); repeat' (first | (with_reducible refine c_split (fun hb => ?_) (fun hb => ?_) <;> try simp only [go_sem, eq_self, Nat.reduceBEq, Nat.reduceAdd, Nat.reduceLeDiff, Nat.reduceMul, Nat.reduceSub, Nat.reduceLT, Int.reduceEq, Nat.reduceEqDiff, Int.reduceBEq, byteC, hb]) | (with_reducible refine w_split (fun hb => ?_) (fun hb => ?_) <;> try simp only [go_sem, eq_self, Nat.reduceBEq, Nat.reduceAdd, Nat.reduceLeDiff, Nat.reduceMul, Nat.reduceSub, Nat.reduceLT, Int.reduceEq, Nat.reduceEqDiff, Int.reduceBEq, byteC, hb]) | (fail))
  · have hb' : 9000 < bs.length := by have := of_decide_eq_true hb; omega
    rw [sealS, if_pos hb'] at hk
    (try simp only [go_sem, eq_self, Nat.reduceBEq, Nat.reduceAdd, Nat.reduceLeDiff, Nat.reduceMul, Nat.reduceSub, Nat.reduceLT, Int.reduceEq, Nat.reduceEqDiff, Int.reduceBEq, byteC]); repeat' (first | (with_reducible refine c_split (fun hb => ?_) (fun hb => ?_) <;> try simp only [go_sem, eq_self, Nat.reduceBEq, Nat.reduceAdd, Nat.reduceLeDiff, Nat.reduceMul, Nat.reduceSub, Nat.reduceLT, Int.reduceEq, Nat.reduceEqDiff, Int.reduceBEq, byteC, hb]) | (with_reducible refine w_split (fun hb => ?_) (fun hb => ?_) <;> try simp only [go_sem, eq_self, Nat.reduceBEq, Nat.reduceAdd, Nat.reduceLeDiff, Nat.reduceMul, Nat.reduceSub, Nat.reduceLT, Int.reduceEq, Nat.reduceEqDiff, Int.reduceBEq, byteC, hb]) | (with_reducible refine hQ _ _ ?_ <;> simp only [Try.f90, go_sem, eq_self, Nat.reduceBEq, Nat.reduceAdd, Nat.reduceLeDiff, Nat.reduceMul, Nat.reduceSub, Nat.reduceLT, Int.reduceEq, Nat.reduceEqDiff, Int.reduceBEq, byteC]))
    exact hk
  · have hb' : ¬ 9000 < bs.length := by have := of_decide_eq_false hb; omega
    rw [sealS, if_neg hb'] at hk
    (try simp only [go_sem, eq_self, Nat.reduceBEq, Nat.reduceAdd, Nat.reduceLeDiff, Nat.reduceMul, Nat.reduceSub, Nat.reduceLT, Int.reduceEq, Nat.reduceEqDiff, Int.reduceBEq, byteC]); repeat' (first | (with_reducible refine c_split (fun hb => ?_) (fun hb => ?_) <;> try simp only [go_sem, eq_self, Nat.reduceBEq, Nat.reduceAdd, Nat.reduceLeDiff, Nat.reduceMul, Nat.reduceSub, Nat.reduceLT, Int.reduceEq, Nat.reduceEqDiff, Int.reduceBEq, byteC, hb]) | (with_reducible refine w_split (fun hb => ?_) (fun hb => ?_) <;> try simp only [go_sem, eq_self, Nat.reduceBEq, Nat.reduceAdd, Nat.reduceLeDiff, Nat.reduceMul, Nat.reduceSub, Nat.reduceLT, Int.reduceEq, Nat.reduceEqDiff, Int.reduceBEq, byteC, hb]) | (refine call_c (c_spec_Check bs (by omega) _ ?_) <;> try simp only [go_sem, eq_self, Nat.reduceBEq, Nat.reduceAdd, Nat.reduceLeDiff, Nat.reduceMul, Nat.reduceSub, Nat.reduceLT, Int.reduceEq, Nat.reduceEqDiff, Int.reduceBEq, byteC]) | (refine call_c (c_spec_PutNum bs.length (by omega) _ ?_) <;> try simp only [go_sem, eq_self, Nat.reduceBEq, Nat.reduceAdd, Nat.reduceLeDiff, Nat.reduceMul, Nat.reduceSub, Nat.reduceLT, Int.reduceEq, Nat.reduceEqDiff, Int.reduceBEq, byteC]) | (fail))
    have hpl := putNum_le bs.length (by omega)
    refine ap_end rfl (by simp) (by simp; omega) ?_
    have h8 : (0 : Int) ≤ 8 := by decide
    have h16 : (0 : Int) ≤ 16 := by decide
    have h24 : (0 : Int) ≤ 24 := by decide
    (try simp only [go_sem, eq_self, Nat.reduceBEq, Nat.reduceAdd, Nat.reduceLeDiff, Nat.reduceMul, Nat.reduceSub, Nat.reduceLT, Int.reduceEq, Nat.reduceEqDiff, Int.reduceBEq, byteC, b_shr, h8, h16, h24, shr8, shr16, shr24, u8_wrapn]); repeat' (first | (with_reducible refine c_split (fun hb => ?_) (fun hb => ?_) <;> try simp only [go_sem, eq_self, Nat.reduceBEq, Nat.reduceAdd, Nat.reduceLeDiff, Nat.reduceMul, Nat.reduceSub, Nat.reduceLT, Int.reduceEq, Nat.reduceEqDiff, Int.reduceBEq, byteC, hb, b_shr, h8, h16, h24, shr8, shr16, shr24, u8_wrapn]) | (with_reducible refine w_split (fun hb => ?_) (fun hb => ?_) <;> try simp only [go_sem, eq_self, Nat.reduceBEq, Nat.reduceAdd, Nat.reduceLeDiff, Nat.reduceMul, Nat.reduceSub, Nat.reduceLT, Int.reduceEq, Nat.reduceEqDiff, Int.reduceBEq, byteC, hb, b_shr, h8, h16, h24, shr8, shr16, shr24, u8_wrapn]) | (fail))
    refine ap_end rfl (by simp) (by simp; omega) ?_
    (try simp only [go_sem, eq_self, Nat.reduceBEq, Nat.reduceAdd, Nat.reduceLeDiff, Nat.reduceMul, Nat.reduceSub, Nat.reduceLT, Int.reduceEq, Nat.reduceEqDiff, Int.reduceBEq, byteC]); repeat' (first | (with_reducible refine c_split (fun hb => ?_) (fun hb => ?_) <;> try simp only [go_sem, eq_self, Nat.reduceBEq, Nat.reduceAdd, Nat.reduceLeDiff, Nat.reduceMul, Nat.reduceSub, Nat.reduceLT, Int.reduceEq, Nat.reduceEqDiff, Int.reduceBEq, byteC, hb]) | (with_reducible refine w_split (fun hb => ?_) (fun hb => ?_) <;> try simp only [go_sem, eq_self, Nat.reduceBEq, Nat.reduceAdd, Nat.reduceLeDiff, Nat.reduceMul, Nat.reduceSub, Nat.reduceLT, Int.reduceEq, Nat.reduceEqDiff, Int.reduceBEq, byteC, hb]) | (with_reducible refine hQ _ _ ?_ <;> simp only [Try.f90, go_sem, eq_self, Nat.reduceBEq, Nat.reduceAdd, Nat.reduceLeDiff, Nat.reduceMul, Nat.reduceSub, Nat.reduceLT, Int.reduceEq, Nat.reduceEqDiff, Int.reduceBEq, byteC]))
    have hrow : List.map byteC (putNum bs.length) ++ List.map byteC bs ++ (ckBytes (ckN bs)).map byteC = (putNum bs.length ++ bs ++ ckBytes (ckN bs)).map byteC := by simp
    have hlen : (putNum bs.length).length + bs.length + 4 = (putNum bs.length ++ bs ++ ckBytes (ckN bs)).length := by rw [List.length_append, List.length_append]; rfl
    simp only [ckBytes, List.map_cons, List.map_nil] at hrow hlen
    simp only [byteC] at hrow
    simp only [hrow, hlen]
    rw [byteC_tk, byteC_clz]
    exact hk
end Go.Proofs.Ytjfmfcdempkpdaa
