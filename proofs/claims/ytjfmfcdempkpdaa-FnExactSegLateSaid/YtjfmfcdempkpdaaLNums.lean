/- Nums: numbers and checks out of bytes, as the program and as the specification reads them. Conditions: none. -/
import Derived.Test.YtjfmfcdempkpdaaLF
import Derived.Test.YtjfmfcdempkpdaaLT
import Derived.Test.YtjfmfcdempkpdaaLFind
namespace Go.Proofs.Ytjfmfcdempkpdaa
open Go.BL Go.RowKit
set_option linter.unusedVariables false
set_option linter.unusedSimpArgs false
attribute [local go_sem] g_skip g_region g_draw g_seq g_cond g_block g_loop g_exit g_ret n_nil n_seq n_seq_e n_seq_r n_inv n_jn n_jn_e n_jn_r n_inv_e n_inv_r n_blk n_blk_r n_blk_e n_blk_ne c_true c_false r_nil r_cons r_want w_tt w_ff w_tf w_ft w_u k0_some k0_none ds_mk gs_at gs_some k_some k_none ho_t ho_nil ho_s ho_w ho0_t ho0_nil ho0_s ho0_w kl_some kl_none kl_dr kl_dr_none k_dr k_dr_none k0_dr k0_dr_none as_nil as_cons tc_store tc_call tcc tc_append tc_pt tc_sl tc_nl tc_box tc_alloc tc_build tc_load tc_bin tc_slice tc_convert tc_buildSlice tc_makeFunc tc_index tc_indexAddr tc_fieldAddr tc_field tc_pick tc_move tc_assign tc_makeSlice tc_nilCheck tc_len tc_min tc_max tc_un tc_extract cl_c cl_im cl_nl cl_emp cl_clo cl_agg clb_c clb_im clb_nl clb_emp clb_clo u_eq u_ne e_tmp e_const e_func v_int v_bool v_string v_nil v_nilFunc v_nilIface f_zero f_succ On_some o_move o_assign o_pick pick_t pick_f o_alloc new_some o_box box_some v_some objA_at obA_own objR_at obR_own obR_ro ldE_some ldR_some o_load load_pt load_pel o_store store_pt set_some stE_some pt_t o_fieldAddr fa_pt fa_pel o_field fd_agg o_indexAddr ia_sl iaO_some ia_im iaE_some o_index ix_str nq_e nq_n nq_e0 nq_n0 is_nl is_emp is_im is_sl fr_nl fr_emp fr_im fr_sl nq_nl nq_emp nq_im0 nq_im nq_imc nq_sl0 nq_sl nq_sls o_bin b_add b_sub b_mul b_quo b_rem b_eql b_neq b_lss b_leq b_gtr b_geq b_beql b_bneq b_seql b_sneq b_sadd b_aeql b_aneq aq_f aq_t eq_nil and2_some eq_cons ef_some ev_int ev_str ev_bool b_and b_or b_xor b_shl b_shr b_nil o_un un_not un_neg o_extract ex_tup o_nilCheck nc_pt nc_pel o_len ln_str ln_nl ln_emp ln_im ln_sl o_call ca_fn ca_clo c_val c_int c_bool c_str c_nl c_emp c_im c_pt c_pel c_sl c_clo c_agg p_any p_one p_agg h_cons h_len h_at h_at0 h_set h_set0 cset_nil cset_cons im_c im_nl im_emp im_im im_pel im_sl im_clo im_agg imv_c imv_nl imv_emp imv_im imv_sl imS_some imS_all clz_c clz_im clz_nl lo_c lo_nl lo_emp lo_im lo_pel lo_pt lo_sl lo_clo lo_agg lv_c lv_nl lv_emp lv_im lv_sl fz_nil fz_cons frO2_some frO_own frO_ro pl_c pl_im pl_sl pl_agg pl_tup pl1_c pl1_im pl1_sl pl1_agg plc_c plc_im plc_nl plc_sl sh_1 sh_agg sh_tup sh1_1 sh1_agg shv_c shv_nl shv_emp shv_im shv_sl sho_own pt_nil pt_cons pt2_some fl_nil fl_cons fl2_some o_build bd_some ag_some fe_nil fe_cons o_buildSlice bs_some bs2_some bs3_some le_maxLen o_makeSlice mk_some mk2_some bd_none bd_int o_slice sl_str ss_some sl_im si_some sl_im3 se_some sl_se sxe_some sx_a sx_0 cap_nil cap_cons cap2_some o_makeFunc mf_some o_convert cv_int ci_some cv_str cs_ss cs_sb cv_sl cv_im cv_nl cv_emp sb_some so_some o_append ap_some ap3_some src_at srB_t srB_i row_sl rw_some rw_all row_nl row_emp row_im row_str ks_nil ks_cons ks_map ks_app ks_bytes o_copy o_clear cr_im0 cr_nl cr_emp o_cap cg_nl cg_emp o_min o_max mm_f mm_t d_nil d_cons d_op d_want held_p held_s held_ro d_tk d_tw tk_v tk_l tw_tt tw_ff tw_tf tw_ft tw_u t_move t_assign t_slice ts_sl tsE_some tsS_some tsS_0 ts_str tsT_some ts_im tsI_some tagB_some t_build tbd_some tkN_t t_nilCheck tnc_pt tnc_pel t_pick tp_t tp_f vl_some t_load tl_pt tl_pel tfB_t t_fieldAddr tf_pt tf_pel t_indexAddr ti_sl tiO_some ti_im tiE_some t_bin tb_add tb_sub tb_mul tb_eql tb_neq tb_lss tb_leq tb_gtr tb_geq t_un tu_not t_extract t_len tn_str tn_nl tn_emp tn_im tn_sl t_convert tcg_int tb_seql tb_sneq tb_sadd tb_beql tb_bneq tb_and tb_or tb_shl tb_shr tb_rem tb_quo te_tup clE_nil clE_cons clE_map clE_app clE_bytes clz_E shV_E rs_nil rs_cons cons2_some rs_tmp rs_cell rc_pt ot_1 ot_2 ot_0 ret_i ri_some ret_o ro_some nt_1 nt_agg ra_tup ra_1 ra_agg rt_tup rt_1 rt_agg rna_c rna_nl rna_im rna_sl rna_agg rnv_c rnv_nl rnv_im rnv_sl rnS_some rnS_none stL_nil stL_cons stL_map stL_app stL_bytes st_c st_im rno_own rno_none tr_at tr_c tr_nl tr_im tr_sl tr_pt tr_agg trv_c trv_im trv_nl trv_sl lt_own lt_ro lt_dead lte_nil lte_cons lte_cl ltv_c ltv_nl ltv_im ltv_sl ltv_pt cc_p cc_n ccI_t ccI_f cc_o fe_c fe_im fe_sl fe_agg fe_tup fe1_c fe1_im fe1_sl fe1_agg fec_c fec_im fec_sl fec_nl feo_own feo_dead fee_nil fee_cons fee_app fee_map ag_nil ag_cons bo_nil bo_cons bo_map
attribute [local go_sem] List.map_cons List.map_nil List.getElem?_cons_zero List.getElem?_cons_succ List.getElem?_nil Option.map_some Option.map_none List.length_cons List.length_nil List.cons_append List.nil_append ds_mk Option.bind_some List.set_cons_zero List.set_cons_succ List.getElem?_toArray List.size_toArray Array.size_empty List.forall_mem_cons List.drop_zero List.drop_succ_cons List.take_succ_cons List.take_zero List.take_nil Nat.le_refl Option.isSome_some ne_eq not_false_eq_true Bool.and_true Bool.true_and Bool.true_or Bool.false_or Bool.or_false Bool.or_true Bool.false_and Bool.and_false Bool.not_true Bool.not_false List.not_mem_nil false_implies implies_true Int.toNat_natCast Int.natCast_nonneg ite_true ite_false if_true if_false Bool.false_eq_true true_and and_true and_self Nat.add_zero Nat.zero_add List.flatMap_cons List.flatMap_nil List.append_nil List.all_cons List.all_nil List.getElem?_map List.length_map Nat.zero_lt_one List.replicate_succ List.replicate_zero List.length_append List.length_set decide_true decide_false List.set_set
attribute [local go_sem] ag2 sz2 by2 ze2 el2 st2 ki2 us2 ag3 sz3 by3 ze3 el3 st3 ki3 us3 ag4 sz4 by4 ze4 bo4 ag5 sz5 by5 ze5 el5 st5 ki5 us5 ag6 sz6 by6 ze6 el6 st6 ki6 us6 ag7 sz7 by7 ze7 of7_0 of7_1 of7_2 of7_3 pl7 eq7 ag8 sz8 by8 ze8 of8_0 of8_1 of8_2 of8_3 pl8 eq8 ag9 sz9 by9 ze9 el9 st9 ag10 sz10 by10 ze10 el10 st10 ag11 sz11 by11 ze11 el11 st11 ag12 sz12 by12 ze12 el12 st12 ki12 us12 ag13 sz13 by13 ze13 of13_0 of13_1 pl13 ag14 sz14 by14 ze14 of14_0 of14_1 pl14 ag15 sz15 by15 ag16 sz16 by16 ag17 sz17 by17 ag18 sz18 by18 of18_0 pl18 ag19 sz19 by19 of19_0 pl19 ag21 sz21 by21 ze21 el21 st21 ki21 us21 ag22 sz22 by22 ze22 of22_0 of22_1 of22_2 of22_3 pl22 eq22 ag23 sz23 by23 ze23 of23_0 of23_1 of23_2 of23_3 pl23 eq23 ag26 sz26 by26 ze26 of26_0 of26_1 of26_2 of26_3 pl26 eq26 ag29 sz29 by29 ze29 el29 st29 ag30 sz30 by30 ze30 of30_0 of30_1 pl30 ag31 sz31 by31 ze31 of31_0 of31_1 pl31 ag33 sz33 by33 ze33 el33 st33 ag35 sz35 by35 ze35 el35 st35 ag36 sz36 by36 ze36 of36_0 of36_1 pl36 ag37 sz37 by37 ze37 of37_0 of37_1 pl37 ag47 sz47 by47 ze47 el47 st47 ag54 sz54 by54 ze54 el54 st54 ag75 sz75 by75 ze75 of75_0 of75_1 of75_2 pl75 eq75 ag76 sz76 by76 ze76 of76_0 of76_1 of76_2 pl76 eq76 ag83 sz83 by83 ag97 sz97 by97 ze97 of97_0 of97_1 of97_2 pl97 eq97 ag105 sz105 by105 ze105 el105 st105 ki105 us105 ag111 sz111 by111 ze111 of111_0 of111_1 of111_2 pl111 ag112 sz112 by112 ze112 of112_0 of112_1 of112_2 pl112 ag115 sz115 by115 ag120 sz120 by120 ze120 el120 st120 ag125 sz125 by125 of125_0 of125_1 of125_2 of125_3 pl125 ag126 sz126 by126 of126_0 of126_1 of126_2 of126_3 pl126 ag131 sz131 by131 ze131 el131 st131 ki131 us131 ag132 sz132 by132 ze132 el132 st132 ki132 us132 ag133 sz133 by133 ze133 el133 st133 ki133 us133 ag135 sz135 by135 ag136 sz136 by136 ze136 el136 st136 ki136 us136 ag137 sz137 by137 ze137 el137 st137 ki137 us137 ag138 sz138 by138 of138_0 of138_1 of138_2 of138_3 of138_4 of138_5 of138_6 of138_7 of138_8 of138_9 of138_10 pl138 ag139 sz139 by139 of139_0 of139_1 of139_2 of139_3 of139_4 of139_5 of139_6 of139_7 of139_8 of139_9 of139_10 pl139
set_option maxRecDepth 100000
attribute [local go_sem] fileC_cl fileC_st fileC_clE fileC_stL fileC_ltE fileC_clz fileC_shV fileC_snoc fileC_ks fileC_tk fileC_fr fileC_set fileC_rep
theorem byteC_cl (x : UInt8) : (byteC x).all clB = true := by first | rfl | (cases x; rfl)
theorem byteC_st (x : UInt8) : (byteC x).all stB = true := by first | rfl | (cases x; rfl)
theorem byteC_clE (xs : List (UInt8)) : clE (xs.map byteC) = true := clE_map _ _ byteC_cl
theorem byteC_stL (xs : List (UInt8)) : stL (xs.map byteC) = true := stL_map _ _ byteC_st
theorem byteC_ltE (n : Nat) (xs : List (UInt8)) : ltE n (xs.map byteC) = true := lte_cl _ _ (byteC_clE xs)
theorem byteC_clz (xs : List (UInt8)) : (xs.map byteC).map (List.map clz) = xs.map byteC := clz_E _ (byteC_clE xs)
theorem byteC_shV (n : Nat) (xs : List (UInt8)) : (xs.map byteC).map (List.map (shV n)) = xs.map byteC := shV_E _ _ (byteC_clE xs)
theorem byteC_snoc (xs : List (UInt8)) (b : UInt8) : xs.map byteC ++ [[.c (.int .u8 ((b.toNat : Int)))]] = (xs ++ [(b : UInt8)]).map byteC := by rw [List.map_append]; rfl
theorem byteC_set (xs : List (UInt8)) (q : Nat) (b : UInt8) : (xs.map byteC).set q [.c (.int .u8 ((b.toNat : Int)))] = (xs.set q (b : UInt8)).map byteC := by rw [List.map_set]; rfl
theorem byteC_rep (q : Nat) (b : UInt8) : List.replicate q [.c (.int .u8 ((b.toNat : Int)))] = (List.replicate q (b : UInt8)).map byteC := map_rep _ _ _ _ rfl
theorem byteC_tk (xs : List (UInt8)) : (xs.map byteC).take xs.length = xs.map byteC := List.take_of_length_le (by simp)
theorem byteC_ks (xs : List (UInt8)) : ksB (1) (xs.map byteC) = true := by simp [ksB, byteC]
theorem byteC_fr (xs : List (UInt8)) : freeE (xs.map byteC) = true := fee_map _ _ (fun x => by first | rfl | (cases x; rfl))
attribute [local go_sem] byteC_cl byteC_st byteC_clE byteC_stL byteC_ltE byteC_clz byteC_shV byteC_snoc byteC_ks byteC_tk byteC_fr byteC_set byteC_rep
/-- A number from place a + k on, behind what stands for k bytes. -/
def gnGo (bs : List UInt8) (a : Nat) : Nat → Nat → Nat → Option (Nat × Nat)
  | 0, _, _ => none
  | f + 1, k, x => match bs[a + k]? with
    | none => none
    | some d => if d.toNat < 128 then (if d.toNat = 0 ∧ 0 < k then none else some (x + d.toNat % 128 * 128 ^ k, a + k + 1)) else gnGo bs a f (k + 1) (x + d.toNat % 128 * 128 ^ k)
def getNum (bs : List UInt8) (at_ : Int) : Option (Nat × Nat) := if 0 ≤ at_ ∧ at_ < bs.length then gnGo bs at_.toNat 9 0 0 else none
def numA : Option (Nat × Nat) → AV
  | some (x, n) => .tup [(.one (.c (.int .i64 ((x : Int))))), (.one (.c (.int .i64 ((n : Int))))), (.one (.c (.bool (true))))]
  | none => .tup [(.one (.c (.int .i64 (0)))), (.one (.c (.int .i64 (0)))), (.one (.c (.bool (false))))]
theorem gn_arith {d k x p : Nat} (hp : p = 128 ^ k) (hk : k ≤ 8) (hx : x < p) : p ≤ 72057594037927936 ∧ x + d % 128 * p < p * 128 ∧ p * 128 = 128 ^ (k + 1) ∧ wrap64 (p : Int) = p ∧ wrap64 (((d % 128 : Nat) : Int) * (p : Int)) = ((d % 128 * p : Nat) : Int) ∧ wrap64 ((x : Int) + ((d % 128 * p : Nat) : Int)) = ((x + d % 128 * p : Nat) : Int) := by
  have h1 : p ≤ 128 ^ 8 := hp ▸ Nat.pow_le_pow_right (by decide) hk
  have h1 : p ≤ 72057594037927936 := h1
  have h2 : d % 128 * p ≤ 127 * p := Nat.mul_le_mul_right p (by omega)
  have h3 : (((d % 128 : Nat) : Int) * (p : Int)) = ((d % 128 * p : Nat) : Int) := by rw [Int.natCast_mul]
  generalize hq : d % 128 * p = q at *
  refine ⟨h1, by omega, by rw [hp, Nat.pow_succ], by unfold wrap64; omega, ?_, by unfold wrap64; omega⟩
  rw [h3]; unfold wrap64; omega
theorem u8_wrap (b : UInt8) : IntKind.i64.wrap (b.toNat : Int) = (b.toNat : Int) := by
  have := b.toNat_lt
  rw [IntKind.wrap_i64]; omega
theorem nat_tmod128 (d : Nat) : (d : Int).tmod 128 = ((d % 128 : Nat) : Int) := by rw [Int.tmod_eq_emod_of_nonneg (by omega)]; rfl
theorem not_lt_len {n i : Nat} (h : decide ((i : Int) < (n : Int)) = false) : n ≤ i := by have := of_decide_eq_false h; omega
theorem gn_less {k : Nat} (h : k ≤ 8) : 9 - (k + 1) < 9 - k := by omega
theorem wrap_add2 {a k n : Nat} (h : a + k < n) (hn : n ≤ 1000000000000000) : wrap64 ((a : Int) + (k : Int)) = ((a + k : Nat) : Int) ∧ wrap64 (((a + k : Nat) : Int) + 1) = ((a + k + 1 : Nat) : Int) := by constructor <;> (unfold wrap64; omega)
theorem nat_eq0 (d : Nat) : ((d : Int) == 0) = decide (d = 0) := by
  by_cases h : d = 0
  · subst h; rfl
  · rw [decide_eq_false h]; simpa using h
theorem nat_lt128 (d : Nat) : decide ((d : Int) < 128) = decide (d < 128) := by simp; omega
theorem nat_pos' (k : Nat) : decide ((0 : Int) < (k : Int)) = decide (0 < k) := by simp
theorem c_spec_GetNum (bs : List UInt8) (at_ : Int) (hn : bs.length ≤ 1000000000000000) (K : AV → AH → Prop) (hk : K (numA (getNum bs at_)) []) : ACalls Try.prog 103 [(.one (.im (bs.map byteC))), (.one (.c (.int .i64 (at_))))] [] K := by
  have h128 : (128 : Int) ≠ 0 := by decide
  refine acall_c Try.f103.results.toList mixed Try.func103 rfl rfl (by kernel_rfl) ?_
  intro Q hQ hQO
  simp only [go_sem, eq_self, Nat.reduceBEq, Nat.reduceAdd, Nat.reduceLeDiff, Nat.reduceMul, Nat.reduceSub, Nat.reduceLT, Int.reduceEq, Nat.reduceEqDiff, Int.reduceBEq, byteC]
  (try simp only [go_sem, eq_self, Nat.reduceBEq, Nat.reduceAdd, Nat.reduceLeDiff, Nat.reduceMul, Nat.reduceSub, Nat.reduceLT, Int.reduceEq, Nat.reduceEqDiff, Int.reduceBEq, byteC]); repeat' (first | (with_reducible refine c_split (fun hb => ?_) (fun hb => ?_) <;> try simp only [go_sem, eq_self, Nat.reduceBEq, Nat.reduceAdd, Nat.reduceLeDiff, Nat.reduceMul, Nat.reduceSub, Nat.reduceLT, Int.reduceEq, Nat.reduceEqDiff, Int.reduceBEq, byteC, hb]) | (with_reducible refine w_split (fun hb => ?_) (fun hb => ?_) <;> try simp only [go_sem, eq_self, Nat.reduceBEq, Nat.reduceAdd, Nat.reduceLeDiff, Nat.reduceMul, Nat.reduceSub, Nat.reduceLT, Int.reduceEq, Nat.reduceEqDiff, Int.reduceBEq, byteC, hb]) | (fail))
  · (try simp only [go_sem, eq_self, Nat.reduceBEq, Nat.reduceAdd, Nat.reduceLeDiff, Nat.reduceMul, Nat.reduceSub, Nat.reduceLT, Int.reduceEq, Nat.reduceEqDiff, Int.reduceBEq, byteC]); repeat' (first | (with_reducible refine c_split (fun hb => ?_) (fun hb => ?_) <;> try simp only [go_sem, eq_self, Nat.reduceBEq, Nat.reduceAdd, Nat.reduceLeDiff, Nat.reduceMul, Nat.reduceSub, Nat.reduceLT, Int.reduceEq, Nat.reduceEqDiff, Int.reduceBEq, byteC, hb]) | (with_reducible refine w_split (fun hb => ?_) (fun hb => ?_) <;> try simp only [go_sem, eq_self, Nat.reduceBEq, Nat.reduceAdd, Nat.reduceLeDiff, Nat.reduceMul, Nat.reduceSub, Nat.reduceLT, Int.reduceEq, Nat.reduceEqDiff, Int.reduceBEq, byteC, hb]) | (with_reducible refine hQ _ _ ?_ <;> simp only [Try.f103, go_sem, eq_self, Nat.reduceBEq, Nat.reduceAdd, Nat.reduceLeDiff, Nat.reduceMul, Nat.reduceSub, Nat.reduceLT, Int.reduceEq, Nat.reduceEqDiff, Int.reduceBEq, byteC]))
    rw [getNum, if_neg (fun q => by have := of_decide_eq_true hb; omega)] at hk
    exact hk
  · (try simp only [go_sem, eq_self, Nat.reduceBEq, Nat.reduceAdd, Nat.reduceLeDiff, Nat.reduceMul, Nat.reduceSub, Nat.reduceLT, Int.reduceEq, Nat.reduceEqDiff, Int.reduceBEq, byteC]); repeat' (first | (with_reducible refine c_split (fun hb => ?_) (fun hb => ?_) <;> try simp only [go_sem, eq_self, Nat.reduceBEq, Nat.reduceAdd, Nat.reduceLeDiff, Nat.reduceMul, Nat.reduceSub, Nat.reduceLT, Int.reduceEq, Nat.reduceEqDiff, Int.reduceBEq, byteC, hb]) | (with_reducible refine w_split (fun hb => ?_) (fun hb => ?_) <;> try simp only [go_sem, eq_self, Nat.reduceBEq, Nat.reduceAdd, Nat.reduceLeDiff, Nat.reduceMul, Nat.reduceSub, Nat.reduceLT, Int.reduceEq, Nat.reduceEqDiff, Int.reduceBEq, byteC, hb]) | (with_reducible refine hQ _ _ ?_ <;> simp only [Try.f103, go_sem, eq_self, Nat.reduceBEq, Nat.reduceAdd, Nat.reduceLeDiff, Nat.reduceMul, Nat.reduceSub, Nat.reduceLT, Int.reduceEq, Nat.reduceEqDiff, Int.reduceBEq, byteC]))
    rw [getNum, if_neg (fun q => by have := of_decide_eq_true hb; omega)] at hk
    exact hk
  rename_i hb1
  have hr : 0 ≤ at_ ∧ at_ < bs.length := ⟨by have := of_decide_eq_false hb1; omega, by have := of_decide_eq_false hb; omega⟩
  obtain ⟨a, rfl⟩ : ∃ a : Nat, at_ = (a : Int) := ⟨at_.toNat, by omega⟩
  rw [getNum, if_pos hr, Int.toNat_natCast] at hk
  generalize hG : gnGo bs a 9 0 0 = G at hk
  refine while_at (α := Nat × Nat × Nat) (fun ⟨k, x, p⟩ => 9 - k) [0, 1] (fun ⟨k, x, p⟩ f h => f 9 = (.one (.c (.int .i64 ((k : Int))))) ∧ f 7 = (.one (.c (.int .i64 ((x : Int))))) ∧ f 8 = (.one (.c (.int .i64 (wrap64 (p : Int))))) ∧ h = [] ∧ k ≤ 9 ∧ p = 128 ^ k ∧ x < p ∧ gnGo bs a (9 - k) k x = G) (0, 0, 1) (GC.now ?_) ?_
  · simp only [go_sem, eq_self, Nat.reduceBEq, Nat.reduceAdd, Nat.reduceLeDiff, Nat.reduceMul, Nat.reduceSub, Nat.reduceLT, Int.reduceEq, Nat.reduceEqDiff, Int.reduceBEq, byteC, nc_0, true_and]
    simp [wrap64, hG]
  · rintro ⟨k, x, p⟩ f h J hA ⟨e9, e7, e8, rfl, hP⟩ hJ
    simp only [go_sem, eq_self, Nat.reduceBEq, Nat.reduceAdd, Nat.reduceLeDiff, Nat.reduceMul, Nat.reduceSub, Nat.reduceLT, Int.reduceEq, Nat.reduceEqDiff, Int.reduceBEq, byteC] at hA
    try dsimp only at hJ
    simp only [go_sem, eq_self, Nat.reduceBEq, Nat.reduceAdd, Nat.reduceLeDiff, Nat.reduceMul, Nat.reduceSub, Nat.reduceLT, Int.reduceEq, Nat.reduceEqDiff, Int.reduceBEq, byteC, hA, e9, e7, e8]
    obtain ⟨hk9, hp, hx, hg⟩ := hP
    refine w_split (fun hb2 => ?_) (fun hb2 => ?_) <;> simp only [go_sem, eq_self, Nat.reduceBEq, Nat.reduceAdd, Nat.reduceLeDiff, Nat.reduceMul, Nat.reduceSub, Nat.reduceLT, Int.reduceEq, Nat.reduceEqDiff, Int.reduceBEq, byteC, hb2, hA, e9, e7, e8]
    · have hk8 : k ≤ 8 := by have := of_decide_eq_true hb2; omega
      obtain ⟨ha1, ha2, ha3, ha4, ha5, ha6⟩ := gn_arith (d := (bs[a + k]?.getD 0).toNat) hp hk8 hx
      have haw : wrap64 ((a : Int) + (k : Int)) = ((a + k : Nat) : Int) := by unfold wrap64; omega
      have h9 : 9 - k = (9 - (k + 1)) + 1 := by omega
      have hkw := wrap_nat k (by omega)
      simp only [haw]
      refine c_split (fun hb3 => ?_) (fun hb3 => ?_) <;> simp only [go_sem, eq_self, Nat.reduceBEq, Nat.reduceAdd, Nat.reduceLeDiff, Nat.reduceMul, Nat.reduceSub, Nat.reduceLT, Int.reduceEq, Nat.reduceEqDiff, Int.reduceBEq, byteC, hb3, hA, e9, e7, e8]
      · have hi := lt_len hb3
        have hil : ((a + k : Nat) : Int) < (bs.length : Int) := Int.ofNat_lt.2 hi
        have hg0 : bs[a + k]? = some bs[a + k] := List.getElem?_eq_getElem hi
        rw [hg0, Option.getD_some] at ha2 ha5 ha6
        have hd := nat_tmod128 bs[a + k].toNat
        rw [h9, gnGo, hg0] at hg
        simp only at hg
        rw [← hp] at hg
        simp only [go_sem, eq_self, Nat.reduceBEq, Nat.reduceAdd, Nat.reduceLeDiff, Nat.reduceMul, Nat.reduceSub, Nat.reduceLT, Int.reduceEq, Nat.reduceEqDiff, Int.reduceBEq, byteC, hA, e9, e7, e8, haw, hil, hg0, ne_eq, h128, not_false_eq_true, b_rem, hd, ha4, ha5, ha6]
        have hwd := u8_wrap bs[a + k]
        obtain ⟨_, hn1⟩ := wrap_add2 hi hn
        have hless := gn_less hk8
        have hpm : ((p * 128 : Nat) : Int) = (p : Int) * 128 := Int.natCast_mul p 128
        simp only [hwd, nat_lt128, nat_tmod128, ha5, ha6]
        by_cases h4 : bs[a + k].toNat < 128
        · simp only [go_sem, eq_self, Nat.reduceBEq, Nat.reduceAdd, Nat.reduceLeDiff, Nat.reduceMul, Nat.reduceSub, Nat.reduceLT, Int.reduceEq, Nat.reduceEqDiff, Int.reduceBEq, byteC, hA, e9, e7, e8, h4, if_true, nat_eq0] at hg ⊢
          by_cases h5 : bs[a + k].toNat = 0
          · by_cases h6 : 0 < k
            · rw [if_pos ⟨h5, h6⟩] at hg
              subst hg
              (try simp only [go_sem, eq_self, Nat.reduceBEq, Nat.reduceAdd, Nat.reduceLeDiff, Nat.reduceMul, Nat.reduceSub, Nat.reduceLT, Int.reduceEq, Nat.reduceEqDiff, Int.reduceBEq, byteC, hA, e9, e7, e8, h5, nat_pos', h6]); repeat' (first | (with_reducible refine c_split (fun hb => ?_) (fun hb => ?_) <;> try simp only [go_sem, eq_self, Nat.reduceBEq, Nat.reduceAdd, Nat.reduceLeDiff, Nat.reduceMul, Nat.reduceSub, Nat.reduceLT, Int.reduceEq, Nat.reduceEqDiff, Int.reduceBEq, byteC, hb, hA, e9, e7, e8, h5, nat_pos', h6]) | (with_reducible refine w_split (fun hb => ?_) (fun hb => ?_) <;> try simp only [go_sem, eq_self, Nat.reduceBEq, Nat.reduceAdd, Nat.reduceLeDiff, Nat.reduceMul, Nat.reduceSub, Nat.reduceLT, Int.reduceEq, Nat.reduceEqDiff, Int.reduceBEq, byteC, hb, hA, e9, e7, e8, h5, nat_pos', h6]) | (with_reducible refine hQ _ _ ?_ <;> simp only [Try.f103, go_sem, eq_self, Nat.reduceBEq, Nat.reduceAdd, Nat.reduceLeDiff, Nat.reduceMul, Nat.reduceSub, Nat.reduceLT, Int.reduceEq, Nat.reduceEqDiff, Int.reduceBEq, byteC, hA, e9, e7, e8, h5, nat_pos', h6]))
              exact hk
            · rw [if_neg (fun q => h6 q.2)] at hg
              subst hg
              (try simp only [go_sem, eq_self, Nat.reduceBEq, Nat.reduceAdd, Nat.reduceLeDiff, Nat.reduceMul, Nat.reduceSub, Nat.reduceLT, Int.reduceEq, Nat.reduceEqDiff, Int.reduceBEq, byteC, hA, e9, e7, e8, h5, nat_pos', h6, haw, hn1]); repeat' (first | (with_reducible refine c_split (fun hb => ?_) (fun hb => ?_) <;> try simp only [go_sem, eq_self, Nat.reduceBEq, Nat.reduceAdd, Nat.reduceLeDiff, Nat.reduceMul, Nat.reduceSub, Nat.reduceLT, Int.reduceEq, Nat.reduceEqDiff, Int.reduceBEq, byteC, hb, hA, e9, e7, e8, h5, nat_pos', h6, haw, hn1]) | (with_reducible refine w_split (fun hb => ?_) (fun hb => ?_) <;> try simp only [go_sem, eq_self, Nat.reduceBEq, Nat.reduceAdd, Nat.reduceLeDiff, Nat.reduceMul, Nat.reduceSub, Nat.reduceLT, Int.reduceEq, Nat.reduceEqDiff, Int.reduceBEq, byteC, hb, hA, e9, e7, e8, h5, nat_pos', h6, haw, hn1]) | (with_reducible refine hQ _ _ ?_ <;> simp only [Try.f103, go_sem, eq_self, Nat.reduceBEq, Nat.reduceAdd, Nat.reduceLeDiff, Nat.reduceMul, Nat.reduceSub, Nat.reduceLT, Int.reduceEq, Nat.reduceEqDiff, Int.reduceBEq, byteC, hA, e9, e7, e8, h5, nat_pos', h6, haw, hn1]))
              rw [h5] at hk
              exact hk
          · rw [if_neg (fun q => h5 q.1)] at hg
            subst hg
            (try simp only [go_sem, eq_self, Nat.reduceBEq, Nat.reduceAdd, Nat.reduceLeDiff, Nat.reduceMul, Nat.reduceSub, Nat.reduceLT, Int.reduceEq, Nat.reduceEqDiff, Int.reduceBEq, byteC, hA, e9, e7, e8, h5, haw, hn1]); repeat' (first | (with_reducible refine c_split (fun hb => ?_) (fun hb => ?_) <;> try simp only [go_sem, eq_self, Nat.reduceBEq, Nat.reduceAdd, Nat.reduceLeDiff, Nat.reduceMul, Nat.reduceSub, Nat.reduceLT, Int.reduceEq, Nat.reduceEqDiff, Int.reduceBEq, byteC, hb, hA, e9, e7, e8, h5, haw, hn1]) | (with_reducible refine w_split (fun hb => ?_) (fun hb => ?_) <;> try simp only [go_sem, eq_self, Nat.reduceBEq, Nat.reduceAdd, Nat.reduceLeDiff, Nat.reduceMul, Nat.reduceSub, Nat.reduceLT, Int.reduceEq, Nat.reduceEqDiff, Int.reduceBEq, byteC, hb, hA, e9, e7, e8, h5, haw, hn1]) | (with_reducible refine hQ _ _ ?_ <;> simp only [Try.f103, go_sem, eq_self, Nat.reduceBEq, Nat.reduceAdd, Nat.reduceLeDiff, Nat.reduceMul, Nat.reduceSub, Nat.reduceLT, Int.reduceEq, Nat.reduceEqDiff, Int.reduceBEq, byteC, hA, e9, e7, e8, h5, haw, hn1]))
            exact hk
        · simp only [go_sem, eq_self, Nat.reduceBEq, Nat.reduceAdd, Nat.reduceLeDiff, Nat.reduceMul, Nat.reduceSub, Nat.reduceLT, Int.reduceEq, Nat.reduceEqDiff, Int.reduceBEq, byteC, hA, e9, e7, e8, h4, if_false] at hg ⊢
          (try simp only [go_sem, eq_self, Nat.reduceBEq, Nat.reduceAdd, Nat.reduceLeDiff, Nat.reduceMul, Nat.reduceSub, Nat.reduceLT, Int.reduceEq, Nat.reduceEqDiff, Int.reduceBEq, byteC, hA, e9, e7, e8, ha4, hkw]); repeat' (first | (with_reducible refine c_split (fun hb => ?_) (fun hb => ?_) <;> try simp only [go_sem, eq_self, Nat.reduceBEq, Nat.reduceAdd, Nat.reduceLeDiff, Nat.reduceMul, Nat.reduceSub, Nat.reduceLT, Int.reduceEq, Nat.reduceEqDiff, Int.reduceBEq, byteC, hb, hA, e9, e7, e8, ha4, hkw]) | (with_reducible refine w_split (fun hb => ?_) (fun hb => ?_) <;> try simp only [go_sem, eq_self, Nat.reduceBEq, Nat.reduceAdd, Nat.reduceLeDiff, Nat.reduceMul, Nat.reduceSub, Nat.reduceLT, Int.reduceEq, Nat.reduceEqDiff, Int.reduceBEq, byteC, hb, hA, e9, e7, e8, ha4, hkw]) | (fail))
          refine gc_trim 0 (by decide) (by simp only [go_sem, eq_self, Nat.reduceBEq, Nat.reduceAdd, Nat.reduceLeDiff, Nat.reduceMul, Nat.reduceSub, Nat.reduceLT, Int.reduceEq, Nat.reduceEqDiff, Int.reduceBEq, byteC]) (by simp only [go_sem, eq_self, Nat.reduceBEq, Nat.reduceAdd, Nat.reduceLeDiff, Nat.reduceMul, Nat.reduceSub, Nat.reduceLT, Int.reduceEq, Nat.reduceEqDiff, Int.reduceBEq, byteC, ha4, hkw, hpm]) (hJ (k + 1, x + bs[a + k].toNat % 128 * p, p * 128) _ _ (by exact hless) (by simp only [go_sem, eq_self, Nat.reduceBEq, Nat.reduceAdd, Nat.reduceLeDiff, Nat.reduceMul, Nat.reduceSub, Nat.reduceLT, Int.reduceEq, Nat.reduceEqDiff, Int.reduceBEq, byteC, hA, e9, e7, e8]) ⟨?_, ?_, ?_, ?_, ?_⟩) <;> try simp only [go_sem, eq_self, Nat.reduceBEq, Nat.reduceAdd, Nat.reduceLeDiff, Nat.reduceMul, Nat.reduceSub, Nat.reduceLT, Int.reduceEq, Nat.reduceEqDiff, Int.reduceBEq, byteC, hA, e9, e7, e8, ha4, hkw, hpm]
          exact ⟨hk8, ha3, ha2, hg⟩
      · have hno : bs[a + k]? = none := List.getElem?_eq_none (not_lt_len hb3)
        rw [h9, gnGo, hno] at hg
        subst hg
        (try simp only [go_sem, eq_self, Nat.reduceBEq, Nat.reduceAdd, Nat.reduceLeDiff, Nat.reduceMul, Nat.reduceSub, Nat.reduceLT, Int.reduceEq, Nat.reduceEqDiff, Int.reduceBEq, byteC, hA, e9, e7, e8]); repeat' (first | (with_reducible refine c_split (fun hb => ?_) (fun hb => ?_) <;> try simp only [go_sem, eq_self, Nat.reduceBEq, Nat.reduceAdd, Nat.reduceLeDiff, Nat.reduceMul, Nat.reduceSub, Nat.reduceLT, Int.reduceEq, Nat.reduceEqDiff, Int.reduceBEq, byteC, hb, hA, e9, e7, e8]) | (with_reducible refine w_split (fun hb => ?_) (fun hb => ?_) <;> try simp only [go_sem, eq_self, Nat.reduceBEq, Nat.reduceAdd, Nat.reduceLeDiff, Nat.reduceMul, Nat.reduceSub, Nat.reduceLT, Int.reduceEq, Nat.reduceEqDiff, Int.reduceBEq, byteC, hb, hA, e9, e7, e8]) | (with_reducible refine hQ _ _ ?_ <;> simp only [Try.f103, go_sem, eq_self, Nat.reduceBEq, Nat.reduceAdd, Nat.reduceLeDiff, Nat.reduceMul, Nat.reduceSub, Nat.reduceLT, Int.reduceEq, Nat.reduceEqDiff, Int.reduceBEq, byteC, hA, e9, e7, e8]))
        exact hk
    · obtain rfl : k = 9 := by have := of_decide_eq_false hb2; omega
      have hg2 : G = none := by rw [← hg]; rfl
      subst hg2
      (try simp only [go_sem, eq_self, Nat.reduceBEq, Nat.reduceAdd, Nat.reduceLeDiff, Nat.reduceMul, Nat.reduceSub, Nat.reduceLT, Int.reduceEq, Nat.reduceEqDiff, Int.reduceBEq, byteC, hA, e9, e7, e8]); repeat' (first | (with_reducible refine c_split (fun hb => ?_) (fun hb => ?_) <;> try simp only [go_sem, eq_self, Nat.reduceBEq, Nat.reduceAdd, Nat.reduceLeDiff, Nat.reduceMul, Nat.reduceSub, Nat.reduceLT, Int.reduceEq, Nat.reduceEqDiff, Int.reduceBEq, byteC, hb, hA, e9, e7, e8]) | (with_reducible refine w_split (fun hb => ?_) (fun hb => ?_) <;> try simp only [go_sem, eq_self, Nat.reduceBEq, Nat.reduceAdd, Nat.reduceLeDiff, Nat.reduceMul, Nat.reduceSub, Nat.reduceLT, Int.reduceEq, Nat.reduceEqDiff, Int.reduceBEq, byteC, hb, hA, e9, e7, e8]) | (with_reducible refine hQ _ _ ?_ <;> simp only [Try.f103, go_sem, eq_self, Nat.reduceBEq, Nat.reduceAdd, Nat.reduceLeDiff, Nat.reduceMul, Nat.reduceSub, Nat.reduceLT, Int.reduceEq, Nat.reduceEqDiff, Int.reduceBEq, byteC, hA, e9, e7, e8]))
      exact hk
theorem ofInt_nat (a : Nat) (ha : a < 9223372036854775808) : (BitVec.ofInt IntKind.i64.bits (a : Int)).toNat = a := by
  show (BitVec.ofInt 64 (a : Int)).toNat = a
  rw [BitVec.toNat_ofInt]
  omega
theorem wrap_nat64 (a : Nat) (ha : a < 9223372036854775808) : IntKind.i64.wrap (a : Int) = (a : Int) := by rw [IntKind.wrap_i64]; omega
theorem and_nat (a b : Nat) (ha : a < 9223372036854775808) (hb : b < 9223372036854775808) : IntKind.i64.wrap (((BitVec.ofInt IntKind.i64.bits (a : Int) &&& BitVec.ofInt IntKind.i64.bits (b : Int)).toNat : Nat) : Int) = ((a &&& b : Nat) : Int) := by
  rw [BitVec.toNat_and, ofInt_nat a ha, ofInt_nat b hb]
  exact wrap_nat64 _ (Nat.lt_of_le_of_lt Nat.and_le_left ha)
theorem or_nat (a b : Nat) (ha : a < 9223372036854775808) (hb : b < 9223372036854775808) : IntKind.i64.wrap (((BitVec.ofInt IntKind.i64.bits (a : Int) ||| BitVec.ofInt IntKind.i64.bits (b : Int)).toNat : Nat) : Int) = ((a ||| b : Nat) : Int) := by
  rw [BitVec.toNat_or, ofInt_nat a ha, ofInt_nat b hb]
  exact wrap_nat64 _ (Nat.or_lt_two_pow (n := 63) ha hb)
theorem and_127 (d : Nat) (hd : d < 256) : IntKind.i64.wrap (((BitVec.ofInt IntKind.i64.bits (d : Int) &&& BitVec.ofInt IntKind.i64.bits 127).toNat : Nat) : Int) = ((d % 128 : Nat) : Int) := by
  have h := and_nat d 127 (by omega) (by omega)
  rw [Nat.and_two_pow_sub_one_eq_mod d 7] at h
  exact h
theorem shl_7k (q k : Nat) (hq : q < 128) (hk : k ≤ 8) : IntKind.i64.wrap ((q : Int) * 2 ^ min ((7 * (k : Int)).toNat) IntKind.i64.bits) = ((q * 128 ^ k : Nat) : Int) := by
  have h1 : (7 * (k : Int)).toNat = 7 * k := by omega
  have h2 : min (7 * k) IntKind.i64.bits = 7 * k := Nat.min_eq_left (show 7 * k ≤ 64 by omega)
  have h3 : (2 : Int) ^ (7 * k) = ((128 ^ k : Nat) : Int) := by
    rw [show (128 : Nat) ^ k = 2 ^ (7 * k) by rw [Nat.pow_mul], Int.natCast_pow]; rfl
  have h4 : 128 ^ k ≤ 128 ^ 8 := Nat.pow_le_pow_right (by decide) hk
  have h5 : q * 128 ^ k ≤ 127 * 128 ^ 8 := Nat.mul_le_mul (by omega) h4
  rw [h1, h2, h3, ← Int.natCast_mul]
  exact wrap_nat64 _ (Nat.lt_of_le_of_lt h5 (by decide))
theorem or_add (x q k : Nat) (hx : x < 128 ^ k) : x ||| q * 128 ^ k = x + q * 128 ^ k := by
  have h : (128 : Nat) ^ k = 2 ^ (7 * k) := by rw [Nat.pow_mul]
  rw [h] at hx ⊢
  rw [Nat.or_comm, ← Nat.shiftLeft_eq, ← Nat.shiftLeft_add_eq_or_of_lt hx, Nat.add_comm]
theorem k7 {k : Nat} (hk : k ≤ 8) : wrap64 (7 * (k : Int)) = 7 * (k : Int) ∧ 0 ≤ 7 * (k : Int) := by constructor <;> (try unfold wrap64) <;> omega
theorem nat_gt127 (d : Nat) : decide ((127 : Int) < (d : Int)) = decide (127 < d) := by simp; omega
theorem gn_or {d k x : Nat} (hk : k ≤ 8) (hx : x < 128 ^ k) : IntKind.i64.wrap (((BitVec.ofInt IntKind.i64.bits (x : Int) ||| BitVec.ofInt IntKind.i64.bits ((d % 128 * 128 ^ k : Nat) : Int)).toNat : Nat) : Int) = ((x + d % 128 * 128 ^ k : Nat) : Int) ∧ x + d % 128 * 128 ^ k < 128 ^ (k + 1) := by
  obtain ⟨ha1, ha2, ha3, _⟩ := gn_arith (d := d) (p := 128 ^ k) rfl hk hx
  refine ⟨?_, by rw [← ha3]; exact ha2⟩
  have h1 : d % 128 * 128 ^ k ≤ 127 * 128 ^ k := Nat.mul_le_mul_right _ (by omega)
  generalize hq : 128 ^ k = q at *
  rw [or_nat x (d % 128 * q) (by omega) (by omega), ← hq, or_add x (d % 128) k (by rw [hq]; exact hx)]
theorem c_impl_GetNum (bs : List UInt8) (at_ : Int) (hn : bs.length ≤ 1000000000000000) (K : AV → AH → Prop) (hk : K (numA (getNum bs at_)) []) : ACalls Try.prog 105 [(.one (.im (bs.map byteC))), (.one (.c (.int .i64 (at_))))] [] K := by
  have hm1 : wrap64 ((bs.length : Int) - 1) = (bs.length : Int) - 1 := by unfold wrap64; omega
  refine acall_c Try.f105.results.toList mixed Try.func105 rfl rfl (by kernel_rfl) ?_
  intro Q hQ hQO
  simp only [go_sem, eq_self, Nat.reduceBEq, Nat.reduceAdd, Nat.reduceLeDiff, Nat.reduceMul, Nat.reduceSub, Nat.reduceLT, Int.reduceEq, Nat.reduceEqDiff, Int.reduceBEq, byteC]
  (try simp only [go_sem, eq_self, Nat.reduceBEq, Nat.reduceAdd, Nat.reduceLeDiff, Nat.reduceMul, Nat.reduceSub, Nat.reduceLT, Int.reduceEq, Nat.reduceEqDiff, Int.reduceBEq, byteC, hm1]); repeat' (first | (with_reducible refine c_split (fun hb => ?_) (fun hb => ?_) <;> try simp only [go_sem, eq_self, Nat.reduceBEq, Nat.reduceAdd, Nat.reduceLeDiff, Nat.reduceMul, Nat.reduceSub, Nat.reduceLT, Int.reduceEq, Nat.reduceEqDiff, Int.reduceBEq, byteC, hb, hm1]) | (with_reducible refine w_split (fun hb => ?_) (fun hb => ?_) <;> try simp only [go_sem, eq_self, Nat.reduceBEq, Nat.reduceAdd, Nat.reduceLeDiff, Nat.reduceMul, Nat.reduceSub, Nat.reduceLT, Int.reduceEq, Nat.reduceEqDiff, Int.reduceBEq, byteC, hb, hm1]) | (refine call_c (c_in _ _ _ _ ?_) <;> try simp only [go_sem, eq_self, Nat.reduceBEq, Nat.reduceAdd, Nat.reduceLeDiff, Nat.reduceMul, Nat.reduceSub, Nat.reduceLT, Int.reduceEq, Nat.reduceEqDiff, Int.reduceBEq, byteC, hm1]) | (fail))
  · (try simp only [go_sem, eq_self, Nat.reduceBEq, Nat.reduceAdd, Nat.reduceLeDiff, Nat.reduceMul, Nat.reduceSub, Nat.reduceLT, Int.reduceEq, Nat.reduceEqDiff, Int.reduceBEq, byteC]); repeat' (first | (with_reducible refine c_split (fun hb => ?_) (fun hb => ?_) <;> try simp only [go_sem, eq_self, Nat.reduceBEq, Nat.reduceAdd, Nat.reduceLeDiff, Nat.reduceMul, Nat.reduceSub, Nat.reduceLT, Int.reduceEq, Nat.reduceEqDiff, Int.reduceBEq, byteC, hb]) | (with_reducible refine w_split (fun hb => ?_) (fun hb => ?_) <;> try simp only [go_sem, eq_self, Nat.reduceBEq, Nat.reduceAdd, Nat.reduceLeDiff, Nat.reduceMul, Nat.reduceSub, Nat.reduceLT, Int.reduceEq, Nat.reduceEqDiff, Int.reduceBEq, byteC, hb]) | (with_reducible refine hQ _ _ ?_ <;> simp only [Try.f105, go_sem, eq_self, Nat.reduceBEq, Nat.reduceAdd, Nat.reduceLeDiff, Nat.reduceMul, Nat.reduceSub, Nat.reduceLT, Int.reduceEq, Nat.reduceEqDiff, Int.reduceBEq, byteC]))
    rw [getNum, if_neg (fun q => by simp [q.1] at hb; omega)] at hk
    exact hk
  have hr : 0 ≤ at_ ∧ at_ < bs.length := by
    have : 0 ≤ at_ ∧ at_ ≤ (bs.length : Int) - 1 := by simpa only [Bool.not_eq_false', decide_eq_true_eq] using hb
    omega
  obtain ⟨a, rfl⟩ : ∃ a : Nat, at_ = (a : Int) := ⟨at_.toNat, by omega⟩
  rw [getNum, if_pos hr, Int.toNat_natCast] at hk
  generalize hG : gnGo bs a 9 0 0 = G at hk
  refine while_at (α := Nat × Nat) (fun ⟨k, x⟩ => 9 - k) [0, 1] (fun ⟨k, x⟩ f h => f 8 = (.one (.c (.int .i64 ((k : Int))))) ∧ f 7 = (.one (.c (.int .i64 ((x : Int))))) ∧ h = [] ∧ k ≤ 9 ∧ x < 128 ^ k ∧ gnGo bs a (9 - k) k x = G) (0, 0) (GC.now ?_) ?_
  · simp only [go_sem, eq_self, Nat.reduceBEq, Nat.reduceAdd, Nat.reduceLeDiff, Nat.reduceMul, Nat.reduceSub, Nat.reduceLT, Int.reduceEq, Nat.reduceEqDiff, Int.reduceBEq, byteC, nc_0, true_and]
    simp [hG]
  · rintro ⟨k, x⟩ f h J hA ⟨e8, e7, rfl, hP⟩ hJ
    simp only [go_sem, eq_self, Nat.reduceBEq, Nat.reduceAdd, Nat.reduceLeDiff, Nat.reduceMul, Nat.reduceSub, Nat.reduceLT, Int.reduceEq, Nat.reduceEqDiff, Int.reduceBEq, byteC] at hA
    try dsimp only at hJ
    simp only [go_sem, eq_self, Nat.reduceBEq, Nat.reduceAdd, Nat.reduceLeDiff, Nat.reduceMul, Nat.reduceSub, Nat.reduceLT, Int.reduceEq, Nat.reduceEqDiff, Int.reduceBEq, byteC, hA, e8, e7]
    obtain ⟨hk9, hx, hg⟩ := hP
    refine w_split (fun hb2 => ?_) (fun hb2 => ?_) <;> simp only [go_sem, eq_self, Nat.reduceBEq, Nat.reduceAdd, Nat.reduceLeDiff, Nat.reduceMul, Nat.reduceSub, Nat.reduceLT, Int.reduceEq, Nat.reduceEqDiff, Int.reduceBEq, byteC, hb2, hA, e8, e7]
    · have hk8 : k ≤ 8 := by have := of_decide_eq_true hb2; omega
      have haw : wrap64 ((a : Int) + (k : Int)) = ((a + k : Nat) : Int) := by unfold wrap64; omega
      have h9 : 9 - k = (9 - (k + 1)) + 1 := by omega
      have hkw := wrap_nat k (by omega)
      obtain ⟨h7k, h7p⟩ := k7 hk8
      simp only [haw]
      refine c_split (fun hb3 => ?_) (fun hb3 => ?_) <;> simp only [go_sem, eq_self, Nat.reduceBEq, Nat.reduceAdd, Nat.reduceLeDiff, Nat.reduceMul, Nat.reduceSub, Nat.reduceLT, Int.reduceEq, Nat.reduceEqDiff, Int.reduceBEq, byteC, hb3, hA, e8, e7]
      · have hi := lt_len hb3
        have hil : ((a + k : Nat) : Int) < (bs.length : Int) := Int.ofNat_lt.2 hi
        have hg0 : bs[a + k]? = some bs[a + k] := List.getElem?_eq_getElem hi
        rw [h9, gnGo, hg0] at hg
        simp only at hg
        have hwd := u8_wrap bs[a + k]
        have hlt := bs[a + k].toNat_lt
        have hand := and_127 bs[a + k].toNat hlt
        have hshl := shl_7k (bs[a + k].toNat % 128) k (Nat.mod_lt _ (by decide)) hk8
        have hq := gn_or (d := bs[a + k].toNat) hk8 hx
        obtain ⟨hor, hnx⟩ := hq
        simp only [IntKind.bits] at hand hshl hor
        obtain ⟨_, hn1⟩ := wrap_add2 hi hn
        have hless := gn_less hk8
        simp only [go_sem, eq_self, Nat.reduceBEq, Nat.reduceAdd, Nat.reduceLeDiff, Nat.reduceMul, Nat.reduceSub, Nat.reduceLT, Int.reduceEq, Nat.reduceEqDiff, Int.reduceBEq, byteC, hA, e8, e7, haw, hil, hg0, hwd, hand, h7k, h7p, hshl, hor, b_and, b_shl, b_or, nat_gt127]
        by_cases h4 : bs[a + k].toNat < 128
        · have h4' : ¬ 127 < bs[a + k].toNat := Nat.not_lt.2 (Nat.le_of_lt_succ h4)
          simp only [go_sem, eq_self, Nat.reduceBEq, Nat.reduceAdd, Nat.reduceLeDiff, Nat.reduceMul, Nat.reduceSub, Nat.reduceLT, Int.reduceEq, Nat.reduceEqDiff, Int.reduceBEq, byteC, hA, e8, e7, h4, h4', if_true, nat_eq0] at hg ⊢
          by_cases h5 : bs[a + k].toNat = 0
          · by_cases h6 : 0 < k
            · rw [if_pos ⟨h5, h6⟩] at hg
              subst hg
              (try simp only [go_sem, eq_self, Nat.reduceBEq, Nat.reduceAdd, Nat.reduceLeDiff, Nat.reduceMul, Nat.reduceSub, Nat.reduceLT, Int.reduceEq, Nat.reduceEqDiff, Int.reduceBEq, byteC, hA, e8, e7, h5, nat_pos', h6]); repeat' (first | (with_reducible refine c_split (fun hb => ?_) (fun hb => ?_) <;> try simp only [go_sem, eq_self, Nat.reduceBEq, Nat.reduceAdd, Nat.reduceLeDiff, Nat.reduceMul, Nat.reduceSub, Nat.reduceLT, Int.reduceEq, Nat.reduceEqDiff, Int.reduceBEq, byteC, hb, hA, e8, e7, h5, nat_pos', h6]) | (with_reducible refine w_split (fun hb => ?_) (fun hb => ?_) <;> try simp only [go_sem, eq_self, Nat.reduceBEq, Nat.reduceAdd, Nat.reduceLeDiff, Nat.reduceMul, Nat.reduceSub, Nat.reduceLT, Int.reduceEq, Nat.reduceEqDiff, Int.reduceBEq, byteC, hb, hA, e8, e7, h5, nat_pos', h6]) | (with_reducible refine hQ _ _ ?_ <;> simp only [Try.f105, go_sem, eq_self, Nat.reduceBEq, Nat.reduceAdd, Nat.reduceLeDiff, Nat.reduceMul, Nat.reduceSub, Nat.reduceLT, Int.reduceEq, Nat.reduceEqDiff, Int.reduceBEq, byteC, hA, e8, e7, h5, nat_pos', h6]))
              exact hk
            · rw [if_neg (fun q => h6 q.2)] at hg
              subst hg
              (try simp only [go_sem, eq_self, Nat.reduceBEq, Nat.reduceAdd, Nat.reduceLeDiff, Nat.reduceMul, Nat.reduceSub, Nat.reduceLT, Int.reduceEq, Nat.reduceEqDiff, Int.reduceBEq, byteC, hA, e8, e7, h5, nat_pos', h6, haw, hn1]); repeat' (first | (with_reducible refine c_split (fun hb => ?_) (fun hb => ?_) <;> try simp only [go_sem, eq_self, Nat.reduceBEq, Nat.reduceAdd, Nat.reduceLeDiff, Nat.reduceMul, Nat.reduceSub, Nat.reduceLT, Int.reduceEq, Nat.reduceEqDiff, Int.reduceBEq, byteC, hb, hA, e8, e7, h5, nat_pos', h6, haw, hn1]) | (with_reducible refine w_split (fun hb => ?_) (fun hb => ?_) <;> try simp only [go_sem, eq_self, Nat.reduceBEq, Nat.reduceAdd, Nat.reduceLeDiff, Nat.reduceMul, Nat.reduceSub, Nat.reduceLT, Int.reduceEq, Nat.reduceEqDiff, Int.reduceBEq, byteC, hb, hA, e8, e7, h5, nat_pos', h6, haw, hn1]) | (with_reducible refine hQ _ _ ?_ <;> simp only [Try.f105, go_sem, eq_self, Nat.reduceBEq, Nat.reduceAdd, Nat.reduceLeDiff, Nat.reduceMul, Nat.reduceSub, Nat.reduceLT, Int.reduceEq, Nat.reduceEqDiff, Int.reduceBEq, byteC, hA, e8, e7, h5, nat_pos', h6, haw, hn1]))
              rw [h5] at hk
              exact hk
          · rw [if_neg (fun q => h5 q.1)] at hg
            subst hg
            (try simp only [go_sem, eq_self, Nat.reduceBEq, Nat.reduceAdd, Nat.reduceLeDiff, Nat.reduceMul, Nat.reduceSub, Nat.reduceLT, Int.reduceEq, Nat.reduceEqDiff, Int.reduceBEq, byteC, hA, e8, e7, h5, haw, hn1]); repeat' (first | (with_reducible refine c_split (fun hb => ?_) (fun hb => ?_) <;> try simp only [go_sem, eq_self, Nat.reduceBEq, Nat.reduceAdd, Nat.reduceLeDiff, Nat.reduceMul, Nat.reduceSub, Nat.reduceLT, Int.reduceEq, Nat.reduceEqDiff, Int.reduceBEq, byteC, hb, hA, e8, e7, h5, haw, hn1]) | (with_reducible refine w_split (fun hb => ?_) (fun hb => ?_) <;> try simp only [go_sem, eq_self, Nat.reduceBEq, Nat.reduceAdd, Nat.reduceLeDiff, Nat.reduceMul, Nat.reduceSub, Nat.reduceLT, Int.reduceEq, Nat.reduceEqDiff, Int.reduceBEq, byteC, hb, hA, e8, e7, h5, haw, hn1]) | (with_reducible refine hQ _ _ ?_ <;> simp only [Try.f105, go_sem, eq_self, Nat.reduceBEq, Nat.reduceAdd, Nat.reduceLeDiff, Nat.reduceMul, Nat.reduceSub, Nat.reduceLT, Int.reduceEq, Nat.reduceEqDiff, Int.reduceBEq, byteC, hA, e8, e7, h5, haw, hn1]))
            exact hk
        · have h4' : 127 < bs[a + k].toNat := Nat.not_lt.1 h4
          simp only [go_sem, eq_self, Nat.reduceBEq, Nat.reduceAdd, Nat.reduceLeDiff, Nat.reduceMul, Nat.reduceSub, Nat.reduceLT, Int.reduceEq, Nat.reduceEqDiff, Int.reduceBEq, byteC, hA, e8, e7, h4, h4', if_false] at hg ⊢
          (try simp only [go_sem, eq_self, Nat.reduceBEq, Nat.reduceAdd, Nat.reduceLeDiff, Nat.reduceMul, Nat.reduceSub, Nat.reduceLT, Int.reduceEq, Nat.reduceEqDiff, Int.reduceBEq, byteC, hA, e8, e7, hkw]); repeat' (first | (with_reducible refine c_split (fun hb => ?_) (fun hb => ?_) <;> try simp only [go_sem, eq_self, Nat.reduceBEq, Nat.reduceAdd, Nat.reduceLeDiff, Nat.reduceMul, Nat.reduceSub, Nat.reduceLT, Int.reduceEq, Nat.reduceEqDiff, Int.reduceBEq, byteC, hb, hA, e8, e7, hkw]) | (with_reducible refine w_split (fun hb => ?_) (fun hb => ?_) <;> try simp only [go_sem, eq_self, Nat.reduceBEq, Nat.reduceAdd, Nat.reduceLeDiff, Nat.reduceMul, Nat.reduceSub, Nat.reduceLT, Int.reduceEq, Nat.reduceEqDiff, Int.reduceBEq, byteC, hb, hA, e8, e7, hkw]) | (fail))
          refine gc_trim 0 (by decide) (by simp only [go_sem, eq_self, Nat.reduceBEq, Nat.reduceAdd, Nat.reduceLeDiff, Nat.reduceMul, Nat.reduceSub, Nat.reduceLT, Int.reduceEq, Nat.reduceEqDiff, Int.reduceBEq, byteC]) (by simp only [go_sem, eq_self, Nat.reduceBEq, Nat.reduceAdd, Nat.reduceLeDiff, Nat.reduceMul, Nat.reduceSub, Nat.reduceLT, Int.reduceEq, Nat.reduceEqDiff, Int.reduceBEq, byteC, hkw]) (hJ (k + 1, x + bs[a + k].toNat % 128 * 128 ^ k) _ _ (by exact hless) (by simp only [go_sem, eq_self, Nat.reduceBEq, Nat.reduceAdd, Nat.reduceLeDiff, Nat.reduceMul, Nat.reduceSub, Nat.reduceLT, Int.reduceEq, Nat.reduceEqDiff, Int.reduceBEq, byteC, hA, e8, e7]) ⟨?_, ?_, ?_, ?_⟩) <;> try simp only [go_sem, eq_self, Nat.reduceBEq, Nat.reduceAdd, Nat.reduceLeDiff, Nat.reduceMul, Nat.reduceSub, Nat.reduceLT, Int.reduceEq, Nat.reduceEqDiff, Int.reduceBEq, byteC, hA, e8, e7, hkw]
          exact ⟨hk8, hnx, hg⟩
      · have hno : bs[a + k]? = none := List.getElem?_eq_none (not_lt_len hb3)
        rw [h9, gnGo, hno] at hg
        subst hg
        (try simp only [go_sem, eq_self, Nat.reduceBEq, Nat.reduceAdd, Nat.reduceLeDiff, Nat.reduceMul, Nat.reduceSub, Nat.reduceLT, Int.reduceEq, Nat.reduceEqDiff, Int.reduceBEq, byteC, hA, e8, e7]); repeat' (first | (with_reducible refine c_split (fun hb => ?_) (fun hb => ?_) <;> try simp only [go_sem, eq_self, Nat.reduceBEq, Nat.reduceAdd, Nat.reduceLeDiff, Nat.reduceMul, Nat.reduceSub, Nat.reduceLT, Int.reduceEq, Nat.reduceEqDiff, Int.reduceBEq, byteC, hb, hA, e8, e7]) | (with_reducible refine w_split (fun hb => ?_) (fun hb => ?_) <;> try simp only [go_sem, eq_self, Nat.reduceBEq, Nat.reduceAdd, Nat.reduceLeDiff, Nat.reduceMul, Nat.reduceSub, Nat.reduceLT, Int.reduceEq, Nat.reduceEqDiff, Int.reduceBEq, byteC, hb, hA, e8, e7]) | (with_reducible refine hQ _ _ ?_ <;> simp only [Try.f105, go_sem, eq_self, Nat.reduceBEq, Nat.reduceAdd, Nat.reduceLeDiff, Nat.reduceMul, Nat.reduceSub, Nat.reduceLT, Int.reduceEq, Nat.reduceEqDiff, Int.reduceBEq, byteC, hA, e8, e7]))
        exact hk
    · obtain rfl : k = 9 := by have := of_decide_eq_false hb2; omega
      have hg2 : G = none := by rw [← hg]; rfl
      subst hg2
      (try simp only [go_sem, eq_self, Nat.reduceBEq, Nat.reduceAdd, Nat.reduceLeDiff, Nat.reduceMul, Nat.reduceSub, Nat.reduceLT, Int.reduceEq, Nat.reduceEqDiff, Int.reduceBEq, byteC, hA, e8, e7]); repeat' (first | (with_reducible refine c_split (fun hb => ?_) (fun hb => ?_) <;> try simp only [go_sem, eq_self, Nat.reduceBEq, Nat.reduceAdd, Nat.reduceLeDiff, Nat.reduceMul, Nat.reduceSub, Nat.reduceLT, Int.reduceEq, Nat.reduceEqDiff, Int.reduceBEq, byteC, hb, hA, e8, e7]) | (with_reducible refine w_split (fun hb => ?_) (fun hb => ?_) <;> try simp only [go_sem, eq_self, Nat.reduceBEq, Nat.reduceAdd, Nat.reduceLeDiff, Nat.reduceMul, Nat.reduceSub, Nat.reduceLT, Int.reduceEq, Nat.reduceEqDiff, Int.reduceBEq, byteC, hb, hA, e8, e7]) | (with_reducible refine hQ _ _ ?_ <;> simp only [Try.f105, go_sem, eq_self, Nat.reduceBEq, Nat.reduceAdd, Nat.reduceLeDiff, Nat.reduceMul, Nat.reduceSub, Nat.reduceLT, Int.reduceEq, Nat.reduceEqDiff, Int.reduceBEq, byteC, hA, e8, e7]))
      exact hk
/-! ### Checks -/
def ckTo (bs : List UInt8) : Nat → Nat × Nat
  | 0 => (0, 0)
  | i + 1 => let c := ckTo bs i; let x := (c.1 + (bs[i]?.getD 0).toNat + 1) % 65535; (x, (c.2 + x) % 65535)
def ckN (bs : List UInt8) : Nat := 65536 * (ckTo bs bs.length).2 + (ckTo bs bs.length).1
theorem ck_lt (bs : List UInt8) : ∀ i, (ckTo bs i).1 < 65535 ∧ (ckTo bs i).2 < 65535
  | 0 => by simp [ckTo]
  | i + 1 => by simp only [ckTo]; exact ⟨Nat.mod_lt _ (by decide), Nat.mod_lt _ (by decide)⟩
theorem ck_arith (bs : List UInt8) (i : Nat) (b : UInt8) (hg : bs[i]? = some b) :
    (wrap64 (wrap64 (((ckTo bs i).1 : Int) + (b.toNat : Int)) + 1)).tmod 65535 = ((ckTo bs (i + 1)).1 : Int) ∧ (wrap64 (((ckTo bs i).2 : Int) + ((ckTo bs (i + 1)).1 : Int))).tmod 65535 = ((ckTo bs (i + 1)).2 : Int) := by
  obtain ⟨h1, h2⟩ := ck_lt bs i
  have h3 := b.toNat_lt
  have h4 : (ckTo bs (i + 1)).1 = ((ckTo bs i).1 + b.toNat + 1) % 65535 := by simp only [ckTo, hg, Option.getD_some]
  have h5 : (ckTo bs (i + 1)).2 = ((ckTo bs i).2 + (ckTo bs (i + 1)).1) % 65535 := by simp only [ckTo]
  have h6 : (ckTo bs (i + 1)).1 < 65535 := (ck_lt bs (i + 1)).1
  have w1 : wrap64 (wrap64 (((ckTo bs i).1 : Int) + (b.toNat : Int)) + 1) = (((ckTo bs i).1 + b.toNat + 1 : Nat) : Int) := by unfold wrap64; omega
  have w2 : wrap64 (((ckTo bs i).2 : Int) + ((ckTo bs (i + 1)).1 : Int)) = (((ckTo bs i).2 + (ckTo bs (i + 1)).1 : Nat) : Int) := by unfold wrap64; omega
  rw [w1, w2, Int.tmod_eq_emod_of_nonneg (Int.natCast_nonneg _), Int.tmod_eq_emod_of_nonneg (Int.natCast_nonneg _)]
  constructor
  · rw [h4]; rfl
  · rw [h5]; rfl
theorem ck_end (bs : List UInt8) (i : Nat) : wrap64 (wrap64 (65536 * ((ckTo bs i).2 : Int)) + ((ckTo bs i).1 : Int)) = ((65536 * (ckTo bs i).2 + (ckTo bs i).1 : Nat) : Int) := by
  obtain ⟨h1, h2⟩ := ck_lt bs i
  unfold wrap64; omega
theorem c_spec_Check (bs : List UInt8) (hn : bs.length ≤ 1000000000000000) (K : AV → AH → Prop) (hk : K (.one (.c (.int .i64 ((ckN bs : Int))))) []) : ACalls Try.prog 104 [(.one (.im (bs.map byteC)))] [] K := by
  have h0 : (65535 : Int) ≠ 0 := by decide
  refine acall_c Try.f104.results.toList mixed Try.func104 rfl rfl (by kernel_rfl) ?_
  intro Q hQ hQO
  simp only [go_sem, eq_self, Nat.reduceBEq, Nat.reduceAdd, Nat.reduceLeDiff, Nat.reduceMul, Nat.reduceSub, Nat.reduceLT, Int.reduceEq, Nat.reduceEqDiff, Int.reduceBEq, byteC]
  refine for_at (bs.length) [0] (fun i f h => f 5 = (.one (.c (.int .i64 (i)))) ∧ f 3 = (.one (.c (.int .i64 (((ckTo bs i).1 : Int))))) ∧ f 4 = (.one (.c (.int .i64 (((ckTo bs i).2 : Int))))) ∧ h = []) (GC.now ?_) ?_
  · simp only [go_sem, eq_self, Nat.reduceBEq, Nat.reduceAdd, Nat.reduceLeDiff, Nat.reduceMul, Nat.reduceSub, Nat.reduceLT, Int.reduceEq, Nat.reduceEqDiff, Int.reduceBEq, byteC, nc_0, true_and]
    simp [ckTo]
  · rintro i f h J hi hA ⟨e5, e3, e4, rfl⟩ hJ
    simp only [go_sem, eq_self, Nat.reduceBEq, Nat.reduceAdd, Nat.reduceLeDiff, Nat.reduceMul, Nat.reduceSub, Nat.reduceLT, Int.reduceEq, Nat.reduceEqDiff, Int.reduceBEq, byteC] at hA
    simp only [go_sem, eq_self, Nat.reduceBEq, Nat.reduceAdd, Nat.reduceLeDiff, Nat.reduceMul, Nat.reduceSub, Nat.reduceLT, Int.reduceEq, Nat.reduceEqDiff, Int.reduceBEq, byteC, hA, e5, e3, e4]
    refine c_split (fun hb => ?_) (fun hb => ?_)
    rotate_left
    · simp only [go_sem, eq_self, Nat.reduceBEq, Nat.reduceAdd, Nat.reduceLeDiff, Nat.reduceMul, Nat.reduceSub, Nat.reduceLT, Int.reduceEq, Nat.reduceEqDiff, Int.reduceBEq, byteC, hb, hA, e5, e3, e4]
      obtain rfl := ge_len hb hi
      (try simp only [go_sem, eq_self, Nat.reduceBEq, Nat.reduceAdd, Nat.reduceLeDiff, Nat.reduceMul, Nat.reduceSub, Nat.reduceLT, Int.reduceEq, Nat.reduceEqDiff, Int.reduceBEq, byteC, hA, e5, e3, e4, ck_end]); repeat' (first | (with_reducible refine c_split (fun hb => ?_) (fun hb => ?_) <;> try simp only [go_sem, eq_self, Nat.reduceBEq, Nat.reduceAdd, Nat.reduceLeDiff, Nat.reduceMul, Nat.reduceSub, Nat.reduceLT, Int.reduceEq, Nat.reduceEqDiff, Int.reduceBEq, byteC, hb, hA, e5, e3, e4, ck_end]) | (with_reducible refine w_split (fun hb => ?_) (fun hb => ?_) <;> try simp only [go_sem, eq_self, Nat.reduceBEq, Nat.reduceAdd, Nat.reduceLeDiff, Nat.reduceMul, Nat.reduceSub, Nat.reduceLT, Int.reduceEq, Nat.reduceEqDiff, Int.reduceBEq, byteC, hb, hA, e5, e3, e4, ck_end]) | (with_reducible refine hQ _ _ ?_ <;> simp only [Try.f104, go_sem, eq_self, Nat.reduceBEq, Nat.reduceAdd, Nat.reduceLeDiff, Nat.reduceMul, Nat.reduceSub, Nat.reduceLT, Int.reduceEq, Nat.reduceEqDiff, Int.reduceBEq, byteC, hA, e5, e3, e4, ck_end]))
      exact hk
    have hi := lt_len hb
    have hw := wrap_nat i (by omega)
    have hil : (i : Int) < ((bs.length : Nat) : Int) := Int.ofNat_lt.2 hi
    have hg0 : (bs)[i]? = some ((bs)[i]) := List.getElem?_eq_getElem (by omega)
    simp only [go_sem, eq_self, Nat.reduceBEq, Nat.reduceAdd, Nat.reduceLeDiff, Nat.reduceMul, Nat.reduceSub, Nat.reduceLT, Int.reduceEq, Nat.reduceEqDiff, Int.reduceBEq, byteC, hb, hA, e5, e3, e4, hg0]
    try simp only [go_sem, eq_self, Nat.reduceBEq, Nat.reduceAdd, Nat.reduceLeDiff, Nat.reduceMul, Nat.reduceSub, Nat.reduceLT, Int.reduceEq, Nat.reduceEqDiff, Int.reduceBEq, byteC, hA, e5, e3, e4, hil, hg0]
    obtain ⟨hc1, hc2⟩ := ck_arith bs i _ hg0
    have hwd := u8_wrap bs[i]
    (try simp only [go_sem, eq_self, Nat.reduceBEq, Nat.reduceAdd, Nat.reduceLeDiff, Nat.reduceMul, Nat.reduceSub, Nat.reduceLT, Int.reduceEq, Nat.reduceEqDiff, Int.reduceBEq, byteC, hA, e5, e3, e4, hil, hg0, hwd, ne_eq, h0, not_false_eq_true, b_rem, hc1, hc2]); repeat' (first | (with_reducible refine c_split (fun hb => ?_) (fun hb => ?_) <;> try simp only [go_sem, eq_self, Nat.reduceBEq, Nat.reduceAdd, Nat.reduceLeDiff, Nat.reduceMul, Nat.reduceSub, Nat.reduceLT, Int.reduceEq, Nat.reduceEqDiff, Int.reduceBEq, byteC, hb, hA, e5, e3, e4, hil, hg0, hwd, ne_eq, h0, not_false_eq_true, b_rem, hc1, hc2]) | (with_reducible refine w_split (fun hb => ?_) (fun hb => ?_) <;> try simp only [go_sem, eq_self, Nat.reduceBEq, Nat.reduceAdd, Nat.reduceLeDiff, Nat.reduceMul, Nat.reduceSub, Nat.reduceLT, Int.reduceEq, Nat.reduceEqDiff, Int.reduceBEq, byteC, hb, hA, e5, e3, e4, hil, hg0, hwd, ne_eq, h0, not_false_eq_true, b_rem, hc1, hc2]) | (fail))
    refine GC.now (hJ _ _ hi (by simp only [go_sem, eq_self, Nat.reduceBEq, Nat.reduceAdd, Nat.reduceLeDiff, Nat.reduceMul, Nat.reduceSub, Nat.reduceLT, Int.reduceEq, Nat.reduceEqDiff, Int.reduceBEq, byteC, hA, e5, e3, e4]) ⟨?_, ?_, ?_, ?_⟩) <;> try simp only [go_sem, eq_self, Nat.reduceBEq, Nat.reduceAdd, Nat.reduceLeDiff, Nat.reduceMul, Nat.reduceSub, Nat.reduceLT, Int.reduceEq, Nat.reduceEqDiff, Int.reduceBEq, byteC, hA, e5, e3, e4, hw]
theorem c_impl_Check (bs : List UInt8) (hn : bs.length ≤ 1000000000000000) (K : AV → AH → Prop) (hk : K (.one (.c (.int .i64 ((ckN bs : Int))))) []) : ACalls Try.prog 121 [(.one (.im (bs.map byteC)))] [] K := by
  have h0 : (65535 : Int) ≠ 0 := by decide
  refine acall_c Try.f121.results.toList mixed Try.func121 rfl rfl (by kernel_rfl) ?_
  intro Q hQ hQO
  simp only [go_sem, eq_self, Nat.reduceBEq, Nat.reduceAdd, Nat.reduceLeDiff, Nat.reduceMul, Nat.reduceSub, Nat.reduceLT, Int.reduceEq, Nat.reduceEqDiff, Int.reduceBEq, byteC]
  refine for_at (bs.length) [7, 8] (fun i f h => f 9 = (.one (.c (.int .i64 (i)))) ∧ f 3 = (.one (.c (.int .i64 (((ckTo bs i).1 : Int))))) ∧ f 4 = (.one (.c (.int .i64 (((ckTo bs i).2 : Int))))) ∧ h = []) (GC.now ?_) ?_
  · simp only [go_sem, eq_self, Nat.reduceBEq, Nat.reduceAdd, Nat.reduceLeDiff, Nat.reduceMul, Nat.reduceSub, Nat.reduceLT, Int.reduceEq, Nat.reduceEqDiff, Int.reduceBEq, byteC, nc_0, true_and]
    simp [ckTo]
  · rintro i f h J hi hA ⟨e9, e3, e4, rfl⟩ hJ
    simp only [go_sem, eq_self, Nat.reduceBEq, Nat.reduceAdd, Nat.reduceLeDiff, Nat.reduceMul, Nat.reduceSub, Nat.reduceLT, Int.reduceEq, Nat.reduceEqDiff, Int.reduceBEq, byteC] at hA
    simp only [go_sem, eq_self, Nat.reduceBEq, Nat.reduceAdd, Nat.reduceLeDiff, Nat.reduceMul, Nat.reduceSub, Nat.reduceLT, Int.reduceEq, Nat.reduceEqDiff, Int.reduceBEq, byteC, hA, e9, e3, e4]
    refine c_split (fun hb => ?_) (fun hb => ?_)
    rotate_left
    · simp only [go_sem, eq_self, Nat.reduceBEq, Nat.reduceAdd, Nat.reduceLeDiff, Nat.reduceMul, Nat.reduceSub, Nat.reduceLT, Int.reduceEq, Nat.reduceEqDiff, Int.reduceBEq, byteC, hb, hA, e9, e3, e4]
      obtain rfl := ge_len hb hi
      (try simp only [go_sem, eq_self, Nat.reduceBEq, Nat.reduceAdd, Nat.reduceLeDiff, Nat.reduceMul, Nat.reduceSub, Nat.reduceLT, Int.reduceEq, Nat.reduceEqDiff, Int.reduceBEq, byteC, hA, e9, e3, e4, ck_end]); repeat' (first | (with_reducible refine c_split (fun hb => ?_) (fun hb => ?_) <;> try simp only [go_sem, eq_self, Nat.reduceBEq, Nat.reduceAdd, Nat.reduceLeDiff, Nat.reduceMul, Nat.reduceSub, Nat.reduceLT, Int.reduceEq, Nat.reduceEqDiff, Int.reduceBEq, byteC, hb, hA, e9, e3, e4, ck_end]) | (with_reducible refine w_split (fun hb => ?_) (fun hb => ?_) <;> try simp only [go_sem, eq_self, Nat.reduceBEq, Nat.reduceAdd, Nat.reduceLeDiff, Nat.reduceMul, Nat.reduceSub, Nat.reduceLT, Int.reduceEq, Nat.reduceEqDiff, Int.reduceBEq, byteC, hb, hA, e9, e3, e4, ck_end]) | (with_reducible refine hQ _ _ ?_ <;> simp only [Try.f121, go_sem, eq_self, Nat.reduceBEq, Nat.reduceAdd, Nat.reduceLeDiff, Nat.reduceMul, Nat.reduceSub, Nat.reduceLT, Int.reduceEq, Nat.reduceEqDiff, Int.reduceBEq, byteC, hA, e9, e3, e4, ck_end]))
      exact hk
    have hi := lt_len hb
    have hw := wrap_nat i (by omega)
    have hil : (i : Int) < ((bs.length : Nat) : Int) := Int.ofNat_lt.2 hi
    have hg0 : (bs)[i]? = some ((bs)[i]) := List.getElem?_eq_getElem (by omega)
    simp only [go_sem, eq_self, Nat.reduceBEq, Nat.reduceAdd, Nat.reduceLeDiff, Nat.reduceMul, Nat.reduceSub, Nat.reduceLT, Int.reduceEq, Nat.reduceEqDiff, Int.reduceBEq, byteC, hb, hA, e9, e3, e4, hg0]
    try simp only [go_sem, eq_self, Nat.reduceBEq, Nat.reduceAdd, Nat.reduceLeDiff, Nat.reduceMul, Nat.reduceSub, Nat.reduceLT, Int.reduceEq, Nat.reduceEqDiff, Int.reduceBEq, byteC, hA, e9, e3, e4, hil, hg0]
    obtain ⟨hc1, hc2⟩ := ck_arith bs i _ hg0
    have hwd := u8_wrap bs[i]
    (try simp only [go_sem, eq_self, Nat.reduceBEq, Nat.reduceAdd, Nat.reduceLeDiff, Nat.reduceMul, Nat.reduceSub, Nat.reduceLT, Int.reduceEq, Nat.reduceEqDiff, Int.reduceBEq, byteC, hA, e9, e3, e4, hil, hg0, hwd, ne_eq, h0, not_false_eq_true, b_rem, hc1, hc2]); repeat' (first | (with_reducible refine c_split (fun hb => ?_) (fun hb => ?_) <;> try simp only [go_sem, eq_self, Nat.reduceBEq, Nat.reduceAdd, Nat.reduceLeDiff, Nat.reduceMul, Nat.reduceSub, Nat.reduceLT, Int.reduceEq, Nat.reduceEqDiff, Int.reduceBEq, byteC, hb, hA, e9, e3, e4, hil, hg0, hwd, ne_eq, h0, not_false_eq_true, b_rem, hc1, hc2]) | (with_reducible refine w_split (fun hb => ?_) (fun hb => ?_) <;> try simp only [go_sem, eq_self, Nat.reduceBEq, Nat.reduceAdd, Nat.reduceLeDiff, Nat.reduceMul, Nat.reduceSub, Nat.reduceLT, Int.reduceEq, Nat.reduceEqDiff, Int.reduceBEq, byteC, hb, hA, e9, e3, e4, hil, hg0, hwd, ne_eq, h0, not_false_eq_true, b_rem, hc1, hc2]) | (fail))
    refine GC.now (hJ _ _ hi (by simp only [go_sem, eq_self, Nat.reduceBEq, Nat.reduceAdd, Nat.reduceLeDiff, Nat.reduceMul, Nat.reduceSub, Nat.reduceLT, Int.reduceEq, Nat.reduceEqDiff, Int.reduceBEq, byteC, hA, e9, e3, e4]) ⟨?_, ?_, ?_, ?_⟩) <;> try simp only [go_sem, eq_self, Nat.reduceBEq, Nat.reduceAdd, Nat.reduceLeDiff, Nat.reduceMul, Nat.reduceSub, Nat.reduceLT, Int.reduceEq, Nat.reduceEqDiff, Int.reduceBEq, byteC, hA, e9, e3, e4, hw]
end Go.Proofs.Ytjfmfcdempkpdaa
