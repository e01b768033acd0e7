/- DeedOk: what the program and the specification say of a deed is one Bool. Conditions: none. -/
import Derived.Test.YtjfmfcdempkpdaaAB
import Derived.Test.YtjfmfcdempkpdaaT
namespace Go.Proofs.Ytjfmfcdempkpdaa
open Go.AL Go.RowKit
set_option linter.unusedVariables false
set_option linter.unusedSimpArgs false
attribute [local go_sem] g_skip g_region g_draw g_seq g_cond g_block g_loop g_exit g_ret n_nil n_seq n_seq_e n_seq_r n_inv n_inv_e n_inv_r n_blk n_blk_r n_blk_e n_blk_ne c_true c_false r_nil r_cons r_want w_tt w_ff w_tf w_ft w_u ds_mk gs_at gs_some k_some k_none k_dr k_dr_none k_dr_p k_dr_pn u_eq u_ne e_tmp e_const e_func v_int v_bool v_string v_slice f_zero f_succ On_some o_move o_assign o_pick pick_t pick_f o_alloc new_some o_box box_some v_some ld_ro ld_own o_load load_ptr o_store store_ptr set_some o_fieldAddr fa_ptr o_field fd_agg o_indexAddr ia_sl ia_slc o_index ix_str o_bin b_add b_sub b_mul b_quo b_rem b_eql b_neq b_lss b_leq b_gtr b_geq b_beql b_bneq b_seql b_sneq b_sadd b_aeql b_aneq aq_f aq_t eq_nil and2_some eq_cons ef_some ev_int ev_str ev_bool b_nn b_sn b_nn' b_sn' o_un un_not un_neg o_extract ex_tup o_nilCheck nc_ptr o_len ln_str ln_nil ln_sl ln_slc o_call ca_fn ca_clo c_val c_int c_bool c_str c_nil c_ptr c_sl c_slc c_clo c_agg p_any p_one p_agg h_cons h_len h_at h_at0 h_set h_set0 cset_nil cset_cons cons2_some rs_nil rs_cons rs_tmp rs_cell rc_ptr ret_p ret_g ret_g0 ot_1 ot_2 pv_c pv_agg pvs_nil pvs_int pvs_bool pvs_str pt_nil pt_cons pt2_some fl_nil fl_cons fl2_some o_build bd_some ag_some fs_nil fs_cons o_buildSlice bs_some bs2_some bs3_some rep_zero rep_succ le_maxLen o_makeSlice mk_some mk2_some bd_none bd_int o_slice sl_str ss_some sl_sl cap_nil cap_cons cap2_some o_makeFunc mf_some o_convert o_append o_min o_max mm_f mm_t law_calls rep_nil one_int one_str
attribute [local go_sem] List.map_cons List.map_nil List.getElem?_cons_zero List.getElem?_cons_succ Option.map_some List.length_cons List.length_nil List.cons_append List.nil_append ds_mk Option.bind_some List.set_cons_zero List.set_cons_succ List.drop_zero List.drop_succ_cons List.take_succ_cons List.take_zero List.take_nil Nat.le_refl Option.isSome_some Bool.and_true ite_true if_true true_and and_true and_self Nat.add_zero Nat.zero_add
attribute [local go_sem] ag2 sz2 by2 ze2 ki2 us2 ag3 sz3 by3 ze3 ki3 us3 ag4 sz4 by4 ze4 bo4 ag5 sz5 by5 ze5 ki5 us5 ag6 sz6 by6 ze6 ki6 us6 ag7 sz7 by7 ze7 of7_0 of7_1 of7_2 of7_3 pl7 eq7 ag8 sz8 by8 ze8 of8_0 of8_1 of8_2 of8_3 pl8 eq8 ag9 sz9 by9 ze9 el9 st9 ag10 sz10 by10 ze10 el10 st10 ag11 sz11 by11 ze11 el11 st11 ag12 sz12 by12 ze12 ki12 us12 ag13 sz13 by13 ze13 of13_0 of13_1 pl13 ag14 sz14 by14 ze14 of14_0 of14_1 pl14 ag15 sz15 by15 ag16 sz16 by16 ag17 sz17 by17 ag18 sz18 by18 of18_0 pl18 ag19 sz19 by19 of19_0 pl19 ag21 sz21 by21 ze21 ki21 us21 ag22 sz22 by22 ze22 of22_0 of22_1 of22_2 of22_3 pl22 eq22 ag23 sz23 by23 ze23 of23_0 of23_1 of23_2 of23_3 pl23 eq23 ag26 sz26 by26 ze26 of26_0 of26_1 of26_2 of26_3 pl26 eq26 ag29 sz29 by29 ze29 el29 st29 ag30 sz30 by30 ze30 of30_0 of30_1 pl30 ag31 sz31 by31 ze31 of31_0 of31_1 pl31 ag33 sz33 by33 ze33 el33 st33 ag35 sz35 by35 ze35 el35 st35 ag36 sz36 by36 ze36 of36_0 of36_1 pl36 ag37 sz37 by37 ze37 of37_0 of37_1 pl37 ag47 sz47 by47 ze47 el47 st47 ag54 sz54 by54 ze54 el54 st54 ag75 sz75 by75 ze75 of75_0 of75_1 of75_2 pl75 eq75 ag76 sz76 by76 ze76 of76_0 of76_1 of76_2 pl76 eq76 ag83 sz83 by83 ag97 sz97 by97 ze97 of97_0 of97_1 of97_2 pl97 eq97
set_option maxRecDepth 100000
theorem mixed : Try.prog.follows .mixedOrders = true := by kernel_rfl
theorem c55 (n lo hi : Int) (h : AH) (K : AV → AH → Prop) (hk : ∀ r, r = decide (lo ≤ n ∧ n ≤ hi) → K (.one (.c (.bool r))) h) : ACalls Try.prog 55 [.one (.c (.int .i64 n)), .one (.c (.int .i64 lo)), .one (.c (.int .i64 hi))] h K := by
  refine acall_p Try.f55.results.toList mixed Try.func55 rfl rfl (by kernel_rfl) ?_
  intro Q hQ
  simp only [go_sem, Nat.reduceBEq, Nat.reduceAdd, Nat.reduceLeDiff, Nat.reduceMul, Nat.reduceSub]
  repeat' (first | (with_reducible refine c_split (fun hb => ?_) (fun hb => ?_) <;> try simp only [go_sem, Nat.reduceBEq, Nat.reduceAdd, Nat.reduceLeDiff, Nat.reduceMul, Nat.reduceSub, hb]) | (with_reducible refine w_split (fun hb => ?_) (fun hb => ?_) <;> try simp only [go_sem, Nat.reduceBEq, Nat.reduceAdd, Nat.reduceLeDiff, Nat.reduceMul, Nat.reduceSub, hb]) | (with_reducible refine hQ _ _ ?_ <;> simp only [Try.f55, go_sem, Nat.reduceBEq, Nat.reduceAdd, Nat.reduceLeDiff, Nat.reduceMul, Nat.reduceSub]))
  all_goals (refine hk _ ?_; simp_all <;> omega)
theorem c54 (n lo hi : Int) (h : AH) (K : AV → AH → Prop) (hk : ∀ r, r = decide (lo ≤ n ∧ n ≤ hi) → K (.one (.c (.bool r))) h) : ACalls Try.prog 54 [.one (.c (.int .i64 n)), .one (.c (.int .i64 lo)), .one (.c (.int .i64 hi))] h K := by
  refine acall_p Try.f54.results.toList mixed Try.func54 rfl rfl (by kernel_rfl) ?_
  intro Q hQ
  simp only [go_sem, Nat.reduceBEq, Nat.reduceAdd, Nat.reduceLeDiff, Nat.reduceMul, Nat.reduceSub]
  repeat' (first | (with_reducible refine c_split (fun hb => ?_) (fun hb => ?_) <;> try simp only [go_sem, Nat.reduceBEq, Nat.reduceAdd, Nat.reduceLeDiff, Nat.reduceMul, Nat.reduceSub, hb]) | (with_reducible refine w_split (fun hb => ?_) (fun hb => ?_) <;> try simp only [go_sem, Nat.reduceBEq, Nat.reduceAdd, Nat.reduceLeDiff, Nat.reduceMul, Nat.reduceSub, hb]) | (with_reducible refine hQ _ _ ?_ <;> simp only [Try.f54, go_sem, Nat.reduceBEq, Nat.reduceAdd, Nat.reduceLeDiff, Nat.reduceMul, Nat.reduceSub]))
  all_goals (refine hk _ ?_; simp_all <;> omega)
theorem c14 (a b c : Int) (s : ByteArray) (h : AH) (K : AV → AH → Prop) (hk : K (.agg [.c (.int .i64 a), .c (.string s), .c (.int .i64 b), .c (.int .i64 c)]) h) : ACalls Try.prog 14 [.agg [.c (.int .i64 a), .c (.string s), .c (.int .i64 b), .c (.int .i64 c)]] h K := by
  refine acall_p Try.f14.results.toList mixed Try.func14 rfl rfl (by kernel_rfl) ?_
  intro Q hQ
  simp only [go_sem, Nat.reduceBEq, Nat.reduceAdd, Nat.reduceLeDiff, Nat.reduceMul, Nat.reduceSub]
  repeat' (first | (with_reducible refine c_split (fun hb => ?_) (fun hb => ?_) <;> try simp only [go_sem, Nat.reduceBEq, Nat.reduceAdd, Nat.reduceLeDiff, Nat.reduceMul, Nat.reduceSub, hb]) | (with_reducible refine w_split (fun hb => ?_) (fun hb => ?_) <;> try simp only [go_sem, Nat.reduceBEq, Nat.reduceAdd, Nat.reduceLeDiff, Nat.reduceMul, Nat.reduceSub, hb]) | (with_reducible refine hQ _ _ ?_ <;> simp only [Try.f14, go_sem, Nat.reduceBEq, Nat.reduceAdd, Nat.reduceLeDiff, Nat.reduceMul, Nat.reduceSub]))
  exact hk
theorem c12 (a b c left : Int) (s : ByteArray) (h : AH) (K : AV → AH → Prop) (hk : ∀ r, K (.one (.c (.int .i64 r))) h) : ACalls Try.prog 12 [.agg [.c (.int .i64 a), .c (.string s), .c (.int .i64 b), .c (.int .i64 c)], .one (.c (.int .i64 left))] h K := by
  refine acall_p Try.f12.results.toList mixed Try.func12 rfl rfl (by kernel_rfl) ?_
  intro Q hQ
  simp only [go_sem, Nat.reduceBEq, Nat.reduceAdd, Nat.reduceLeDiff, Nat.reduceMul, Nat.reduceSub]
  repeat' (first | (with_reducible refine c_split (fun hb => ?_) (fun hb => ?_) <;> try simp only [go_sem, Nat.reduceBEq, Nat.reduceAdd, Nat.reduceLeDiff, Nat.reduceMul, Nat.reduceSub, hb]) | (with_reducible refine w_split (fun hb => ?_) (fun hb => ?_) <;> try simp only [go_sem, Nat.reduceBEq, Nat.reduceAdd, Nat.reduceLeDiff, Nat.reduceMul, Nat.reduceSub, hb]) | (with_reducible refine hQ _ _ ?_ <;> simp only [Try.f12, go_sem, Nat.reduceBEq, Nat.reduceAdd, Nat.reduceLeDiff, Nat.reduceMul, Nat.reduceSub]))
  all_goals exact hk _
theorem size_nil {s : ByteArray} (h : s.toList = []) : s.size = 0 := by
  rw [ByteArray.toList_eq] at h
  have := congrArg List.length h
  simpa using this
def deedOk (a : Int) (s : ByteArray) (b c : Int) : Bool :=
  if 200 < (s.size : Int) ∨ ¬ (0 ≤ b ∧ b ≤ 4) ∨ ¬ (0 ≤ c ∧ c ≤ 60000) then false
  else if a = 1 then b == 0 && c == 0
  else if a = 2 ∨ a = 6 then s.toList == [] && (b == 0 && c == 0)
  else if a = 3 then s.toList == [] && b == 0
  else if a = 4 then b == 0
  else if a = 5 then s.toList == []
  else false
theorem c13 (a b c : Int) (s : ByteArray) (h : AH) (K : AV → AH → Prop) (hk : ∀ r, r = deedOk a s b c → K (.one (.c (.bool r))) h) : ACalls Try.prog 13 [.agg [.c (.int .i64 a), .c (.string s), .c (.int .i64 b), .c (.int .i64 c)]] h K := by
  refine acall_p Try.f13.results.toList mixed Try.func13 rfl rfl (by kernel_rfl) ?_
  intro Q hQ
  simp only [go_sem, Nat.reduceBEq, Nat.reduceAdd, Nat.reduceLeDiff, Nat.reduceMul, Nat.reduceSub]
  repeat' (first | (with_reducible refine c_split (fun hb => ?_) (fun hb => ?_) <;> try simp only [go_sem, Nat.reduceBEq, Nat.reduceAdd, Nat.reduceLeDiff, Nat.reduceMul, Nat.reduceSub, hb]) | (with_reducible refine w_split (fun hb => ?_) (fun hb => ?_) <;> try simp only [go_sem, Nat.reduceBEq, Nat.reduceAdd, Nat.reduceLeDiff, Nat.reduceMul, Nat.reduceSub, hb]) | (with_reducible refine c54 _ _ _ _ _ (fun r hr => ?_) <;> try simp only [go_sem, Nat.reduceBEq, Nat.reduceAdd, Nat.reduceLeDiff, Nat.reduceMul, Nat.reduceSub]) | (with_reducible refine hQ _ _ ?_ <;> simp only [Try.f13, go_sem, Nat.reduceBEq, Nat.reduceAdd, Nat.reduceLeDiff, Nat.reduceMul, Nat.reduceSub]))
  all_goals (refine hk _ ?_; have hz : s.toList = [] → s.size = 0 := size_nil; simp only [deedOk]; simp_all; try grind)
theorem c15 (a b c : Int) (s : ByteArray) (h : AH) (K : AV → AH → Prop) (hk : ∀ r, r = deedOk a s b c → K (.one (.c (.bool r))) h) : ACalls Try.prog 15 [.agg [.c (.int .i64 a), .c (.string s), .c (.int .i64 b), .c (.int .i64 c)]] h K := by
  refine acall_p Try.f15.results.toList mixed Try.func15 rfl rfl (by kernel_rfl) ?_
  intro Q hQ
  simp only [go_sem, Nat.reduceBEq, Nat.reduceAdd, Nat.reduceLeDiff, Nat.reduceMul, Nat.reduceSub]
  repeat' (first | (with_reducible refine c_split (fun hb => ?_) (fun hb => ?_) <;> try simp only [go_sem, Nat.reduceBEq, Nat.reduceAdd, Nat.reduceLeDiff, Nat.reduceMul, Nat.reduceSub, hb]) | (with_reducible refine w_split (fun hb => ?_) (fun hb => ?_) <;> try simp only [go_sem, Nat.reduceBEq, Nat.reduceAdd, Nat.reduceLeDiff, Nat.reduceMul, Nat.reduceSub, hb]) | (with_reducible refine c55 _ _ _ _ _ (fun r hr => ?_) <;> try simp only [go_sem, Nat.reduceBEq, Nat.reduceAdd, Nat.reduceLeDiff, Nat.reduceMul, Nat.reduceSub]) | (with_reducible refine hQ _ _ ?_ <;> simp only [Try.f15, go_sem, Nat.reduceBEq, Nat.reduceAdd, Nat.reduceLeDiff, Nat.reduceMul, Nat.reduceSub]))
  all_goals (refine hk _ ?_; have hz : s.toList = [] → s.size = 0 := size_nil; simp only [deedOk]; simp_all; try grind)
theorem c3 (a b c : Int) (s : ByteArray) (h : AH) (K : AV → AH → Prop) (hk : K (.one (.c (.bool true))) h) : ACalls Try.prog 3 [.agg [.c (.int .i64 a), .c (.string s), .c (.int .i64 b), .c (.int .i64 c)]] h K := by
  refine acall_p Try.f3.results.toList mixed Try.func3 rfl rfl (by kernel_rfl) ?_
  intro Q hQ
  simp only [go_sem, Nat.reduceBEq, Nat.reduceAdd, Nat.reduceLeDiff, Nat.reduceMul, Nat.reduceSub]
  repeat' (first | (with_reducible refine c_split (fun hb => ?_) (fun hb => ?_) <;> try simp only [go_sem, Nat.reduceBEq, Nat.reduceAdd, Nat.reduceLeDiff, Nat.reduceMul, Nat.reduceSub, hb]) | (with_reducible refine w_split (fun hb => ?_) (fun hb => ?_) <;> try simp only [go_sem, Nat.reduceBEq, Nat.reduceAdd, Nat.reduceLeDiff, Nat.reduceMul, Nat.reduceSub, hb]) | (with_reducible refine c12 _ _ _ _ _ _ _ (fun r => ?_) <;> try simp only [go_sem, Nat.reduceBEq, Nat.reduceAdd, Nat.reduceLeDiff, Nat.reduceMul, Nat.reduceSub]) | (with_reducible refine c13 _ _ _ _ _ _ (fun r hr => ?_) <;> try simp only [go_sem, Nat.reduceBEq, Nat.reduceAdd, Nat.reduceLeDiff, Nat.reduceMul, Nat.reduceSub]) | (with_reducible refine c15 _ _ _ _ _ _ (fun r hr => ?_) <;> try simp only [go_sem, Nat.reduceBEq, Nat.reduceAdd, Nat.reduceLeDiff, Nat.reduceMul, Nat.reduceSub]) | (with_reducible refine c14 _ _ _ _ _ _ ?_ <;> try simp only [go_sem, Nat.reduceBEq, Nat.reduceAdd, Nat.reduceLeDiff, Nat.reduceMul, Nat.reduceSub]) | (with_reducible refine hQ _ _ ?_ <;> simp only [Try.f3, go_sem, Nat.reduceBEq, Nat.reduceAdd, Nat.reduceLeDiff, Nat.reduceMul, Nat.reduceSub]))
  all_goals first | exact hk | simp_all
end Go.Proofs.Ytjfmfcdempkpdaa
