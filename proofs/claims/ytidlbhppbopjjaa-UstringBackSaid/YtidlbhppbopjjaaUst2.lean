/-
Chapter 3: Valid and Count.
-/
import Derived.Test.YtidlbhppbopjjaaUst
namespace Go.Proofs.Ytidlbhppbopjjaa.Ax
open Go.Ax
set_option linter.unusedVariables false
set_option linter.unusedSimpArgs false
set_option maxRecDepth 1000000

def okS (s : List UInt8) : Bool := decide (s.length ≤ 65535) && decide (rst s = [])
def cntS (s : List UInt8) : Nat := if okS s = true then (pts s).length else 0

theorem bad_int (s : List UInt8) : (bad s == -1) = decide (rst s = []) := by
  rw [Bool.eq_iff_iff]
  simp only [beq_iff_eq, decide_eq_true_eq]
  exact bad_neg s

def TBad : FuncId → Option (List AV → AHeap → Option (AV × AHeap))
  | 19 => some (pureT gBad)
  | _ => none
theorem TBad_ok : TOk Try.prog TBad := by
  intro f g h
  unfold TBad at h
  split at h
  · cases h; exact pureT_ok gBad_ok
  · cases h

theorem valid_run (R n0 : Nat) (s : List UInt8) (hs : s.length ≤ 4611686018427387904) : aFn F TBad R (n0 + 2) 17 [.str s] [] = some (.bool (okS s), []) := by
  have e1 : ∀ args h, aFn F TBad R (n0 + 1) 19 args h = pureT gBad args h := fun _ _ => rfl
  have hb := bad_int s
  have hT : TBad 17 = none := rfl
  by_cases h : s.length ≤ 65535
  · have e : okS s = decide (rst s = []) := by simp [okS, h]
    have hl : decide ((s.length : Int) ≤ 65535) = true := by rw [decide_eq_true_eq]; omega
    simp (maxSteps := 10000000) (disch := omega) only [aFn_run hT (show F 17 = some f17 from rfl), f17, aCode_skip, aCode_ret, aCode_exit, aCode_ops, aCode_quiet, aCode_seq, aCode_cond, aCode_block, aCode_loop, aOps_nil, aOps_cons, aQuiet_nil, aQuiet_cons, obind_some, obind_none, sel_true, sel_false, outK_val, outK_skip, outK_call, quietK_val, quietK_call, condK_bool, normK_normal, normK_exit, normK_ret, blockK_normal, blockK_ret, blockK_exit, endK_normal, endK_ret, callR_eq, ev_t, ev_c, put_some, put_none, wantK_t, wantK_f, row_eq, wantK_undef, wantedA_none, wantedA_some, ptrK_ptr, strK_str, intK_int, aggK_agg, tupK_tuple, funK_func, cellsK_some, iterK_some, rowO_cells, rowO_ro, aOp_mov, aOp_pick, aOp_new, aOp_box, aOp_build, aOp_buildSlice, aOp_load1, aOp_loadN, aOp_store, aOp_nilCheck, aOp_bin, aOp_not, aOp_conv, aOp_b2s, notStr_slice, notStr_nil, aOp_i2s, aOp_mkfunc, aOp_mkslice, aOp_substr, aOp_subslice, aOp_fieldAddr, aOp_field1, aOp_fieldN, aOp_indexAddr, aOp_indexStr, aOp_range, aOp_next, aOp_extract, aOp_call, aOp_lenS, aOp_len, lenK_slice, lenK_nil, aOp_append, sliceK_slice, sliceK_nil, i64K_int, aOp_min, aOp_max, aMin_int, aMax_int, bin_add, bin_sub, bin_mul, bin_quo, bin_rem, bin_eql, bin_neq, bin_lss, bin_leq, bin_gtr, bin_geq, bin_shl, bin_shr, bin_and, bin_or, bin_xor, bin_andNot, bin_sadd, bin_seql, bin_sneq, bin_slss, bin_beql, bin_bneq, bin_peql0, bin_pneq0, bin_peql1, bin_pneq1, bin_peql2, bin_pneq2, bin_agg_eql, bin_agg_neq, boundD_none, boundD_some, cells_bool, cells_int, cells_str, cells_agg, cells_ptr, cells_slice, cells_func, cells_nilptr, cells_nilslice, cells_nilFunc, AV.undef, List.length_cons, List.length_nil, Nat.reduceAdd, Nat.reduceSub, List.replicate_succ, List.replicate_zero, List.cons_append, List.nil_append, getD_0, set_0, getD_1, set_1, getD_2, set_2, getD_3, set_3, getD_4, set_4, getD_5, set_5, getD_6, set_6, getD_7, set_7, getD_8, set_8, getD_9, set_9, getD_10, set_10, getD_11, set_11, getD_12, set_12, getD_13, set_13, getD_14, set_14, getD_15, set_15, getD_16, set_16, List.map_cons, List.map_nil, Option.map_some, Option.map_none, true_or, or_true, false_or, or_false, reduceIte, reduceCtorEq, if_pos, if_neg, decide_eq_true, decide_eq_false, w64, wu64, ints_length, strs_length, ints_get, strs_get, List.getElem?_cons_zero, List.getElem?_cons_succ, splice_ints, splice, List.all_cons, List.all_nil, AV.one, and_true, true_and, and_false, false_and, Bool.and_true, Bool.true_and, Bool.and_false, Bool.false_and, Nat.zero_add, Nat.add_zero, Nat.mul_one, Bool.not_true, Bool.not_false, Bool.false_eq_true, beq_self_eq_true, still_mov, free_mov, still_pick, free_pick, still_build, free_build, still_load1, free_load1, still_loadN, free_loadN, still_nilCheck, free_nilCheck, still_bin, free_bin, still_not, free_not, still_conv, free_conv, still_b2s, free_b2s, still_i2s, free_i2s, still_mkfunc, free_mkfunc, still_substr, free_substr, still_subslice, free_subslice, still_fieldAddr, free_fieldAddr, still_field1, free_field1, still_fieldN, free_fieldN, still_indexAddr, free_indexAddr, still_indexStr, free_indexStr, still_extract, free_extract, still_call, free_call, still_lenS, free_lenS, still_len, free_len, still_min, free_min, still_max, free_max, det_bool, det_int, det_str, det_nilptr, det_ptr, det_nilslice, det_nilFunc, det_slice, det_agg, det_tuple, scalar_bool, scalar_int, scalar_str, scalar_nilptr, scalar_ptr, scalar_nilslice, scalar_nilFunc, scalar_slice, scalar_agg, scalar_tuple, dets_nil, dets_cons, scalars_nil, scalars_cons, or_t, or_f, and_t, and_f, not_t, not_f, toRo_cells, toRo_ro, toRo_iter, toRo_dead, cellsK_nil, cellsK_slice, cellsK_str, Bool.or_true, Bool.true_or, Bool.or_false, Bool.false_or, ge_iff_le, gt_iff_lt, ↓obind_some, ↓obind_none, ↓sel_true, ↓sel_false, ↓outK_val, ↓outK_skip, ↓outK_call, ↓quietK_val, ↓quietK_call, ↓condK_bool, ↓normK_normal, ↓normK_exit, ↓normK_ret, ↓blockK_normal, ↓blockK_ret, ↓blockK_exit, ↓endK_normal, ↓endK_ret, ↓ptrK_ptr, ↓strK_str, ↓intK_int, ↓aggK_agg, ↓tupK_tuple, ↓funK_func, ↓cellsK_some, ↓iterK_some, ↓sliceK_slice, ↓sliceK_nil, ↓i64K_int, e, e1, pBad, hb]
    simp [obind_some, resAll, ARes.get, tup, renorm, reach, mask, AV.idss, AV.ids, roots, AObj.ids, idss_ints, idss_strs, keepOk, AV.rens, AV.ren, rho, idx, AObj.ren, rens_ints, rens_strs]
  · have e : okS s = false := by simp [okS, h]
    simp (maxSteps := 10000000) (disch := omega) only [aFn_run hT (show F 17 = some f17 from rfl), f17, aCode_skip, aCode_ret, aCode_exit, aCode_ops, aCode_quiet, aCode_seq, aCode_cond, aCode_block, aCode_loop, aOps_nil, aOps_cons, aQuiet_nil, aQuiet_cons, obind_some, obind_none, sel_true, sel_false, outK_val, outK_skip, outK_call, quietK_val, quietK_call, condK_bool, normK_normal, normK_exit, normK_ret, blockK_normal, blockK_ret, blockK_exit, endK_normal, endK_ret, callR_eq, ev_t, ev_c, put_some, put_none, wantK_t, wantK_f, row_eq, wantK_undef, wantedA_none, wantedA_some, ptrK_ptr, strK_str, intK_int, aggK_agg, tupK_tuple, funK_func, cellsK_some, iterK_some, rowO_cells, rowO_ro, aOp_mov, aOp_pick, aOp_new, aOp_box, aOp_build, aOp_buildSlice, aOp_load1, aOp_loadN, aOp_store, aOp_nilCheck, aOp_bin, aOp_not, aOp_conv, aOp_b2s, notStr_slice, notStr_nil, aOp_i2s, aOp_mkfunc, aOp_mkslice, aOp_substr, aOp_subslice, aOp_fieldAddr, aOp_field1, aOp_fieldN, aOp_indexAddr, aOp_indexStr, aOp_range, aOp_next, aOp_extract, aOp_call, aOp_lenS, aOp_len, lenK_slice, lenK_nil, aOp_append, sliceK_slice, sliceK_nil, i64K_int, aOp_min, aOp_max, aMin_int, aMax_int, bin_add, bin_sub, bin_mul, bin_quo, bin_rem, bin_eql, bin_neq, bin_lss, bin_leq, bin_gtr, bin_geq, bin_shl, bin_shr, bin_and, bin_or, bin_xor, bin_andNot, bin_sadd, bin_seql, bin_sneq, bin_slss, bin_beql, bin_bneq, bin_peql0, bin_pneq0, bin_peql1, bin_pneq1, bin_peql2, bin_pneq2, bin_agg_eql, bin_agg_neq, boundD_none, boundD_some, cells_bool, cells_int, cells_str, cells_agg, cells_ptr, cells_slice, cells_func, cells_nilptr, cells_nilslice, cells_nilFunc, AV.undef, List.length_cons, List.length_nil, Nat.reduceAdd, Nat.reduceSub, List.replicate_succ, List.replicate_zero, List.cons_append, List.nil_append, getD_0, set_0, getD_1, set_1, getD_2, set_2, getD_3, set_3, getD_4, set_4, getD_5, set_5, getD_6, set_6, getD_7, set_7, getD_8, set_8, getD_9, set_9, getD_10, set_10, getD_11, set_11, getD_12, set_12, getD_13, set_13, getD_14, set_14, getD_15, set_15, getD_16, set_16, List.map_cons, List.map_nil, Option.map_some, Option.map_none, true_or, or_true, false_or, or_false, reduceIte, reduceCtorEq, if_pos, if_neg, decide_eq_true, decide_eq_false, w64, wu64, ints_length, strs_length, ints_get, strs_get, List.getElem?_cons_zero, List.getElem?_cons_succ, splice_ints, splice, List.all_cons, List.all_nil, AV.one, and_true, true_and, and_false, false_and, Bool.and_true, Bool.true_and, Bool.and_false, Bool.false_and, Nat.zero_add, Nat.add_zero, Nat.mul_one, Bool.not_true, Bool.not_false, Bool.false_eq_true, beq_self_eq_true, still_mov, free_mov, still_pick, free_pick, still_build, free_build, still_load1, free_load1, still_loadN, free_loadN, still_nilCheck, free_nilCheck, still_bin, free_bin, still_not, free_not, still_conv, free_conv, still_b2s, free_b2s, still_i2s, free_i2s, still_mkfunc, free_mkfunc, still_substr, free_substr, still_subslice, free_subslice, still_fieldAddr, free_fieldAddr, still_field1, free_field1, still_fieldN, free_fieldN, still_indexAddr, free_indexAddr, still_indexStr, free_indexStr, still_extract, free_extract, still_call, free_call, still_lenS, free_lenS, still_len, free_len, still_min, free_min, still_max, free_max, det_bool, det_int, det_str, det_nilptr, det_ptr, det_nilslice, det_nilFunc, det_slice, det_agg, det_tuple, scalar_bool, scalar_int, scalar_str, scalar_nilptr, scalar_ptr, scalar_nilslice, scalar_nilFunc, scalar_slice, scalar_agg, scalar_tuple, dets_nil, dets_cons, scalars_nil, scalars_cons, or_t, or_f, and_t, and_f, not_t, not_f, toRo_cells, toRo_ro, toRo_iter, toRo_dead, cellsK_nil, cellsK_slice, cellsK_str, Bool.or_true, Bool.true_or, Bool.or_false, Bool.false_or, ge_iff_le, gt_iff_lt, ↓obind_some, ↓obind_none, ↓sel_true, ↓sel_false, ↓outK_val, ↓outK_skip, ↓outK_call, ↓quietK_val, ↓quietK_call, ↓condK_bool, ↓normK_normal, ↓normK_exit, ↓normK_ret, ↓blockK_normal, ↓blockK_ret, ↓blockK_exit, ↓endK_normal, ↓endK_ret, ↓ptrK_ptr, ↓strK_str, ↓intK_int, ↓aggK_agg, ↓tupK_tuple, ↓funK_func, ↓cellsK_some, ↓iterK_some, ↓sliceK_slice, ↓sliceK_nil, ↓i64K_int, e, e1, pBad, hb]
    simp [obind_some, resAll, ARes.get, tup, renorm, reach, mask, AV.idss, AV.ids, roots, AObj.ids, idss_ints, idss_strs, keepOk, AV.rens, AV.ren, rho, idx, AObj.ren, rens_ints, rens_strs]

def gValid : List AV → Option AV
  | [.str s] => if s.length ≤ 4611686018427387904 then some (.bool (okS s)) else none
  | _ => none
theorem gValid_eq (s : List UInt8) : gValid [.str s] = if s.length ≤ 4611686018427387904 then some (.bool (okS s)) else none := rfl
theorem pValid (s : List UInt8) (h : AHeap) (hs : s.length ≤ 4611686018427387904) : pureT gValid [.str s] h = some (.bool (okS s), h) := pureT_some _ _ _ _ (by rw [gValid_eq, if_pos hs])
theorem gValid_ok : ∀ args v, gValid args = some v → AV.scalars args = true ∧ v.scalar = true ∧ ∃ h0, SoundCall Try.prog 17 args [] v h0 := by
  intro args v h
  unfold gValid at h
  split at h
  · split at h
    · rename_i s hb
      cases h
      exact ⟨rfl, rfl, [], fn_ok (Checked.mixed Try.checked) F_ok TBad_ok 20 2 _ _ _ _ _ (valid_run 20 0 s hb)⟩
    · cases h
  · cases h

def TVal : FuncId → Option (List AV → AHeap → Option (AV × AHeap))
  | 19 => some (pureT gBad)
  | 17 => some (pureT gValid)
  | _ => none
theorem TVal_ok : TOk Try.prog TVal := by
  intro f g h
  unfold TVal at h
  split at h
  · cases h; exact pureT_ok gBad_ok
  · cases h; exact pureT_ok gValid_ok
  · cases h

/-! ### Count -/

theorem count_step (call : ACall) (R : Nat) (s : List UInt8) (pos c w i : Nat) (hs : s.length ≤ 65535) (hi : i ≤ 65535) (hp : pos < s.length) (hd : dec (s.drop pos) = (c, w)) :
    ∃ fr, aCode call R 0 f18_L0 (f18_S0 (.int .i64 i) (.ptr 0 0)) [.iter s pos] = some (.normal, fr, [.iter s (pos + w)]) ∧ mask f18_M0 fr = f18_S0 (.int .i64 ((i + 1 : Nat) : Int)) (.ptr 0 0) := by
  have hdd : Utf8.decode ⟨s.toArray⟩ pos = (c, w) := by rw [decode_dec, hd]
  simp (maxSteps := 10000000) (disch := omega) only [f18_L0, f18_S0, aCode_skip, aCode_ret, aCode_exit, aCode_ops, aCode_quiet, aCode_seq, aCode_cond, aCode_block, aCode_loop, aOps_nil, aOps_cons, aQuiet_nil, aQuiet_cons, obind_some, obind_none, sel_true, sel_false, outK_val, outK_skip, outK_call, quietK_val, quietK_call, condK_bool, normK_normal, normK_exit, normK_ret, blockK_normal, blockK_ret, blockK_exit, endK_normal, endK_ret, callR_eq, ev_t, ev_c, put_some, put_none, wantK_t, wantK_f, row_eq, wantK_undef, wantedA_none, wantedA_some, ptrK_ptr, strK_str, intK_int, aggK_agg, tupK_tuple, funK_func, cellsK_some, iterK_some, rowO_cells, rowO_ro, aOp_mov, aOp_pick, aOp_new, aOp_box, aOp_build, aOp_buildSlice, aOp_load1, aOp_loadN, aOp_store, aOp_nilCheck, aOp_bin, aOp_not, aOp_conv, aOp_b2s, notStr_slice, notStr_nil, aOp_i2s, aOp_mkfunc, aOp_mkslice, aOp_substr, aOp_subslice, aOp_fieldAddr, aOp_field1, aOp_fieldN, aOp_indexAddr, aOp_indexStr, aOp_range, aOp_next, aOp_extract, aOp_call, aOp_lenS, aOp_len, lenK_slice, lenK_nil, aOp_append, sliceK_slice, sliceK_nil, i64K_int, aOp_min, aOp_max, aMin_int, aMax_int, bin_add, bin_sub, bin_mul, bin_quo, bin_rem, bin_eql, bin_neq, bin_lss, bin_leq, bin_gtr, bin_geq, bin_shl, bin_shr, bin_and, bin_or, bin_xor, bin_andNot, bin_sadd, bin_seql, bin_sneq, bin_slss, bin_beql, bin_bneq, bin_peql0, bin_pneq0, bin_peql1, bin_pneq1, bin_peql2, bin_pneq2, bin_agg_eql, bin_agg_neq, boundD_none, boundD_some, cells_bool, cells_int, cells_str, cells_agg, cells_ptr, cells_slice, cells_func, cells_nilptr, cells_nilslice, cells_nilFunc, AV.undef, List.length_cons, List.length_nil, Nat.reduceAdd, Nat.reduceSub, List.replicate_succ, List.replicate_zero, List.cons_append, List.nil_append, getD_0, set_0, getD_1, set_1, getD_2, set_2, getD_3, set_3, getD_4, set_4, getD_5, set_5, getD_6, set_6, getD_7, set_7, getD_8, set_8, getD_9, set_9, getD_10, set_10, getD_11, set_11, getD_12, set_12, getD_13, set_13, getD_14, set_14, getD_15, set_15, getD_16, set_16, List.map_cons, List.map_nil, Option.map_some, Option.map_none, true_or, or_true, false_or, or_false, reduceIte, reduceCtorEq, if_pos, if_neg, decide_eq_true, decide_eq_false, w64, wu64, ints_length, strs_length, ints_get, strs_get, List.getElem?_cons_zero, List.getElem?_cons_succ, splice_ints, splice, List.all_cons, List.all_nil, AV.one, and_true, true_and, and_false, false_and, Bool.and_true, Bool.true_and, Bool.and_false, Bool.false_and, Nat.zero_add, Nat.add_zero, Nat.mul_one, Bool.not_true, Bool.not_false, Bool.false_eq_true, beq_self_eq_true, still_mov, free_mov, still_pick, free_pick, still_build, free_build, still_load1, free_load1, still_loadN, free_loadN, still_nilCheck, free_nilCheck, still_bin, free_bin, still_not, free_not, still_conv, free_conv, still_b2s, free_b2s, still_i2s, free_i2s, still_mkfunc, free_mkfunc, still_substr, free_substr, still_subslice, free_subslice, still_fieldAddr, free_fieldAddr, still_field1, free_field1, still_fieldN, free_fieldN, still_indexAddr, free_indexAddr, still_indexStr, free_indexStr, still_extract, free_extract, still_call, free_call, still_lenS, free_lenS, still_len, free_len, still_min, free_min, still_max, free_max, det_bool, det_int, det_str, det_nilptr, det_ptr, det_nilslice, det_nilFunc, det_slice, det_agg, det_tuple, scalar_bool, scalar_int, scalar_str, scalar_nilptr, scalar_ptr, scalar_nilslice, scalar_nilFunc, scalar_slice, scalar_agg, scalar_tuple, dets_nil, dets_cons, scalars_nil, scalars_cons, or_t, or_f, and_t, and_f, not_t, not_f, toRo_cells, toRo_ro, toRo_iter, toRo_dead, cellsK_nil, cellsK_slice, cellsK_str, Bool.or_true, Bool.true_or, Bool.or_false, Bool.false_or, ge_iff_le, gt_iff_lt, ↓obind_some, ↓obind_none, ↓sel_true, ↓sel_false, ↓outK_val, ↓outK_skip, ↓outK_call, ↓quietK_val, ↓quietK_call, ↓condK_bool, ↓normK_normal, ↓normK_exit, ↓normK_ret, ↓blockK_normal, ↓blockK_ret, ↓blockK_exit, ↓endK_normal, ↓endK_ret, ↓ptrK_ptr, ↓strK_str, ↓intK_int, ↓aggK_agg, ↓tupK_tuple, ↓funK_func, ↓cellsK_some, ↓iterK_some, ↓sliceK_slice, ↓sliceK_nil, ↓i64K_int, hdd]
  exact ⟨_, rfl, rfl⟩

theorem count_end (call : ACall) (R : Nat) (s : List UInt8) (v : AV) :
    aCode call R 0 f18_L0 (f18_S0 v (.ptr 0 0)) [.iter s s.length] =
      some (.exit 0, ((f18_S0 v (.ptr 0 0)).set 9 (.tuple [.bool false])).set 10 (.bool false), [.iter s s.length]) := by
  simp (maxSteps := 10000000) (disch := omega) only [f18_L0, f18_S0, aCode_skip, aCode_ret, aCode_exit, aCode_ops, aCode_quiet, aCode_seq, aCode_cond, aCode_block, aCode_loop, aOps_nil, aOps_cons, aQuiet_nil, aQuiet_cons, obind_some, obind_none, sel_true, sel_false, outK_val, outK_skip, outK_call, quietK_val, quietK_call, condK_bool, normK_normal, normK_exit, normK_ret, blockK_normal, blockK_ret, blockK_exit, endK_normal, endK_ret, callR_eq, ev_t, ev_c, put_some, put_none, wantK_t, wantK_f, row_eq, wantK_undef, wantedA_none, wantedA_some, ptrK_ptr, strK_str, intK_int, aggK_agg, tupK_tuple, funK_func, cellsK_some, iterK_some, rowO_cells, rowO_ro, aOp_mov, aOp_pick, aOp_new, aOp_box, aOp_build, aOp_buildSlice, aOp_load1, aOp_loadN, aOp_store, aOp_nilCheck, aOp_bin, aOp_not, aOp_conv, aOp_b2s, notStr_slice, notStr_nil, aOp_i2s, aOp_mkfunc, aOp_mkslice, aOp_substr, aOp_subslice, aOp_fieldAddr, aOp_field1, aOp_fieldN, aOp_indexAddr, aOp_indexStr, aOp_range, aOp_next, aOp_extract, aOp_call, aOp_lenS, aOp_len, lenK_slice, lenK_nil, aOp_append, sliceK_slice, sliceK_nil, i64K_int, aOp_min, aOp_max, aMin_int, aMax_int, bin_add, bin_sub, bin_mul, bin_quo, bin_rem, bin_eql, bin_neq, bin_lss, bin_leq, bin_gtr, bin_geq, bin_shl, bin_shr, bin_and, bin_or, bin_xor, bin_andNot, bin_sadd, bin_seql, bin_sneq, bin_slss, bin_beql, bin_bneq, bin_peql0, bin_pneq0, bin_peql1, bin_pneq1, bin_peql2, bin_pneq2, bin_agg_eql, bin_agg_neq, boundD_none, boundD_some, cells_bool, cells_int, cells_str, cells_agg, cells_ptr, cells_slice, cells_func, cells_nilptr, cells_nilslice, cells_nilFunc, AV.undef, List.length_cons, List.length_nil, Nat.reduceAdd, Nat.reduceSub, List.replicate_succ, List.replicate_zero, List.cons_append, List.nil_append, getD_0, set_0, getD_1, set_1, getD_2, set_2, getD_3, set_3, getD_4, set_4, getD_5, set_5, getD_6, set_6, getD_7, set_7, getD_8, set_8, getD_9, set_9, getD_10, set_10, getD_11, set_11, getD_12, set_12, getD_13, set_13, getD_14, set_14, getD_15, set_15, getD_16, set_16, List.map_cons, List.map_nil, Option.map_some, Option.map_none, true_or, or_true, false_or, or_false, reduceIte, reduceCtorEq, if_pos, if_neg, decide_eq_true, decide_eq_false, w64, wu64, ints_length, strs_length, ints_get, strs_get, List.getElem?_cons_zero, List.getElem?_cons_succ, splice_ints, splice, List.all_cons, List.all_nil, AV.one, and_true, true_and, and_false, false_and, Bool.and_true, Bool.true_and, Bool.and_false, Bool.false_and, Nat.zero_add, Nat.add_zero, Nat.mul_one, Bool.not_true, Bool.not_false, Bool.false_eq_true, beq_self_eq_true, still_mov, free_mov, still_pick, free_pick, still_build, free_build, still_load1, free_load1, still_loadN, free_loadN, still_nilCheck, free_nilCheck, still_bin, free_bin, still_not, free_not, still_conv, free_conv, still_b2s, free_b2s, still_i2s, free_i2s, still_mkfunc, free_mkfunc, still_substr, free_substr, still_subslice, free_subslice, still_fieldAddr, free_fieldAddr, still_field1, free_field1, still_fieldN, free_fieldN, still_indexAddr, free_indexAddr, still_indexStr, free_indexStr, still_extract, free_extract, still_call, free_call, still_lenS, free_lenS, still_len, free_len, still_min, free_min, still_max, free_max, det_bool, det_int, det_str, det_nilptr, det_ptr, det_nilslice, det_nilFunc, det_slice, det_agg, det_tuple, scalar_bool, scalar_int, scalar_str, scalar_nilptr, scalar_ptr, scalar_nilslice, scalar_nilFunc, scalar_slice, scalar_agg, scalar_tuple, dets_nil, dets_cons, scalars_nil, scalars_cons, or_t, or_f, and_t, and_f, not_t, not_f, toRo_cells, toRo_ro, toRo_iter, toRo_dead, cellsK_nil, cellsK_slice, cellsK_str, Bool.or_true, Bool.true_or, Bool.or_false, Bool.false_or, ge_iff_le, gt_iff_lt, ↓obind_some, ↓obind_none, ↓sel_true, ↓sel_false, ↓outK_val, ↓outK_skip, ↓outK_call, ↓quietK_val, ↓quietK_call, ↓condK_bool, ↓normK_normal, ↓normK_exit, ↓normK_ret, ↓blockK_normal, ↓blockK_ret, ↓blockK_exit, ↓endK_normal, ↓endK_ret, ↓ptrK_ptr, ↓strK_str, ↓intK_int, ↓aggK_agg, ↓tupK_tuple, ↓funK_func, ↓cellsK_some, ↓iterK_some, ↓sliceK_slice, ↓sliceK_nil, ↓i64K_int, Nat.lt_irrefl]

theorem count_head (s : List UInt8) (pos : Nat) (i : Int) : renorm 0 (f18_S0 (.int .i64 i) (.ptr 0 0)) [.iter s pos] = some (f18_S0 (.int .i64 i) (.ptr 0 0), [.iter s pos]) := by
  simp [obind_some, resAll, ARes.get, tup, renorm, reach, mask, AV.idss, AV.ids, roots, AObj.ids, idss_ints, idss_strs, keepOk, AV.rens, AV.ren, rho, idx, AObj.ren, rens_ints, rens_strs, f18_S0]

theorem count_loop (call : ACall) (R : Nat) (s : List UInt8) (hs : s.length ≤ 65535) :
    ∀ (us : List (List UInt8 × Nat)) (pos i k : Nat) (fr : List AV), Units us → pos ≤ s.length → s.drop pos = joined us → us.length < k → i ≤ pos → mask f18_M0 fr = f18_S0 (.int .i64 i) (.ptr 0 0) →
    aLoop 0 f18_M0 (fun fr h => aCode call R 0 f18_L0 fr h) k fr [.iter s pos] =
      some (.exit 0, ((f18_S0 (.int .i64 ((i + us.length : Nat) : Int)) (.ptr 0 0)).set 9 (.tuple [.bool false])).set 10 (.bool false), [.iter s s.length])
  | [], pos, i, k, fr, _, hp, hd, hk, hi, hm => by
    obtain ⟨k, rfl⟩ : ∃ m, k = m + 1 := ⟨k - 1, by simp at hk; omega⟩
    have hrn : renorm 0 (mask f18_M0 fr) [.iter s pos] = some (f18_S0 (.int .i64 i) (.ptr 0 0), [.iter s pos]) := by rw [hm]; exact count_head s pos i
    rw [joined_nil] at hd
    rw [aLoop_succ _ _ _ _ _ _ hrn]
    have : pos = s.length := by
      have := congrArg List.length hd
      rw [List.length_drop] at this
      simp at this; omega
    subst this
    simp only [count_end]
    rfl
  | u :: us, pos, i, k, fr, hu, hp, hd, hk, hi, hm => by
    obtain ⟨k, rfl⟩ : ∃ m, k = m + 1 := ⟨k - 1, by simp at hk; omega⟩
    have hrn : renorm 0 (mask f18_M0 fr) [.iter s pos] = some (f18_S0 (.int .i64 i) (.ptr 0 0), [.iter s pos]) := by rw [hm]; exact count_head s pos i
    have h1 := hu u (List.mem_cons_self ..)
    have hus : Units us := fun p hp => hu p (List.mem_cons_of_mem _ hp)
    rw [joined_cons] at hd
    obtain ⟨hdec, hgood⟩ := h1.2.2.1 (joined us)
    rw [← hd] at hdec
    have hlen := congrArg List.length hd
    rw [List.length_drop, List.length_append] at hlen
    have h0 : u.1.length ≠ 0 := fun e => h1.1 (List.length_eq_zero_iff.1 e)
    obtain ⟨fr', e1, e2⟩ := count_step call R s pos u.2 u.1.length i hs (by omega) (by omega) hdec
    have hd' : s.drop (pos + u.1.length) = joined us := by
      rw [← List.drop_drop, hd]; simp
    have ih := count_loop call R s hs us (pos + u.1.length) (i + 1) k fr' hus (by omega) hd' (by simp at hk; omega) (by omega) e2
    rw [aLoop_succ _ _ _ _ _ _ hrn]
    simp only [e1]
    rw [ih]
    have : i + 1 + us.length = i + (u :: us).length := by simp; omega
    rw [this]

theorem count_run (R n0 : Nat) (s : List UInt8) (hs : s.length ≤ 4611686018427387904) (hR : s.length < R) : aFn F TVal R (n0 + 2) 18 [.str s] [] = some (.int .i64 (cntS s), []) := by
  have e1 : ∀ args h, aFn F TVal R (n0 + 1) 17 args h = pureT gValid args h := fun _ _ => rfl
  have hT : TVal 18 = none := rfl
  cases hok : okS s with
  | false =>
    have e : ((cntS s : Nat) : Int) = 0 := by simp [cntS, hok]
    simp (maxSteps := 10000000) (disch := omega) only [aFn_run hT (show F 18 = some f18 from rfl), f18, aCode_skip, aCode_ret, aCode_exit, aCode_ops, aCode_quiet, aCode_seq, aCode_cond, aCode_block, aCode_loop, aOps_nil, aOps_cons, aQuiet_nil, aQuiet_cons, obind_some, obind_none, sel_true, sel_false, outK_val, outK_skip, outK_call, quietK_val, quietK_call, condK_bool, normK_normal, normK_exit, normK_ret, blockK_normal, blockK_ret, blockK_exit, endK_normal, endK_ret, callR_eq, ev_t, ev_c, put_some, put_none, wantK_t, wantK_f, row_eq, wantK_undef, wantedA_none, wantedA_some, ptrK_ptr, strK_str, intK_int, aggK_agg, tupK_tuple, funK_func, cellsK_some, iterK_some, rowO_cells, rowO_ro, aOp_mov, aOp_pick, aOp_new, aOp_box, aOp_build, aOp_buildSlice, aOp_load1, aOp_loadN, aOp_store, aOp_nilCheck, aOp_bin, aOp_not, aOp_conv, aOp_b2s, notStr_slice, notStr_nil, aOp_i2s, aOp_mkfunc, aOp_mkslice, aOp_substr, aOp_subslice, aOp_fieldAddr, aOp_field1, aOp_fieldN, aOp_indexAddr, aOp_indexStr, aOp_range, aOp_next, aOp_extract, aOp_call, aOp_lenS, aOp_len, lenK_slice, lenK_nil, aOp_append, sliceK_slice, sliceK_nil, i64K_int, aOp_min, aOp_max, aMin_int, aMax_int, bin_add, bin_sub, bin_mul, bin_quo, bin_rem, bin_eql, bin_neq, bin_lss, bin_leq, bin_gtr, bin_geq, bin_shl, bin_shr, bin_and, bin_or, bin_xor, bin_andNot, bin_sadd, bin_seql, bin_sneq, bin_slss, bin_beql, bin_bneq, bin_peql0, bin_pneq0, bin_peql1, bin_pneq1, bin_peql2, bin_pneq2, bin_agg_eql, bin_agg_neq, boundD_none, boundD_some, cells_bool, cells_int, cells_str, cells_agg, cells_ptr, cells_slice, cells_func, cells_nilptr, cells_nilslice, cells_nilFunc, AV.undef, List.length_cons, List.length_nil, Nat.reduceAdd, Nat.reduceSub, List.replicate_succ, List.replicate_zero, List.cons_append, List.nil_append, getD_0, set_0, getD_1, set_1, getD_2, set_2, getD_3, set_3, getD_4, set_4, getD_5, set_5, getD_6, set_6, getD_7, set_7, getD_8, set_8, getD_9, set_9, getD_10, set_10, getD_11, set_11, getD_12, set_12, getD_13, set_13, getD_14, set_14, getD_15, set_15, getD_16, set_16, List.map_cons, List.map_nil, Option.map_some, Option.map_none, true_or, or_true, false_or, or_false, reduceIte, reduceCtorEq, if_pos, if_neg, decide_eq_true, decide_eq_false, w64, wu64, ints_length, strs_length, ints_get, strs_get, List.getElem?_cons_zero, List.getElem?_cons_succ, splice_ints, splice, List.all_cons, List.all_nil, AV.one, and_true, true_and, and_false, false_and, Bool.and_true, Bool.true_and, Bool.and_false, Bool.false_and, Nat.zero_add, Nat.add_zero, Nat.mul_one, Bool.not_true, Bool.not_false, Bool.false_eq_true, beq_self_eq_true, still_mov, free_mov, still_pick, free_pick, still_build, free_build, still_load1, free_load1, still_loadN, free_loadN, still_nilCheck, free_nilCheck, still_bin, free_bin, still_not, free_not, still_conv, free_conv, still_b2s, free_b2s, still_i2s, free_i2s, still_mkfunc, free_mkfunc, still_substr, free_substr, still_subslice, free_subslice, still_fieldAddr, free_fieldAddr, still_field1, free_field1, still_fieldN, free_fieldN, still_indexAddr, free_indexAddr, still_indexStr, free_indexStr, still_extract, free_extract, still_call, free_call, still_lenS, free_lenS, still_len, free_len, still_min, free_min, still_max, free_max, det_bool, det_int, det_str, det_nilptr, det_ptr, det_nilslice, det_nilFunc, det_slice, det_agg, det_tuple, scalar_bool, scalar_int, scalar_str, scalar_nilptr, scalar_ptr, scalar_nilslice, scalar_nilFunc, scalar_slice, scalar_agg, scalar_tuple, dets_nil, dets_cons, scalars_nil, scalars_cons, or_t, or_f, and_t, and_f, not_t, not_f, toRo_cells, toRo_ro, toRo_iter, toRo_dead, cellsK_nil, cellsK_slice, cellsK_str, Bool.or_true, Bool.true_or, Bool.or_false, Bool.false_or, ge_iff_le, gt_iff_lt, ↓obind_some, ↓obind_none, ↓sel_true, ↓sel_false, ↓outK_val, ↓outK_skip, ↓outK_call, ↓quietK_val, ↓quietK_call, ↓condK_bool, ↓normK_normal, ↓normK_exit, ↓normK_ret, ↓blockK_normal, ↓blockK_ret, ↓blockK_exit, ↓endK_normal, ↓endK_ret, ↓ptrK_ptr, ↓strK_str, ↓intK_int, ↓aggK_agg, ↓tupK_tuple, ↓funK_func, ↓cellsK_some, ↓iterK_some, ↓sliceK_slice, ↓sliceK_nil, ↓i64K_int, e, e1, pValid, hok]
    simp [obind_some, resAll, ARes.get, tup, renorm, reach, mask, AV.idss, AV.ids, roots, AObj.ids, idss_ints, idss_strs, keepOk, AV.rens, AV.ren, rho, idx, AObj.ren, rens_ints, rens_strs]
  | true =>
    have e : cntS s = (pts s).length := by simp [cntS, hok]
    have hok' : s.length ≤ 65535 ∧ rst s = [] := by simpa [okS] using hok
    obtain ⟨h1, h2, h3⟩ := pts_spec s
    rw [hok'.2, List.append_nil] at h3
    have hul := units_length _ h1
    have hlen := congrArg List.length h3
    have hl := fun fr hm => count_loop (aFn F TVal R (n0 + 1)) R s hok'.1 (pts s) 0 0 R fr h1 (by omega) (by simpa using h3) (by omega) (by omega) hm
    simp (maxSteps := 10000000) (disch := omega) only [aFn_run hT (show F 18 = some f18 from rfl), f18, aCode_skip, aCode_ret, aCode_exit, aCode_ops, aCode_quiet, aCode_seq, aCode_cond, aCode_block, aCode_loop, aOps_nil, aOps_cons, aQuiet_nil, aQuiet_cons, obind_some, obind_none, sel_true, sel_false, outK_val, outK_skip, outK_call, quietK_val, quietK_call, condK_bool, normK_normal, normK_exit, normK_ret, blockK_normal, blockK_ret, blockK_exit, endK_normal, endK_ret, callR_eq, ev_t, ev_c, put_some, put_none, wantK_t, wantK_f, row_eq, wantK_undef, wantedA_none, wantedA_some, ptrK_ptr, strK_str, intK_int, aggK_agg, tupK_tuple, funK_func, cellsK_some, iterK_some, rowO_cells, rowO_ro, aOp_mov, aOp_pick, aOp_new, aOp_box, aOp_build, aOp_buildSlice, aOp_load1, aOp_loadN, aOp_store, aOp_nilCheck, aOp_bin, aOp_not, aOp_conv, aOp_b2s, notStr_slice, notStr_nil, aOp_i2s, aOp_mkfunc, aOp_mkslice, aOp_substr, aOp_subslice, aOp_fieldAddr, aOp_field1, aOp_fieldN, aOp_indexAddr, aOp_indexStr, aOp_range, aOp_next, aOp_extract, aOp_call, aOp_lenS, aOp_len, lenK_slice, lenK_nil, aOp_append, sliceK_slice, sliceK_nil, i64K_int, aOp_min, aOp_max, aMin_int, aMax_int, bin_add, bin_sub, bin_mul, bin_quo, bin_rem, bin_eql, bin_neq, bin_lss, bin_leq, bin_gtr, bin_geq, bin_shl, bin_shr, bin_and, bin_or, bin_xor, bin_andNot, bin_sadd, bin_seql, bin_sneq, bin_slss, bin_beql, bin_bneq, bin_peql0, bin_pneq0, bin_peql1, bin_pneq1, bin_peql2, bin_pneq2, bin_agg_eql, bin_agg_neq, boundD_none, boundD_some, cells_bool, cells_int, cells_str, cells_agg, cells_ptr, cells_slice, cells_func, cells_nilptr, cells_nilslice, cells_nilFunc, AV.undef, List.length_cons, List.length_nil, Nat.reduceAdd, Nat.reduceSub, List.replicate_succ, List.replicate_zero, List.cons_append, List.nil_append, getD_0, set_0, getD_1, set_1, getD_2, set_2, getD_3, set_3, getD_4, set_4, getD_5, set_5, getD_6, set_6, getD_7, set_7, getD_8, set_8, getD_9, set_9, getD_10, set_10, getD_11, set_11, getD_12, set_12, getD_13, set_13, getD_14, set_14, getD_15, set_15, getD_16, set_16, List.map_cons, List.map_nil, Option.map_some, Option.map_none, true_or, or_true, false_or, or_false, reduceIte, reduceCtorEq, if_pos, if_neg, decide_eq_true, decide_eq_false, w64, wu64, ints_length, strs_length, ints_get, strs_get, List.getElem?_cons_zero, List.getElem?_cons_succ, splice_ints, splice, List.all_cons, List.all_nil, AV.one, and_true, true_and, and_false, false_and, Bool.and_true, Bool.true_and, Bool.and_false, Bool.false_and, Nat.zero_add, Nat.add_zero, Nat.mul_one, Bool.not_true, Bool.not_false, Bool.false_eq_true, beq_self_eq_true, still_mov, free_mov, still_pick, free_pick, still_build, free_build, still_load1, free_load1, still_loadN, free_loadN, still_nilCheck, free_nilCheck, still_bin, free_bin, still_not, free_not, still_conv, free_conv, still_b2s, free_b2s, still_i2s, free_i2s, still_mkfunc, free_mkfunc, still_substr, free_substr, still_subslice, free_subslice, still_fieldAddr, free_fieldAddr, still_field1, free_field1, still_fieldN, free_fieldN, still_indexAddr, free_indexAddr, still_indexStr, free_indexStr, still_extract, free_extract, still_call, free_call, still_lenS, free_lenS, still_len, free_len, still_min, free_min, still_max, free_max, det_bool, det_int, det_str, det_nilptr, det_ptr, det_nilslice, det_nilFunc, det_slice, det_agg, det_tuple, scalar_bool, scalar_int, scalar_str, scalar_nilptr, scalar_ptr, scalar_nilslice, scalar_nilFunc, scalar_slice, scalar_agg, scalar_tuple, dets_nil, dets_cons, scalars_nil, scalars_cons, or_t, or_f, and_t, and_f, not_t, not_f, toRo_cells, toRo_ro, toRo_iter, toRo_dead, cellsK_nil, cellsK_slice, cellsK_str, Bool.or_true, Bool.true_or, Bool.or_false, Bool.false_or, ge_iff_le, gt_iff_lt, ↓obind_some, ↓obind_none, ↓sel_true, ↓sel_false, ↓outK_val, ↓outK_skip, ↓outK_call, ↓quietK_val, ↓quietK_call, ↓condK_bool, ↓normK_normal, ↓normK_exit, ↓normK_ret, ↓blockK_normal, ↓blockK_ret, ↓blockK_exit, ↓endK_normal, ↓endK_ret, ↓ptrK_ptr, ↓strK_str, ↓intK_int, ↓aggK_agg, ↓tupK_tuple, ↓funK_func, ↓cellsK_some, ↓iterK_some, ↓sliceK_slice, ↓sliceK_nil, ↓i64K_int, e, e1, pValid, hok]
    rw [hl _ rfl]
    simp (maxSteps := 10000000) (disch := omega) only [f18_S0, aCode_skip, aCode_ret, aCode_exit, aCode_ops, aCode_quiet, aCode_seq, aCode_cond, aCode_block, aCode_loop, aOps_nil, aOps_cons, aQuiet_nil, aQuiet_cons, obind_some, obind_none, sel_true, sel_false, outK_val, outK_skip, outK_call, quietK_val, quietK_call, condK_bool, normK_normal, normK_exit, normK_ret, blockK_normal, blockK_ret, blockK_exit, endK_normal, endK_ret, callR_eq, ev_t, ev_c, put_some, put_none, wantK_t, wantK_f, row_eq, wantK_undef, wantedA_none, wantedA_some, ptrK_ptr, strK_str, intK_int, aggK_agg, tupK_tuple, funK_func, cellsK_some, iterK_some, rowO_cells, rowO_ro, aOp_mov, aOp_pick, aOp_new, aOp_box, aOp_build, aOp_buildSlice, aOp_load1, aOp_loadN, aOp_store, aOp_nilCheck, aOp_bin, aOp_not, aOp_conv, aOp_b2s, notStr_slice, notStr_nil, aOp_i2s, aOp_mkfunc, aOp_mkslice, aOp_substr, aOp_subslice, aOp_fieldAddr, aOp_field1, aOp_fieldN, aOp_indexAddr, aOp_indexStr, aOp_range, aOp_next, aOp_extract, aOp_call, aOp_lenS, aOp_len, lenK_slice, lenK_nil, aOp_append, sliceK_slice, sliceK_nil, i64K_int, aOp_min, aOp_max, aMin_int, aMax_int, bin_add, bin_sub, bin_mul, bin_quo, bin_rem, bin_eql, bin_neq, bin_lss, bin_leq, bin_gtr, bin_geq, bin_shl, bin_shr, bin_and, bin_or, bin_xor, bin_andNot, bin_sadd, bin_seql, bin_sneq, bin_slss, bin_beql, bin_bneq, bin_peql0, bin_pneq0, bin_peql1, bin_pneq1, bin_peql2, bin_pneq2, bin_agg_eql, bin_agg_neq, boundD_none, boundD_some, cells_bool, cells_int, cells_str, cells_agg, cells_ptr, cells_slice, cells_func, cells_nilptr, cells_nilslice, cells_nilFunc, AV.undef, List.length_cons, List.length_nil, Nat.reduceAdd, Nat.reduceSub, List.replicate_succ, List.replicate_zero, List.cons_append, List.nil_append, getD_0, set_0, getD_1, set_1, getD_2, set_2, getD_3, set_3, getD_4, set_4, getD_5, set_5, getD_6, set_6, getD_7, set_7, getD_8, set_8, getD_9, set_9, getD_10, set_10, getD_11, set_11, getD_12, set_12, getD_13, set_13, getD_14, set_14, getD_15, set_15, getD_16, set_16, List.map_cons, List.map_nil, Option.map_some, Option.map_none, true_or, or_true, false_or, or_false, reduceIte, reduceCtorEq, if_pos, if_neg, decide_eq_true, decide_eq_false, w64, wu64, ints_length, strs_length, ints_get, strs_get, List.getElem?_cons_zero, List.getElem?_cons_succ, splice_ints, splice, List.all_cons, List.all_nil, AV.one, and_true, true_and, and_false, false_and, Bool.and_true, Bool.true_and, Bool.and_false, Bool.false_and, Nat.zero_add, Nat.add_zero, Nat.mul_one, Bool.not_true, Bool.not_false, Bool.false_eq_true, beq_self_eq_true, still_mov, free_mov, still_pick, free_pick, still_build, free_build, still_load1, free_load1, still_loadN, free_loadN, still_nilCheck, free_nilCheck, still_bin, free_bin, still_not, free_not, still_conv, free_conv, still_b2s, free_b2s, still_i2s, free_i2s, still_mkfunc, free_mkfunc, still_substr, free_substr, still_subslice, free_subslice, still_fieldAddr, free_fieldAddr, still_field1, free_field1, still_fieldN, free_fieldN, still_indexAddr, free_indexAddr, still_indexStr, free_indexStr, still_extract, free_extract, still_call, free_call, still_lenS, free_lenS, still_len, free_len, still_min, free_min, still_max, free_max, det_bool, det_int, det_str, det_nilptr, det_ptr, det_nilslice, det_nilFunc, det_slice, det_agg, det_tuple, scalar_bool, scalar_int, scalar_str, scalar_nilptr, scalar_ptr, scalar_nilslice, scalar_nilFunc, scalar_slice, scalar_agg, scalar_tuple, dets_nil, dets_cons, scalars_nil, scalars_cons, or_t, or_f, and_t, and_f, not_t, not_f, toRo_cells, toRo_ro, toRo_iter, toRo_dead, cellsK_nil, cellsK_slice, cellsK_str, Bool.or_true, Bool.true_or, Bool.or_false, Bool.false_or, ge_iff_le, gt_iff_lt, ↓obind_some, ↓obind_none, ↓sel_true, ↓sel_false, ↓outK_val, ↓outK_skip, ↓outK_call, ↓quietK_val, ↓quietK_call, ↓condK_bool, ↓normK_normal, ↓normK_exit, ↓normK_ret, ↓blockK_normal, ↓blockK_ret, ↓blockK_exit, ↓endK_normal, ↓endK_ret, ↓ptrK_ptr, ↓strK_str, ↓intK_int, ↓aggK_agg, ↓tupK_tuple, ↓funK_func, ↓cellsK_some, ↓iterK_some, ↓sliceK_slice, ↓sliceK_nil, ↓i64K_int]
    simp [obind_some, resAll, ARes.get, tup, renorm, reach, mask, AV.idss, AV.ids, roots, AObj.ids, idss_ints, idss_strs, keepOk, AV.rens, AV.ren, rho, idx, AObj.ren, rens_ints, rens_strs]

def gCount : List AV → Option AV
  | [.str s] => if s.length ≤ 4611686018427387904 then some (.int .i64 (cntS s)) else none
  | _ => none
theorem gCount_eq (s : List UInt8) : gCount [.str s] = if s.length ≤ 4611686018427387904 then some (.int .i64 (cntS s)) else none := rfl
theorem pCount (s : List UInt8) (h : AHeap) (hs : s.length ≤ 4611686018427387904) : pureT gCount [.str s] h = some (.int .i64 (cntS s), h) := pureT_some _ _ _ _ (by rw [gCount_eq, if_pos hs])
theorem gCount_ok : ∀ args v, gCount args = some v → AV.scalars args = true ∧ v.scalar = true ∧ ∃ h0, SoundCall Try.prog 18 args [] v h0 := by
  intro args v h
  unfold gCount at h
  split at h
  · split at h
    · rename_i s hb
      cases h
      exact ⟨rfl, rfl, [], fn_ok (Checked.mixed Try.checked) F_ok TVal_ok (s.length + 1) 2 _ _ _ _ _ (count_run (s.length + 1) 0 s hb (by omega))⟩
    · cases h
  · cases h

theorem lives03_run : aFn F (fun _ => none) 20 9 16 [] [] = some (.bool true, []) := by kernel_rfl

def gLives03 : List AV → Option AV
  | [] => some (.bool true)
  | _ => none
theorem pLives03 (h : AHeap) : pureT gLives03 [] h = some (.bool true, h) := rfl
theorem gLives03_ok : ∀ args v, gLives03 args = some v → AV.scalars args = true ∧ v.scalar = true ∧ ∃ h0, SoundCall Try.prog 16 args [] v h0 := by
  intro args v h
  unfold gLives03 at h
  split at h
  · cases h
    exact ⟨rfl, rfl, [], fn_ok (Checked.mixed Try.checked) F_ok tOk_none 20 9 _ _ _ _ _ lives03_run⟩
  · cases h

def TCnt : FuncId → Option (List AV → AHeap → Option (AV × AHeap))
  | 19 => some (pureT gBad)
  | 17 => some (pureT gValid)
  | 18 => some (pureT gCount)
  | 16 => some (pureT gLives03)
  | _ => none
theorem TCnt_ok : TOk Try.prog TCnt := by
  intro f g h
  unfold TCnt at h
  split at h
  · cases h; exact pureT_ok gBad_ok
  · cases h; exact pureT_ok gValid_ok
  · cases h; exact pureT_ok gCount_ok
  · cases h; exact pureT_ok gLives03_ok
  · cases h


end Go.Proofs.Ytidlbhppbopjjaa.Ax
