/-
The law UstringHalves, run for any string and number.
-/
import Derived.Test.YtidlbhppbopjjaaUsH1
namespace Go.Proofs.Ytidlbhppbopjjaa.Ax
open Go.Ax
set_option linter.unusedVariables false
set_option linter.unusedSimpArgs false
set_option maxRecDepth 100000

theorem bytesR_length (l : List (Row [.int .u8])) : (bytesR l).length = l.length := by simp [bytesR]

theorem runesR_get : ∀ (us : List (List UInt8 × Nat)) (p k : Nat) (u : List UInt8 × Nat), us[k]? = some u → (runesR p us)[k]? = some (((p + (joined (us.take k)).length : Nat) : Int), ((u.2 : Nat) : Int), ())
  | [], p, k, u, h => by simp at h
  | v :: us, p, 0, u, h => by simp at h; subst h; simp [runesR, joined]
  | v :: us, p, k + 1, u, h => by
    simp only [runesR, List.getElem?_cons_succ, List.take_succ_cons, joined_cons, List.length_append] at h ⊢
    rw [runesR_get us _ k u h]
    congr 3; omega

theorem units_take {us : List (List UInt8 × Nat)} (h : Units us) (k : Nat) : Units (us.take k) ∧ Units (us.drop k) := ⟨fun p hp => h p (List.mem_of_mem_take hp), fun p hp => h p (List.mem_of_mem_drop hp)⟩

theorem whole_units {us : List (List UInt8 × Nat)} (h : Units us) (hl : (joined us).length ≤ 65535) : bad (joined us) = -1 ∧ pts (joined us) = us ∧ validS (joined us) = true ∧ countS (joined us) = us.length := by
  have h2 := pts_of us [] h (.inl rfl)
  rw [List.append_nil] at h2
  have hb := (bad_neg (joined us)).2 h2.2
  refine ⟨hb, h2.1, ?_, ?_⟩
  · unfold validS; rw [decide_eq_true hl, decide_eq_true hb]; rfl
  · unfold countS; rw [if_pos ⟨hl, hb⟩, h2.1]

theorem valid65 : validS [65] = true := by decide
theorem validC0 : validS [192, 128] = false := by decide

theorem UstringHalves_run {β : Type} (s : List UInt8) (at' : Int) (kk : KV → KHeap → Option β) :
    kBody (kFn F TUs RR DD) (fun _ => none) RR f5 [.str s, .int .i64 at'] [] kk = kk (.bool true) [] := by
  rw [halves_tree]
  simp only [hid_eq, valid65, validC0, badH_eq]
  rw [selK_pos (by rw [cd_iff]; decide), selK_true]
  refine optK_posx rfl (optK_posx rfl (selK_posx rfl (selK_posx rfl (selK_posx (by rw [cd_iff]; decide) ?_))))
  rw [selK_false]
  refine selK_posx rfl ?_
  by_cases hs : (1000 : Int) < ((s.length : Nat) : Int)
  · rw [selK_pos (by rw [ltI_iff]; exact hs)]
  rw [selK_neg (by rw [ltI_iff0]; omega), selK_pos (by rw [cd_iff]; omega)]
  obtain ⟨hu, hst, hj⟩ := pts_spec s
  have hbr := bad_range s
  have hbn := bad_neg s
  have hQ := runesQ_length s
  have hjl : s.length = (joined (pts s)).length + (rst s).length := by rw [← List.length_append]; exact congrArg List.length hj
  have hbd : rst s ≠ [] → bad s = ((joined (pts s)).length : Int) := fun h => by unfold bad; rw [if_neg h]
  have hvs : validS s = decide (rst s = []) := by
    unfold validS
    rw [decide_eq_true (show s.length ≤ 65535 by omega), Bool.true_and]
    exact decide_eq_decide.2 hbn
  by_cases h0 : (runesQ s).length = 0
  · rw [selK_pos (by rw [h0]; rfl)]
    have hp : pts s = [] := List.length_eq_zero_iff.1 (by rw [← hQ]; exact h0)
    have hz : (joined (pts s)).length = 0 := by rw [hp]; rfl
    rw [selK_pos (by rw [cd_iff]; omega), selK_pos (by rw [cd_iff]; omega)]
    by_cases hr : rst s = []
    · have hb := hbn.2 hr
      have hl0 : s.length = 0 := by rw [hjl, hz, hr]; rfl
      rw [hvs, decide_eq_true hr, selK_true, selK_pos (by rw [ltI_iff]; omega), selK_neg (by rw [leI_iff0]; omega), selK_neg (by rw [leI_iff0]; omega), selK_pos (by rw [eqI_iff]; omega)]
    · have hb := hbd hr
      have hl0 : (rst s).length ≠ 0 := fun e => hr (List.length_eq_zero_iff.1 e)
      rw [hvs, decide_eq_false hr, selK_false, selK_neg (by rw [ltI_iff0]; omega), selK_neg (by rw [leI_iff0]; omega), selK_pos (by rw [leI_iff]; omega), selK_pos (by rw [eqI_iff]; omega)]
  · rw [selK_neg (by rw [← Bool.not_eq_true]; intro h; exact h0 (Nat.eq_of_beq_eq_true h))]
    obtain ⟨kN, hk, hkn⟩ : ∃ kN : Nat, pickI at' (((runesQ s).length : Nat) : Int) = (kN : Int) ∧ kN < (runesQ s).length := by
      have := pickI_range at' (((runesQ s).length : Nat) : Int) (by omega)
      exact ⟨(pickI at' (((runesQ s).length : Nat) : Int)).toNat, by omega, by omega⟩
    have hpl : (pts s).length ≤ (joined (pts s)).length := pts_len _ hu
    have hw1 : wr .i64 ((kN : Int) + 1) = ((kN + 1 : Nat) : Int) := by rw [w64 _ (by omega) (by omega)]; omega
    have hw2 : wr .i64 ((((runesQ s).length : Nat) : Int) - (kN : Int)) = (((pts s).length - kN : Nat) : Int) := by rw [w64 _ (by omega) (by omega)]; omega
    obtain ⟨u, hpu⟩ : ∃ u, (pts s)[kN]? = some u := ⟨_, List.getElem?_eq_getElem (by omega)⟩
    have hUn : Un u.1 u.2 := hu u (List.mem_of_getElem? hpu)
    have e0 : (pts s).drop kN = u :: (pts s).drop (kN + 1) := by
      obtain ⟨h1, h2⟩ := List.getElem?_eq_some_iff.1 hpu
      rw [List.drop_eq_getElem_cons h1, h2]
    have hsp : joined (pts s) = joined ((pts s).take kN) ++ joined ((pts s).drop kN) := by rw [← joined_append, List.take_append_drop]
    have hsp2 : joined ((pts s).drop kN) = u.1 ++ joined ((pts s).drop (kN + 1)) := by rw [e0, joined_cons]
    obtain ⟨hut, hud⟩ := units_take hu kN
    have hlA : (joined (pts s)).length = (joined ((pts s).take kN)).length + (u.1.length + (joined ((pts s).drop (kN + 1))).length) := by rw [hsp, hsp2, List.length_append, List.length_append]
    have hrow : (runesQ s)[kN]? = some ((((joined ((pts s).take kN)).length : Nat) : Int), ((u.2 : Nat) : Int), ()) := by
      have := runesR_get (pts s) 0 kN u hpu
      rw [Nat.zero_add] at this
      exact this
    generalize hAe : (joined ((pts s).take kN)).length = A at *
    have hwa := whole_units hut (by omega)
    have hwb := whole_units hud (by rw [hsp2, List.length_append]; omega)
    have hdropA : s.drop A = joined ((pts s).drop kN) ++ rst s := by
      rw [← hAe]
      refine (congrArg (List.drop _) (hj.trans (by rw [hsp, List.append_assoc]))).trans (List.drop_left' rfl)
    have ha : subS s 0 A = joined ((pts s).take kN) := by
      unfold subS
      rw [List.drop_zero, Nat.sub_zero, ← hAe]
      exact (congrArg (List.take _) (hj.trans (by rw [hsp, List.append_assoc]))).trans (List.take_left' rfl)
    have hb : subS s A (joined (pts s)).length = joined ((pts s).drop kN) := by
      unfold subS
      rw [hdropA]
      exact List.take_left' (by rw [hsp2, List.length_append]; omega)
    have hall : subS s A s.length = joined ((pts s).drop kN) ++ rst s := by
      unfold subS
      rw [hdropA]
      exact List.take_of_length_le (by rw [List.length_append, hsp2, List.length_append]; omega)
    have hu1 : subS s A (A + u.1.length) = u.1 := by
      unfold subS
      rw [hdropA, hsp2, List.append_assoc]
      exact List.take_left' (by omega)
    have henc : encU ((u.2 : Nat) : Int) = u.1 := hUn.2.2.2.1
    have hnext : ∀ v, (pts s)[kN + 1]? = some v → (runesQ s)[kN + 1]? = some (((A + u.1.length : Nat) : Int), ((v.2 : Nat) : Int), ()) := fun v hv => by
      have := runesR_get (pts s) 0 (kN + 1) v hv
      rw [Nat.zero_add] at this
      have e : (joined ((pts s).take (kN + 1))).length = A + u.1.length := by
        rw [List.take_add_one, hpu, joined_append, List.length_append, hAe]
        simp [joined]
      rw [e] at this
      exact this
    have hlast : kN + 1 = (pts s).length → (joined (pts s)).length = A + u.1.length := fun e => by
      rw [hlA, List.drop_of_length_le (by omega)]; simp [joined]
    have hvall : validS (subS s A s.length) = decide (rst s = []) := by
      rw [hall]
      unfold validS
      have hlen : (joined ((pts s).drop kN) ++ rst s).length ≤ 65535 := by rw [List.length_append, hsp2, List.length_append]; omega
      rw [decide_eq_true hlen, Bool.true_and]
      refine decide_eq_decide.2 ?_
      rw [bad_neg, (pts_of _ _ hud hst).2]
    simp only [hk, hw1, hw2, Int.toNat_natCast, Nat.zero_add]
    have hcA : (subS s 0 A).length ≤ 1000 := by rw [ha, hAe]; omega
    have hcB : (subS s A (joined (pts s)).length).length ≤ 1000 := by rw [hb, hsp2, List.length_append]; omega
    have hcC : (subS s A s.length).length ≤ 1000 := by rw [hall, hsp2, List.length_append, List.length_append]; omega
    have hvA : validS (subS s 0 A) = true := by rw [ha]; exact hwa.2.2.1
    have hvB : validS (subS s A (joined (pts s)).length) = true := by rw [hb]; exact hwb.2.2.1
    have hnA : eqI ((countS (subS s 0 A) : Nat) : Int) (kN : Int) = true := by rw [eqI_iff, ha, hwa.2.2.2, List.length_take]; omega
    have hnB : eqI ((countS (subS s A (joined (pts s)).length) : Nat) : Int) (((pts s).length - kN : Nat) : Int) = true := by rw [eqI_iff, hb, hwb.2.2.2, List.length_drop]
    have heN : eqS (encU ((u.2 : Nat) : Int)) (subS s A (A + u.1.length)) = true := by rw [eqS_iff, henc, hu1]
    have hin : (inR (kN : Int) (runesQ s).length && true) = true := by rw [Bool.and_true, inR_iff]; omega
    have heL : kN + 1 = (pts s).length → eqS (encU ((u.2 : Nat) : Int)) (subS s A (joined (pts s)).length) = true := fun e => by rw [hlast e]; exact heN
    by_cases hr : rst s = []
    · have hbm := hbn.2 hr
      rw [decide_eq_true hr] at hvs hvall
      have hE : s.length = (joined (pts s)).length := by rw [hjl, hr]; rfl
      rw [hE] at hcC hvall ⊢
      rw [hbm, hvs]
      rw [selK_pos (by rw [cd_iff]; omega), selK_pos (by rw [cd_iff]; omega), selK_true, selK_pos (by rw [ltI_iff]; omega), selK_neg (by rw [leI_iff0]; omega), selK_neg (by rw [leI_iff0]; omega), selK_neg (by rw [eqI_iff0]; omega), selK_pos (by rw [cd_iff]; omega)]
      repeat first | (with_reducible refine optK_posx hrow ?_; simp only [Int.toNat_natCast]) | (with_reducible refine selK_posx ?_ ?_; · first | assumption | (simp only [hid_eq, ltI_iff, leI_iff, eqI_iff, eqS_iff, eqB_iff, inR_iff, inB_iff, cd_iff, fitS_iff, capOk_iff, nz_iff, blt_iff, not_t, Bool.and_eq_true, Bool.or_eq_true, decide_eq_true_eq, ltI_iff0, leI_iff0, eqI_iff0, eqS_iff0, eqB_iff0, inR_iff0, inB_iff0, cd_iff0, nz_iff0, blt_iff0, not_f, and_f, or_f, dec_f, List.length_append, List.length_nil, true_and, and_true, Bool.true_eq_false, Bool.false_eq_true, false_or, or_false, Int.toNat_natCast] <;> first | assumption | omega)) | (with_reducible refine selK_negx ?_ ?_; · first | assumption | (simp only [hid_eq, ltI_iff, leI_iff, eqI_iff, eqS_iff, eqB_iff, inR_iff, inB_iff, cd_iff, fitS_iff, capOk_iff, nz_iff, blt_iff, not_t, Bool.and_eq_true, Bool.or_eq_true, decide_eq_true_eq, ltI_iff0, leI_iff0, eqI_iff0, eqS_iff0, eqB_iff0, inR_iff0, inB_iff0, cd_iff0, nz_iff0, blt_iff0, not_f, and_f, or_f, dec_f, List.length_append, List.length_nil, true_and, and_true, Bool.true_eq_false, Bool.false_eq_true, false_or, or_false, Int.toNat_natCast] <;> first | assumption | omega)) | (with_reducible rfl)
      by_cases hlt : kN + 1 < (runesQ s).length
      · obtain ⟨v, hv⟩ : ∃ v, (pts s)[kN + 1]? = some v := ⟨_, List.getElem?_eq_getElem (by omega)⟩
        have hrow2 := hnext v hv
        have hv2 := (hu v (List.mem_of_getElem? hv)).1
        have hin2 : (inR ((kN + 1 : Nat) : Int) (runesQ s).length && true) = true := by rw [Bool.and_true, inR_iff]; omega
        repeat first | (with_reducible refine optK_posx hrow ?_; simp only [Int.toNat_natCast]) | (with_reducible refine optK_posx hrow2 ?_; simp only [Int.toNat_natCast]) | (with_reducible refine selK_posx ?_ ?_; · first | assumption | (simp only [hid_eq, ltI_iff, leI_iff, eqI_iff, eqS_iff, eqB_iff, inR_iff, inB_iff, cd_iff, fitS_iff, capOk_iff, nz_iff, blt_iff, not_t, Bool.and_eq_true, Bool.or_eq_true, decide_eq_true_eq, ltI_iff0, leI_iff0, eqI_iff0, eqS_iff0, eqB_iff0, inR_iff0, inB_iff0, cd_iff0, nz_iff0, blt_iff0, not_f, and_f, or_f, dec_f, List.length_append, List.length_nil, true_and, and_true, Bool.true_eq_false, Bool.false_eq_true, false_or, or_false, Int.toNat_natCast] <;> first | assumption | omega)) | (with_reducible refine selK_negx ?_ ?_; · first | assumption | (simp only [hid_eq, ltI_iff, leI_iff, eqI_iff, eqS_iff, eqB_iff, inR_iff, inB_iff, cd_iff, fitS_iff, capOk_iff, nz_iff, blt_iff, not_t, Bool.and_eq_true, Bool.or_eq_true, decide_eq_true_eq, ltI_iff0, leI_iff0, eqI_iff0, eqS_iff0, eqB_iff0, inR_iff0, inB_iff0, cd_iff0, nz_iff0, blt_iff0, not_f, and_f, or_f, dec_f, List.length_append, List.length_nil, true_and, and_true, Bool.true_eq_false, Bool.false_eq_true, false_or, or_false, Int.toNat_natCast] <;> first | assumption | omega)) | (with_reducible rfl)
      · have heL := heL (by omega)
        repeat first | (with_reducible refine optK_posx hrow ?_; simp only [Int.toNat_natCast]) | (with_reducible refine selK_posx ?_ ?_; · first | assumption | (simp only [hid_eq, ltI_iff, leI_iff, eqI_iff, eqS_iff, eqB_iff, inR_iff, inB_iff, cd_iff, fitS_iff, capOk_iff, nz_iff, blt_iff, not_t, Bool.and_eq_true, Bool.or_eq_true, decide_eq_true_eq, ltI_iff0, leI_iff0, eqI_iff0, eqS_iff0, eqB_iff0, inR_iff0, inB_iff0, cd_iff0, nz_iff0, blt_iff0, not_f, and_f, or_f, dec_f, List.length_append, List.length_nil, true_and, and_true, Bool.true_eq_false, Bool.false_eq_true, false_or, or_false, Int.toNat_natCast] <;> first | assumption | omega)) | (with_reducible refine selK_negx ?_ ?_; · first | assumption | (simp only [hid_eq, ltI_iff, leI_iff, eqI_iff, eqS_iff, eqB_iff, inR_iff, inB_iff, cd_iff, fitS_iff, capOk_iff, nz_iff, blt_iff, not_t, Bool.and_eq_true, Bool.or_eq_true, decide_eq_true_eq, ltI_iff0, leI_iff0, eqI_iff0, eqS_iff0, eqB_iff0, inR_iff0, inB_iff0, cd_iff0, nz_iff0, blt_iff0, not_f, and_f, or_f, dec_f, List.length_append, List.length_nil, true_and, and_true, Bool.true_eq_false, Bool.false_eq_true, false_or, or_false, Int.toNat_natCast] <;> first | assumption | omega)) | (with_reducible rfl)
    · have hbm := hbd hr
      rw [decide_eq_false hr] at hvs hvall
      have hl0 : (rst s).length ≠ 0 := fun e => hr (List.length_eq_zero_iff.1 e)
      rw [hbm, hvs]
      rw [selK_pos (by rw [cd_iff]; omega), selK_pos (by rw [cd_iff]; omega), selK_false, selK_neg (by rw [ltI_iff0]; omega), selK_neg (by rw [leI_iff0]; omega), selK_pos (by rw [leI_iff]; omega), selK_neg (by rw [eqI_iff0]; omega)]
      simp only [Int.toNat_natCast]
      repeat first | (with_reducible refine optK_posx hrow ?_; simp only [Int.toNat_natCast]) | (with_reducible refine selK_posx ?_ ?_; · first | assumption | (simp only [hid_eq, ltI_iff, leI_iff, eqI_iff, eqS_iff, eqB_iff, inR_iff, inB_iff, cd_iff, fitS_iff, capOk_iff, nz_iff, blt_iff, not_t, Bool.and_eq_true, Bool.or_eq_true, decide_eq_true_eq, ltI_iff0, leI_iff0, eqI_iff0, eqS_iff0, eqB_iff0, inR_iff0, inB_iff0, cd_iff0, nz_iff0, blt_iff0, not_f, and_f, or_f, dec_f, List.length_append, List.length_nil, true_and, and_true, Bool.true_eq_false, Bool.false_eq_true, false_or, or_false, Int.toNat_natCast] <;> first | assumption | omega)) | (with_reducible refine selK_negx ?_ ?_; · first | assumption | (simp only [hid_eq, ltI_iff, leI_iff, eqI_iff, eqS_iff, eqB_iff, inR_iff, inB_iff, cd_iff, fitS_iff, capOk_iff, nz_iff, blt_iff, not_t, Bool.and_eq_true, Bool.or_eq_true, decide_eq_true_eq, ltI_iff0, leI_iff0, eqI_iff0, eqS_iff0, eqB_iff0, inR_iff0, inB_iff0, cd_iff0, nz_iff0, blt_iff0, not_f, and_f, or_f, dec_f, List.length_append, List.length_nil, true_and, and_true, Bool.true_eq_false, Bool.false_eq_true, false_or, or_false, Int.toNat_natCast] <;> first | assumption | omega)) | (with_reducible rfl)
      by_cases hlt : kN + 1 < (runesQ s).length
      · obtain ⟨v, hv⟩ : ∃ v, (pts s)[kN + 1]? = some v := ⟨_, List.getElem?_eq_getElem (by omega)⟩
        have hrow2 := hnext v hv
        have hin2 : (inR ((kN + 1 : Nat) : Int) (runesQ s).length && true) = true := by rw [Bool.and_true, inR_iff]; omega
        repeat first | (with_reducible refine optK_posx hrow ?_; simp only [Int.toNat_natCast]) | (with_reducible refine optK_posx hrow2 ?_; simp only [Int.toNat_natCast]) | (with_reducible refine selK_posx ?_ ?_; · first | assumption | (simp only [hid_eq, ltI_iff, leI_iff, eqI_iff, eqS_iff, eqB_iff, inR_iff, inB_iff, cd_iff, fitS_iff, capOk_iff, nz_iff, blt_iff, not_t, Bool.and_eq_true, Bool.or_eq_true, decide_eq_true_eq, ltI_iff0, leI_iff0, eqI_iff0, eqS_iff0, eqB_iff0, inR_iff0, inB_iff0, cd_iff0, nz_iff0, blt_iff0, not_f, and_f, or_f, dec_f, List.length_append, List.length_nil, true_and, and_true, Bool.true_eq_false, Bool.false_eq_true, false_or, or_false, Int.toNat_natCast] <;> first | assumption | omega)) | (with_reducible refine selK_negx ?_ ?_; · first | assumption | (simp only [hid_eq, ltI_iff, leI_iff, eqI_iff, eqS_iff, eqB_iff, inR_iff, inB_iff, cd_iff, fitS_iff, capOk_iff, nz_iff, blt_iff, not_t, Bool.and_eq_true, Bool.or_eq_true, decide_eq_true_eq, ltI_iff0, leI_iff0, eqI_iff0, eqS_iff0, eqB_iff0, inR_iff0, inB_iff0, cd_iff0, nz_iff0, blt_iff0, not_f, and_f, or_f, dec_f, List.length_append, List.length_nil, true_and, and_true, Bool.true_eq_false, Bool.false_eq_true, false_or, or_false, Int.toNat_natCast] <;> first | assumption | omega)) | (with_reducible rfl)
      · have heL := heL (by omega)
        repeat first | (with_reducible refine optK_posx hrow ?_; simp only [Int.toNat_natCast]) | (with_reducible refine selK_posx ?_ ?_; · first | assumption | (simp only [hid_eq, ltI_iff, leI_iff, eqI_iff, eqS_iff, eqB_iff, inR_iff, inB_iff, cd_iff, fitS_iff, capOk_iff, nz_iff, blt_iff, not_t, Bool.and_eq_true, Bool.or_eq_true, decide_eq_true_eq, ltI_iff0, leI_iff0, eqI_iff0, eqS_iff0, eqB_iff0, inR_iff0, inB_iff0, cd_iff0, nz_iff0, blt_iff0, not_f, and_f, or_f, dec_f, List.length_append, List.length_nil, true_and, and_true, Bool.true_eq_false, Bool.false_eq_true, false_or, or_false, Int.toNat_natCast] <;> first | assumption | omega)) | (with_reducible refine selK_negx ?_ ?_; · first | assumption | (simp only [hid_eq, ltI_iff, leI_iff, eqI_iff, eqS_iff, eqB_iff, inR_iff, inB_iff, cd_iff, fitS_iff, capOk_iff, nz_iff, blt_iff, not_t, Bool.and_eq_true, Bool.or_eq_true, decide_eq_true_eq, ltI_iff0, leI_iff0, eqI_iff0, eqS_iff0, eqB_iff0, inR_iff0, inB_iff0, cd_iff0, nz_iff0, blt_iff0, not_f, and_f, or_f, dec_f, List.length_append, List.length_nil, true_and, and_true, Bool.true_eq_false, Bool.false_eq_true, false_or, or_false, Int.toNat_natCast] <;> first | assumption | omega)) | (with_reducible rfl)

theorem UstringHalves_walk (a0 : ByteArray) (w0 : a0.size ≤ 140737488351232) (a1 : Int) (w1 : (Lit.int .i64 a1).wf = true) (W : World) :
    Calls Try.prog 5 #[.string a0, .int .i64 a1] W fun e W' => e = .returned (.bool true) ∧ Go.RowKit.Below W.heap.size W W' := by
  exact walk_run (Checked.mixed Try.checked) F_ok TUs_ok (fn := f5) rfl rfl (L := fun _ => none) (h := []) (args := [.str a0.data.toList, .int .i64 a1]) LoopsOk.none (UstringHalves_run a0.data.toList a1 _) (ι := [])
    (.cons (by simp [erv, VRel]) (.cons (by simp [erv, VRel]) .nil)) (HRel.nil W) (fun _ => Own.nil)

end Go.Proofs.Ytidlbhppbopjjaa.Ax
