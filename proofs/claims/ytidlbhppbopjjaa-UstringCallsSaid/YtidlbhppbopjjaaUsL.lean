/-
Chapter 3: the loop of Bad.
-/
import Derived.Test.YtidlbhppbopjjaaUsB
import Derived.Test.YtidlbhppbopjjaaUst0
import Derived.Test.YtidlbhppbopjjaaChecked
namespace Go.Proofs.Ytidlbhppbopjjaa.Ax
open Go.Ax
set_option linter.unusedVariables false
set_option linter.unusedSimpArgs false
set_option maxRecDepth 100000

theorem decC_dec (s : List UInt8) (p : Nat) : decC s p = ((dec (s.drop p)).1 : Int) := by unfold decC; rw [decode_dec]
theorem decW_dec (s : List UInt8) (p : Nat) : decW s p = (dec (s.drop p)).2 := by unfold decW; rw [decode_dec]
theorem subS_all (s : List UInt8) (p : Nat) : subS s p s.length = s.drop p := by
  unfold subS
  exact List.take_of_length_le (by simp)

def badQ (s : List UInt8) : Nat := (bad s).toNat + decW s (bad s).toNat
noncomputable def badLoop {β : Type} : KLoop β := fun fr h k => f19_D0 fr none fun x0 x6 => match x0, x6, h with
  | .str s, .ptr 0 0, [.iter s' p] => selK (cd (s' = s ∧ p = 0 ∧ s.length ≤ 4611686018427387904)) (selK (eqI (bad s) (-1)) (k (.exit 0) (f19_E0 .junk) [.iter s s.length]) (k .ret (f19_E0 (.int .i64 (bad s))) [.iter s (badQ s)])) none
  | _, _, _ => none
noncomputable def badLT {β : Type} : Nat → Option (KLoop β)
  | 0 => some badLoop
  | _ => none

section
variable {β : Type}

theorem bad_rounds (s r : List UInt8) (hr : Stop r) (k : KCont β) : ∀ (us ds : List (List UInt8 × Nat)) (m : Nat), Units (ds ++ us) → s = joined (ds ++ us) ++ r → us.length < m →
    bad_bodyK m (f19_S0 (.str s) (.ptr 0 0)) [.iter s (joined ds).length] k =
    selK (eqI (bad s) (-1)) (k (.exit 0) (f19_E0 .junk) [.iter s s.length]) (k .ret (f19_E0 (.int .i64 (bad s))) [.iter s (badQ s)])
  | [], ds, m, hu, hs, hm => by
    obtain ⟨m, rfl⟩ : ∃ q, m = q + 1 := ⟨m - 1, by omega⟩
    rw [List.append_nil] at hu hs
    obtain ⟨hp, hrs⟩ := pts_of ds r hu hr
    rw [← hs] at hp hrs
    have hd : s.drop (joined ds).length = r := by rw [hs]; exact List.drop_left' rfl
    rw [bad_body, decC_dec, Int.toNat_natCast, subS_all, hd]
    by_cases hne : r = []
    · have hr := hne
      have hl : s.length = (joined ds).length := by rw [hs, hr]; simp
      have hb : bad s = -1 := (bad_neg s).2 (by rw [hrs, hr])
      rw [hb, ← hl]
      rw [selK_neg (by rw [blt_iff0]; exact Nat.le_refl _)]
      rfl
    · have hr := hr.resolve_left hne
      have hlt : (joined ds).length < s.length := by
        rw [hs, List.length_append]
        have := List.length_pos_iff.2 hne
        omega
      have hb : bad s = ((joined ds).length : Int) := by unfold bad; rw [hrs, if_neg hne, hp]
      have hq : badQ s = (joined ds).length + decW s (joined ds).length := by unfold badQ; rw [hb, Int.toNat_natCast]
      rw [selK_neg (c := eqI (bad s) (-1)) (by rw [eqI_iff0, hb]; omega), hq, hb, selK_pos (by rw [blt_iff]; exact hlt)]
      unfold good at hr
      simp only [Bool.not_eq_false', Bool.or_eq_true, Bool.and_eq_true, beq_iff_eq, Bool.not_eq_true'] at hr
      by_cases h0 : (dec r).1 = 0
      · rw [selK_pos (by rw [eqI_iff, h0]; rfl)]
      · obtain ⟨h1, hw⟩ := hr.resolve_left h0
        rw [selK_neg (by rw [eqI_iff0]; omega), selK_pos (by rw [eqI_iff, h1]; rfl), selK_pos (by rw [inB_iff]; omega)]
        unfold whole at hw
        by_cases h3 : 3 ≤ r.length
        · rw [selK_pos (by rw [leI_iff]; omega), selK_pos (by rw [inB_iff]; omega)]
          simp only [h3, decide_true, Bool.true_and, beq_eq_false_iff_ne, ne_eq] at hw
          rw [selK_neg (by rw [eqS_iff0]; exact hw)]
        · rw [selK_neg (by rw [leI_iff0]; omega)]
  | u :: us, ds, m, hu, hs, hm => by
    obtain ⟨m, rfl⟩ : ∃ q, m = q + 1 := ⟨m - 1, by simp at hm; omega⟩
    have h1 : Un u.1 u.2 := hu u (by simp)
    have hd : s.drop (joined ds).length = u.1 ++ (joined us ++ r) := by
      rw [hs, joined_append, joined_cons]
      simp only [List.append_assoc]
      exact List.drop_left' rfl
    obtain ⟨hdec, hg⟩ := h1.2.2.1 (joined us ++ r)
    have h0 : u.1.length ≠ 0 := fun e => h1.1 (List.length_eq_zero_iff.1 e)
    have hl : s.length = (joined ds).length + (u.1.length + (joined us ++ r).length) := by
      have := congrArg List.length hd
      simp only [List.length_drop, List.length_append] at this ⊢
      have h2 : (joined ds).length ≤ s.length := by rw [hs, joined_append]; simp
      omega
    have ih := bad_rounds s r hr k us (ds ++ [u]) m (by simpa using hu) (by simpa using hs) (by simp at hm; omega)
    have hj : (joined (ds ++ [u])).length = (joined ds).length + u.1.length := by rw [joined_append, joined_cons, joined_nil]; simp
    rw [hj] at ih
    have hsub : subS (u.1 ++ (joined us ++ r)) 0 3 = (u.1 ++ (joined us ++ r)).take 3 := rfl
    rw [bad_body, decC_dec, decW_dec, Int.toNat_natCast, subS_all, hd, hdec, hsub]
    simp only [good, hdec, Bool.not_eq_true', Bool.or_eq_false_iff, beq_eq_false_iff_ne, ne_eq] at hg
    rw [selK_pos (by rw [blt_iff]; omega), selK_neg (by rw [eqI_iff0]; have := hg.1; omega)]
    by_cases hc : u.2 = 65533
    · have hw : whole (u.1 ++ (joined us ++ r)) = true := by simpa [hc] using hg.2
      simp only [whole, Bool.and_eq_true, decide_eq_true_eq, beq_iff_eq] at hw
      rw [selK_pos (by rw [eqI_iff, hc]; rfl), selK_pos (by rw [inB_iff]; omega), selK_pos (by rw [leI_iff]; omega), selK_pos (by rw [inB_iff]; omega), selK_pos (by rw [eqS_iff]; exact hw.2)]
      exact ih
    · rw [selK_neg (by rw [eqI_iff0]; omega)]
      exact ih

theorem pts_len : ∀ us : List (List UInt8 × Nat), Units us → us.length ≤ (joined us).length
  | [], _ => Nat.zero_le _
  | u :: us, hu => by
    have h1 := (hu u List.mem_cons_self).1
    have h0 : u.1.length ≠ 0 := fun e => h1 (List.length_eq_zero_iff.1 e)
    have := pts_len us fun p hp => hu p (List.mem_cons_of_mem _ hp)
    rw [joined_cons, List.length_append, List.length_cons]; omega

theorem badLoop_ok : LoopsOk (β := β) (aFn F (KT.tab fun _ => none) RR DD) RR 0 badLT f19.code := by
  refine LoopsOk.one 0 f19_M0 f19_O0 f19_L0 rfl rfl ?_
  intro fr h k r e0
  obtain ⟨x0, x6, hm, e⟩ := f19_D0_inv e0
  split at e
  · rename_i s s' p
    obtain ⟨hc, e2⟩ := selK_t e
    rw [cd_iff] at hc
    obtain ⟨rfl, rfl, hsl⟩ := hc
    rw [kLoop_M, hm]
    refine (?_ : _ = _).trans e2
    obtain ⟨hu, hst, hj⟩ := pts_spec s'
    have hlen := pts_len (pts s') hu
    have hl2 : (joined (pts s')).length ≤ s'.length := by
      have := congrArg List.length hj
      rw [List.length_append] at this
      omega
    exact bad_rounds s' (rst s') hst k (pts s') [] RR (by simpa using hu) hj (by show _ < 18446744073709551616; omega)
  · cases e

end
end Go.Proofs.Ytidlbhppbopjjaa.Ax
