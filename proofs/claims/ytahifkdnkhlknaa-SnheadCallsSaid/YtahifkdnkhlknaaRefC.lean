/-
Chapter 21: contracts of the reference's functions.
-/
import Derived.Test.YtahifkdnkhlknaaRefT0
namespace Go.Proofs.Ytahifkdnkhlknaa.Ax
open Go.Ax
set_option linter.unusedVariables false
set_option linter.unusedSimpArgs false
set_option maxRecDepth 100000

section
variable {β : Type} (kk : KV → KHeap → Option β)
theorem rnum_run (s : List UInt8) (hs : s.length ≤ 8) : kBody (kFn F (fun _ => none) RR DD) rnumLT RR f28 [.str s] [] kk = kk (.int .u64 (getL s)) [] := by
  rw [rnum_tree, selK_pos (by rw [cd_iff]; exact ⟨hs, rfl, rfl⟩), getL_short s hs]

theorem rknown_run (k : Int) : kBody (kFn F (fun _ => none) RR DD) (fun _ => none) RR f19 [.int .i64 k] [] kk = kk (.bool (known k)) [] := by
  rw [rknown_tree]
  have e : ∀ b, (known k = b) → kk (.bool (known k)) [] = kk (.bool b) [] := fun b h => by rw [h]
  repeat' refine selK_elim (fun _ => ?_) (fun _ => ?_)
  all_goals
    simp only [hid_eq, ltI_iff, leI_iff, eqI_iff, eqS_iff, eqB_iff, inR_iff, inB_iff, cd_iff, fitS_iff, capOk_iff, nz_iff, blt_iff, not_t, Bool.and_eq_true, Bool.or_eq_true, decide_eq_true_eq, ltI_iff0, leI_iff0, eqI_iff0, eqS_iff0, eqB_iff0, inR_iff0, inB_iff0, cd_iff0, nz_iff0, blt_iff0, not_f, and_f, or_f, dec_f, List.length_append, List.length_nil, true_and, and_true, Bool.true_eq_false, Bool.false_eq_true, false_or, or_false] at *
    refine (e _ ?_).symm
    first
      | exact decide_eq_true (by omega)
      | exact decide_eq_false (by omega)

theorem rflag_run (f : Fl) : kBody (kFn F (fun _ => none) RR DD) (fun _ => none) RR f17 [.agg [.bool f.dup, .int .i64 f.qos, .bool f.ret, .bool f.will, .bool f.clean, .int .i64 f.typ]] [] kk = kk (.tuple [.int .i64 (flagN f), .int .i64 (flagE f)]) [] := by
  obtain ⟨d, q, r, w, c, t⟩ := f
  rw [rflag_tree]
  have hE : ∀ h : (q < -1 ∨ 2 < q ∨ t < 0 ∨ 2 < t), flagE ⟨d, q, r, w, c, t⟩ = 7 := fun h => if_pos h
  have hN : ∀ h : (q < -1 ∨ 2 < q ∨ t < 0 ∨ 2 < t), flagN ⟨d, q, r, w, c, t⟩ = 0 := fun h => by unfold flagN; rw [hE h]; rfl
  by_cases h1 : q < -1
  · rw [selK_pos (by rw [ltI_iff]; exact h1), hE (.inl h1), hN (.inl h1)]
  by_cases h2 : 2 < q
  · rw [selK_neg (by rw [← Bool.not_eq_true, ltI_iff]; exact h1), selK_pos (by rw [ltI_iff]; exact h2), hE (by omega), hN (by omega)]
  by_cases h3 : t < 0
  · rw [selK_neg (by rw [← Bool.not_eq_true, ltI_iff]; exact h1), selK_neg (by rw [← Bool.not_eq_true, ltI_iff]; exact h2), selK_pos (by rw [ltI_iff]; exact h3), hE (by omega), hN (by omega)]
  by_cases h4 : 2 < t
  · rw [selK_neg (by rw [← Bool.not_eq_true, ltI_iff]; exact h1), selK_neg (by rw [← Bool.not_eq_true, ltI_iff]; exact h2), selK_neg (by rw [← Bool.not_eq_true, ltI_iff]; exact h3), selK_pos (by rw [ltI_iff]; exact h4), hE (by omega), hN (by omega)]
  have hq : q = -1 ∨ q = 0 ∨ q = 1 ∨ q = 2 := by omega
  have ht : t = 0 ∨ t = 1 ∨ t = 2 := by omega
  clear hE hN h1 h2 h3 h4
  rcases hq with rfl | rfl | rfl | rfl <;> rcases ht with rfl | rfl | rfl <;> cases d <;> cases r <;> cases w <;> cases c <;> rfl

theorem rbits_byte : ∀ m : Nat, m < 256 → remI (m : Int) 4 = (m : Int) % 4 ∧ remI (wr .i64 (quoI (m : Int) 32)) 4 = (m : Int) / 32 % 4 ∧ leI 128 (m : Int) = decide (128 ≤ (m : Int)) ∧
    eqI (remI (wr .i64 (quoI (m : Int) 16)) 2) 1 = decide ((m : Int) / 16 % 2 = 1) ∧ eqI (remI (wr .i64 (quoI (m : Int) 8)) 2) 1 = decide ((m : Int) / 8 % 2 = 1) ∧ eqI (remI (wr .i64 (quoI (m : Int) 4)) 2) 1 = decide ((m : Int) / 4 % 2 = 1) := by decide +kernel

theorem rreadFlag_run (n : Int) : kBody (kFn F (fun _ => none) RR DD) (fun _ => none) RR f18 [.int .i64 n] [] kk =
    kk (.tuple [.agg [.bool (readFlag n).dup, .int .i64 (readFlag n).qos, .bool (readFlag n).ret, .bool (readFlag n).will, .bool (readFlag n).clean, .int .i64 (readFlag n).typ], .int .i64 (readFlagE n)]) [] := by
  rw [rreadFlag_tree]
  by_cases h1 : n < 0
  · have e : readFlagE n = 7 := if_pos (.inl h1)
    have e2 : readFlag n = .zero := by unfold readFlag; rw [e]; rfl
    rw [selK_pos (by rw [ltI_iff]; exact h1), e, e2]; rfl
  by_cases h2 : 255 < n
  · have e : readFlagE n = 7 := if_pos (.inr (.inl h2))
    have e2 : readFlag n = .zero := by unfold readFlag; rw [e]; rfl
    rw [selK_neg (by rw [← Bool.not_eq_true, ltI_iff]; exact h1), selK_pos (by rw [ltI_iff]; exact h2), e, e2]; rfl
  obtain ⟨m, rfl⟩ : ∃ m : Nat, n = m := ⟨n.toNat, by omega⟩
  obtain ⟨b1, b2, b3, b4, b5, b6⟩ := rbits_byte m (by omega)
  rw [selK_neg (by rw [← Bool.not_eq_true, ltI_iff]; exact h1), selK_neg (by rw [← Bool.not_eq_true, ltI_iff]; exact h2), b1, b2, b3, b4, b5, b6]
  by_cases h3 : (m : Int) % 4 = 3
  · have e : readFlagE m = 7 := if_pos (.inr (.inr h3))
    have e2 : readFlag m = .zero := by unfold readFlag; rw [e]; rfl
    rw [selK_pos (by rw [eqI_iff]; exact h3), e, e2]; rfl
  · have e : readFlagE m = 0 := if_neg (by omega)
    have e2 : readFlag m = ⟨decide (128 ≤ (m : Int)), if (m : Int) / 32 % 4 = 3 then -1 else (m : Int) / 32 % 4, decide ((m : Int) / 16 % 2 = 1), decide ((m : Int) / 8 % 2 = 1), decide ((m : Int) / 4 % 2 = 1), (m : Int) % 4⟩ := by unfold readFlag; rw [e]; rfl
    rw [selK_neg (by rw [← Bool.not_eq_true, eqI_iff]; exact h3), e, e2]
    by_cases h5 : (m : Int) / 32 % 4 = 3
    · rw [selK_pos (by rw [eqI_iff]; exact h5), if_pos h5]
      cases decide (128 ≤ (m : Int)) <;> cases decide ((m : Int) / 16 % 2 = 1) <;> cases decide ((m : Int) / 8 % 2 = 1) <;> cases decide ((m : Int) / 4 % 2 = 1) <;> rfl
    · rw [selK_neg (by rw [eqI_iff0]; exact h5), if_neg h5]
      cases decide (128 ≤ (m : Int)) <;> cases decide ((m : Int) / 16 % 2 = 1) <;> cases decide ((m : Int) / 8 % 2 = 1) <;> cases decide ((m : Int) / 4 % 2 = 1) <;> rfl

theorem ruses_run (k : Int) : kBody (kFn F (fun _ => none) RR DD) (fun _ => none) RR f20 [.int .i64 k] [] kk =
    kk (.agg [.bool (uses k).dup, .int .i64 (uses k).qos, .bool (uses k).ret, .bool (uses k).will, .bool (uses k).clean, .int .i64 (uses k).typ]) [] := by
  rw [ruses_tree]
  unfold uses
  by_cases h1 : k = 4
  · subst h1; rfl
  by_cases h2 : k = 7
  · subst h2; rfl
  by_cases h3 : k = 26
  · subst h3; rfl
  by_cases h4 : k = 12
  · subst h4; rfl
  by_cases h5 : k = 18
  · subst h5; rfl
  by_cases h6 : k = 20
  · subst h6; rfl
  by_cases h7 : k = 19
  · subst h7; rfl
  rw [if_neg h1, if_neg (by omega), if_neg h4, if_neg h5, if_neg h6, if_neg h7]
  repeat first | (refine selK_posx ?_ ?_; · first | assumption | with_reducible rfl | (simp only [hid_eq, ltI_iff, leI_iff, eqI_iff, eqS_iff, eqB_iff, inR_iff, inB_iff, cd_iff, fitS_iff, capOk_iff, nz_iff, blt_iff, not_t, Bool.and_eq_true, Bool.or_eq_true, decide_eq_true_eq, ltI_iff0, leI_iff0, eqI_iff0, eqS_iff0, eqB_iff0, inR_iff0, inB_iff0, cd_iff0, nz_iff0, blt_iff0, not_f, and_f, or_f, dec_f, List.length_append, List.length_nil, true_and, and_true, Bool.true_eq_false, Bool.false_eq_true, false_or, or_false] <;> first | assumption | omega)) | (refine selK_negx ?_ ?_; · first | assumption | with_reducible rfl | (simp only [hid_eq, ltI_iff, leI_iff, eqI_iff, eqS_iff, eqB_iff, inR_iff, inB_iff, cd_iff, fitS_iff, capOk_iff, nz_iff, blt_iff, not_t, Bool.and_eq_true, Bool.or_eq_true, decide_eq_true_eq, ltI_iff0, leI_iff0, eqI_iff0, eqS_iff0, eqB_iff0, inR_iff0, inB_iff0, cd_iff0, nz_iff0, blt_iff0, not_f, and_f, or_f, dec_f, List.length_append, List.length_nil, true_and, and_true, Bool.true_eq_false, Bool.false_eq_true, false_or, or_false] <;> first | assumption | omega))
  rfl
end

noncomputable def cRNum : List AV → Bool
  | [.str s] => cd (s.length ≤ 8)
  | _ => false
noncomputable def gRNum : List AV → Option AV
  | [.str s] => some (.int .u64 (hid getL s))
  | _ => none
noncomputable def kRNum : KT := KT.pure cRNum gRNum
theorem kRNum_ok : ContractOk Try.prog 28 kRNum.a := by
  refine KT.pure_run (Checked.mixed Try.checked) F_ok KTOk.none rfl (fn := f28) rfl (L := rnumLT) rnumLoop_ok fun args v hc hg => ?_
  unfold gRNum at hg
  split at hg
  · cases hg
    rename_i s
    have hc : s.length ≤ 8 := Eq.mp cd_iff hc
    exact ⟨rfl, rfl, _, (by first | exact rnum_run _ s hc | (simp only [hid_eq]; exact rnum_run _ s hc))⟩
  · cases hg
noncomputable def cRKnown : List AV → Bool
  | _ => true
noncomputable def gRKnown : List AV → Option AV
  | [.int .i64 k] => some (.bool (hid known k))
  | _ => none
noncomputable def kRKnown : KT := KT.pure cRKnown gRKnown
theorem kRKnown_ok : ContractOk Try.prog 19 kRKnown.a := by
  refine KT.pure_run (Checked.mixed Try.checked) F_ok KTOk.none rfl (fn := f19) rfl (L := (fun _ => none)) LoopsOk.none fun args v hc hg => ?_
  unfold gRKnown at hg
  split at hg
  · cases hg
    rename_i k
    exact ⟨rfl, rfl, _, (by first | exact rknown_run _ k | (simp only [hid_eq]; exact rknown_run _ k))⟩
  · cases hg
noncomputable def cRFlag : List AV → Bool
  | _ => true
noncomputable def gRFlag : List AV → Option AV
  | [.agg [.bool d, .int .i64 q, .bool r, .bool w, .bool c, .int .i64 t]] => some (.tuple [.int .i64 (hid flagN ⟨d, q, r, w, c, t⟩), .int .i64 (hid flagE ⟨d, q, r, w, c, t⟩)])
  | _ => none
noncomputable def kRFlag : KT := KT.pure cRFlag gRFlag
theorem kRFlag_ok : ContractOk Try.prog 17 kRFlag.a := by
  refine KT.pure_run (Checked.mixed Try.checked) F_ok KTOk.none rfl (fn := f17) rfl (L := (fun _ => none)) LoopsOk.none fun args v hc hg => ?_
  unfold gRFlag at hg
  split at hg
  · cases hg
    rename_i d q r w c t
    exact ⟨rfl, rfl, _, (by first | exact rflag_run _ ⟨d, q, r, w, c, t⟩ | (simp only [hid_eq]; exact rflag_run _ ⟨d, q, r, w, c, t⟩))⟩
  · cases hg
noncomputable def cRReadFlag : List AV → Bool
  | _ => true
noncomputable def gRReadFlag : List AV → Option AV
  | [.int .i64 n] => some (.tuple [.agg [.bool (hid readFlag n).dup, .int .i64 (hid readFlag n).qos, .bool (hid readFlag n).ret, .bool (hid readFlag n).will, .bool (hid readFlag n).clean, .int .i64 (hid readFlag n).typ], .int .i64 (hid readFlagE n)])
  | _ => none
noncomputable def kRReadFlag : KT := KT.pure cRReadFlag gRReadFlag
theorem kRReadFlag_ok : ContractOk Try.prog 18 kRReadFlag.a := by
  refine KT.pure_run (Checked.mixed Try.checked) F_ok KTOk.none rfl (fn := f18) rfl (L := (fun _ => none)) LoopsOk.none fun args v hc hg => ?_
  unfold gRReadFlag at hg
  split at hg
  · cases hg
    rename_i n
    exact ⟨rfl, rfl, _, (by first | exact rreadFlag_run _ n | (simp only [hid_eq]; exact rreadFlag_run _ n))⟩
  · cases hg
noncomputable def cRUses : List AV → Bool
  | _ => true
noncomputable def gRUses : List AV → Option AV
  | [.int .i64 k] => some (.agg [.bool (hid uses k).dup, .int .i64 (hid uses k).qos, .bool (hid uses k).ret, .bool (hid uses k).will, .bool (hid uses k).clean, .int .i64 (hid uses k).typ])
  | _ => none
noncomputable def kRUses : KT := KT.pure cRUses gRUses
theorem kRUses_ok : ContractOk Try.prog 20 kRUses.a := by
  refine KT.pure_run (Checked.mixed Try.checked) F_ok KTOk.none rfl (fn := f20) rfl (L := (fun _ => none)) LoopsOk.none fun args v hc hg => ?_
  unfold gRUses at hg
  split at hg
  · cases hg
    rename_i k
    exact ⟨rfl, rfl, _, (by first | exact ruses_run _ k | (simp only [hid_eq]; exact ruses_run _ k))⟩
  · cases hg
noncomputable def TRef : FuncId → Option KT
  | 28 => some kRNum
  | 19 => some kRKnown
  | 17 => some kRFlag
  | 20 => some kRUses
  | _ => none
theorem TRef_ok : KTOk Try.prog TRef := by
  intro f t h
  unfold TRef at h
  split at h
  · cases h; exact kRNum_ok
  · cases h; exact kRKnown_ok
  · cases h; exact kRFlag_ok
  · cases h; exact kRUses_ok
  · cases h

end Go.Proofs.Ytahifkdnkhlknaa.Ax
