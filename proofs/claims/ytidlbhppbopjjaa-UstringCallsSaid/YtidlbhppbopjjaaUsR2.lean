/-
Chapter 3: what the law's loop over Runes comes to.
-/
import Derived.Test.YtidlbhppbopjjaaUsR1
namespace Go.Proofs.Ytidlbhppbopjjaa.Ax
open Go.Ax
set_option linter.unusedVariables false
set_option linter.unusedSimpArgs false
set_option maxRecDepth 100000

theorem runesR_length : ∀ (us : List (List UInt8 × Nat)) (p : Nat), (runesR p us).length = us.length
  | [], p => rfl
  | u :: us, p => by simp [runesR, runesR_length us]
theorem runesQ_length (s : List UInt8) : (runesQ s).length = (pts s).length := runesR_length _ _

/-- What is gone through: a string up to its first invalid place. -/
def goodS (s : List UInt8) : List UInt8 := joined (pts s)
theorem goodS_of (s : List UInt8) : subS s 0 (if bad s < 0 then s.length else (bad s).toNat) = goodS s := by
  obtain ⟨hu, hst, hj⟩ := pts_spec s
  unfold subS goodS
  rw [List.drop_zero, Nat.sub_zero]
  by_cases hb : bad s < 0
  · have hr : rst s = [] := (bad_neg s).1 (by have := (bad_range s).1; omega)
    rw [if_pos hb, List.take_of_length_le (Nat.le_refl _)]
    rw [hr, List.append_nil] at hj
    exact hj
  · rw [if_neg hb]
    have e : bad s = ((joined (pts s)).length : Int) := by
      unfold bad
      split
      · rename_i h0; exact absurd ((bad_neg s).2 h0) (by omega)
      · rfl
    rw [e, Int.toNat_natCast]
    exact (congrArg (List.take _) hj).trans (List.take_left' rfl)

section
variable {β : Type}

abbrev runesHd (s : List UInt8) (out : KV) (st : LSt) (t : List UInt8) (p : Nat) : KHeap := [.cells [.str s], .cells [.nilslice], .cells [.bool false], .cells [.str s], .cells [out], .loop st, .iter t p]

theorem runes_step (t : List UInt8) (u : List UInt8 × Nat) (us ds : List (List UInt8 × Nat)) (hu : Units (ds ++ u :: us)) (ht : t = joined (ds ++ u :: us)) :
    (joined ds).length < t.length ∧ decC t (joined ds).length = (u.2 : Int) ∧ (joined ds).length + decW t (joined ds).length = (joined (ds ++ [u])).length := by
  have h1 : Un u.1 u.2 := hu u (by simp)
  have hd : t.drop (joined ds).length = u.1 ++ joined us := by
    rw [ht, joined_append, joined_cons]
    exact List.drop_left' rfl
  obtain ⟨hdec, _⟩ := h1.2.2.1 (joined us)
  have h0 : u.1.length ≠ 0 := fun e => h1.1 (List.length_eq_zero_iff.1 e)
  have hl : t.length = (joined ds).length + (u.1.length + (joined us).length) := by rw [ht, joined_append, joined_cons, List.length_append, List.length_append]
  refine ⟨by omega, by rw [decC_dec, hd, hdec], ?_⟩
  rw [decW_dec, hd, hdec, joined_append, joined_cons, joined_nil]; simp

theorem runes_rounds1 (s t : List UInt8) (hs : s.length ≤ 1000000) (k : KCont β) : ∀ (us ds : List (List UInt8 × Nat)) (R : List (Row RK)) (m : Nat), Units (ds ++ us) → t = joined (ds ++ us) → R.length = ds.length → (ds ++ us).length ≤ s.length → us.length < m →
    runes_bodyK m (f60_S0 (.yld 5) (.ptr 6 0)) (runesHd s (.rslice 7 0 R.length 2) .ready t (joined ds).length ++ [.recs false RK R]) k =
    k (.exit 0) f60_E0 (runesHd s (.rslice 7 0 (R ++ runesR (joined ds).length us).length 2) .ready t t.length ++ [.recs false RK (R ++ runesR (joined ds).length us)])
  | [], ds, R, m, hu, ht, hR, hl, hm => by
    obtain ⟨m, rfl⟩ : ∃ q, m = q + 1 := ⟨m - 1, by omega⟩
    rw [List.append_nil] at ht
    refine (runes_body1 m s t _ _ R k).trans ?_
    rw [← ht, selK_neg (by rw [blt_iff0]; exact Nat.le_refl _)]
    simp [runesR]
  | u :: us, ds, R, m, hu, ht, hR, hl, hm => by
    obtain ⟨m, rfl⟩ : ∃ q, m = q + 1 := ⟨m - 1, by simp at hm; omega⟩
    obtain ⟨h1, h2, h3⟩ := runes_step t u us ds hu ht
    have hll : ds.length + (us.length + 1) ≤ s.length := by simpa using hl
    refine (runes_body1 m s t _ _ R k).trans ?_
    rw [selK_pos (by rw [blt_iff]; exact h1), selK_neg (by rw [ltI_iff0]; omega), selK_pos (by simp only [Bool.true_and, Bool.and_true, Bool.and_eq_true, decide_eq_true_eq, capOk_iff]; omega), h2, h3, List.drop_zero, List.take_of_length_le (Nat.le_refl _)]
    have ih := runes_rounds1 s t hs k us (ds ++ [u]) (R ++ [(((joined ds).length : Int), (u.2 : Int), ())]) m (by simpa using hu) (by simpa using ht) (by simp [hR]) (by simpa using hl) (by simp at hm; omega)
    have e : runesR (joined ds).length (u :: us) = (((joined ds).length : Int), (u.2 : Int), ()) :: runesR (joined (ds ++ [u])).length us := by
      have : (joined (ds ++ [u])).length = (joined ds).length + u.1.length := by rw [joined_append, joined_cons, joined_nil]; simp
      rw [this]; rfl
    rw [e]
    simp only [List.length_append, List.length_cons, List.length_nil, List.append_assoc, List.cons_append, List.nil_append] at ih ⊢
    exact ih

theorem runes_rounds0 (s t : List UInt8) (hs : s.length ≤ 1000000) (k : KCont β) (us : List (List UInt8 × Nat)) (m : Nat) (hu : Units us) (ht : t = joined us) (hl : us.length ≤ s.length) (hm : us.length < m) :
    runes_bodyK m (f60_S0 (.yld 5) (.ptr 6 0)) (runesHd s .nilslice .ready t 0) k =
    if us = [] then k (.exit 0) f60_E0 (runesHd s .nilslice .ready t t.length)
    else k (.exit 0) f60_E0 (runesHd s (.rslice 7 0 (runesR 0 us).length 2) .ready t t.length ++ [.recs false RK (runesR 0 us)]) := by
  obtain ⟨m, rfl⟩ : ∃ q, m = q + 1 := ⟨m - 1, by omega⟩
  refine (runes_body0 m s t 0 k).trans ?_
  cases us with
  | nil =>
    have h0 : t.length = 0 := by rw [ht]; rfl
    rw [selK_neg (by rw [blt_iff0]; omega), if_pos rfl, h0]
  | cons u us =>
    obtain ⟨h1, h2, h3⟩ := runes_step t u us [] hu ht
    simp only [joined_nil, List.length_nil] at h1 h2 h3
    rw [if_neg (by simp), selK_pos (by rw [blt_iff]; exact h1), selK_neg (by rw [ltI_iff0]; omega), h2, h3]
    have ih := runes_rounds1 s t hs k us [u] [((0 : Int), (u.2 : Int), ())] m hu ht rfl (by simpa using hl) (by simp at hm; omega)
    have e : runesR 0 (u :: us) = ((0 : Int), (u.2 : Int), ()) :: runesR (joined [u]).length us := by
      have : (joined [u]).length = u.1.length := by rw [joined_cons, joined_nil]; simp
      rw [this]
      simp [runesR]
    rw [e]
    exact ih

/-- What is told of the law's loop. -/
noncomputable def runesLoop : KLoop β := fun fr h k => match h with
  | [.cells [.str s], .cells [.nilslice], .cells [.bool false], .cells [.str s'], .cells [.nilslice]] => selK (cd (s' = s ∧ fr = runesFR ∧ s.length ≤ 1000000))
      (selK (Nat.beq (runesQ s).length 0) (k .normal runesFR [.cells [.str s], .cells [.nilslice], .cells [.bool false], .cells [.str s], .cells [.nilslice], .dead])
        (k .normal runesFR [.cells [.str s], .cells [.nilslice], .cells [.bool false], .cells [.str s], .cells [.rslice 6 0 (runesQ s).length 2], .dead, .recs false RK (runesQ s)])) none
  | _ => none
noncomputable def runesLT : Nat → Option (KLoop β)
  | 0 => some runesLoop
  | _ => none

theorem runes_loop_run (s : List UInt8) (hs : s.length ≤ 1000000) (kk : KV → KHeap → Option β) :
    kBodyY (kFn F TNm RR 98) (runesY RR) (fun _ => none) RR f60 [.yld 5, .ptr 3 0] [.cells [.str s], .cells [.nilslice], .cells [.bool false], .cells [.str s], .cells [.nilslice], .loop .ready] kk =
    if pts s = [] then kk (.tuple []) [.cells [.str s], .cells [.nilslice], .cells [.bool false], .cells [.str s], .cells [.nilslice], .loop .ready]
    else kk (.tuple []) [.cells [.str s], .cells [.nilslice], .cells [.bool false], .cells [.str s], .cells [.rslice 6 0 (runesQ s).length 2], .loop .ready, .recs false RK (runesQ s)] := by
  obtain ⟨hu, hst, hj⟩ := pts_spec s
  have hlen := pts_len (pts s) hu
  have hl2 : (joined (pts s)).length ≤ s.length := by
    have := congrArg List.length hj
    rw [List.length_append] at this
    omega
  have hbr := bad_range s
  have key : ∀ (fr : List KV) (t : List UInt8), t = goodS s → maskK f60_M0 fr = f60_S0 (.yld 5) (.ptr 6 0) →
      runesKL RR fr (runesHd s .nilslice .ready t 0) (fun e fr h => blkK 0 (endFn 6 f60.res kk) e fr h) =
      if pts s = [] then kk (.tuple []) [.cells [.str s], .cells [.nilslice], .cells [.bool false], .cells [.str s], .cells [.nilslice], .loop .ready]
      else kk (.tuple []) [.cells [.str s], .cells [.nilslice], .cells [.bool false], .cells [.str s], .cells [.rslice 6 0 (runesQ s).length 2], .loop .ready, .recs false RK (runesQ s)] := by
    intro fr t ht hfr
    unfold runesKL
    rw [kLoop_M, hfr]
    refine (runes_rounds0 s t hs (fun e fr h => blkK 0 (endFn 6 f60.res kk) e fr h) (pts s) RR hu ht (by omega) (by show _ < 18446744073709551616; omega)).trans ?_
    by_cases h0 : pts s = []
    · rw [if_pos h0, if_pos h0]; rfl
    · rw [if_neg h0, if_neg h0]; rfl
  rw [runes_iter, selK_pos (by rw [cd_iff]; omega)]
  by_cases hb : bad s < 0
  · rw [selK_pos (by rw [ltI_iff, badH_eq]; exact hb), selK_pos (by rw [inB_iff]; omega)]
    refine key _ _ ?_ rfl
    rw [Int.toNat_natCast, ← goodS_of, if_pos hb]
  · rw [selK_neg (by rw [ltI_iff0, badH_eq]; omega), selK_pos (by rw [inB_iff, badH_eq]; omega)]
    refine key _ _ ?_ rfl
    rw [badH_eq, ← goodS_of, if_neg hb]

theorem kRange_func (call : KCall β) (Y : KYs β) (f : FuncId) (fs cs : List KV) (hand : KHand β) (fr : List KV) (h : KHeap) (k : KCont β) :
    kRange call Y (.func (.func f) fs cs) hand fr h k = pushK h (.loop .ready) fun h1 => call (fun j => if Nat.beq j h.length then some hand else Y j) f (fs ++ [.yld h.length] ++ cs) h1 fun _ h' => match h'[h.length]? with
      | some (.loop .ready) => setHK h' h.length .dead fun h2 => k .normal fr h2
      | some (.loop (.done e)) => setHK h' h.length .dead fun h2 => k e fr h2
      | _ => none := rfl

theorem runesLoop_ok : LoopsOk (β := β) (aFn F (KT.tab TNm) RR DD) RR 0 runesLT f20.code := by
  refine LoopsOk.of fun id c' g hm hL => ⟨fun _ => none, LoopsOk.none, fun fr h k r e => ?_⟩
  have hloops : f20.code.loops = [(0, .rangeFunc 0 (.t 12) f20_P0 f20_X0 f20_Y0)] := rfl
  rw [hloops] at hm
  simp only [List.mem_singleton, Prod.mk.injEq] at hm
  obtain ⟨rfl, rfl⟩ := hm
  simp only [runesLT, Option.some.injEq] at hL
  subst hL
  unfold runesLoop at e
  split at e
  · rename_i s s'
    obtain ⟨hc, e2⟩ := selK_t e
    rw [cd_iff] at hc
    obtain ⟨rfl, rfl, hs⟩ := hc
    refine (?_ : _ = _).trans e2
    rw [kCode_range, selK_false]
    show kRange (kFn F TNm RR DD) noYK (.func (.func 60) [] [.ptr 3 0]) (runesHand RR) runesFR [.cells [.str s'], .cells [.nilslice], .cells [.bool false], .cells [.str s'], .cells [.nilslice]] k = _
    have h2 : ∀ K : KV → KHeap → Option β, kFn F TNm RR DD (runesY RR) 60 [.yld 5, .ptr 3 0] [.cells [.str s'], .cells [.nilslice], .cells [.bool false], .cells [.str s'], .cells [.nilslice], .loop .ready] K = kBodyY (kFn F TNm RR 98) (runesY RR) (fun _ => none) RR f60 [.yld 5, .ptr 3 0] [.cells [.str s'], .cells [.nilslice], .cells [.bool false], .cells [.str s'], .cells [.nilslice], .loop .ready] K := fun K => rfl
    rw [kRange_func, pushK_eq]
    refine (h2 _).trans ((runes_loop_run s' hs _).trans ?_)
    by_cases h0 : pts s' = []
    · rw [if_pos h0, selK_pos (by rw [runesQ_length, h0]; rfl)]; rfl
    · rw [if_neg h0, selK_neg (by
        rw [runesQ_length]
        cases hp : pts s' with
        | nil => exact absurd hp h0
        | cons => rfl)]
      rfl
  · cases e
end

end Go.Proofs.Ytidlbhppbopjjaa.Ax
