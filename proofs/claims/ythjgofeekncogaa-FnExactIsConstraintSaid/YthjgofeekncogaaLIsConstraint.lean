/- Proved here: the plain law of FnExactIsConstraint: its plain function answers true for all arguments; conditions: the length that a slice can have. -/
import Derived.Test.YthjgofeekncogaaGIsConstraint
import Derived.Test.YthjgofeekncogaaRexC
import Derived.Test.YthjgofeekncogaaRows
set_option linter.all false
set_option linter.unusedSimpArgs false
set_option linter.unusedVariables false
set_option linter.unusedVariables false
set_option linter.unusedSimpArgs false
namespace Go.Proofs.Ythjgofeekncogaa.fnExactIsConstraint
open Go Go.Rex Go.Pf
abbrev Term := Int × (Int × (Int × (Int × Unit)))
theorem toTerm_id (a : Term) : laws_toTerm.f a = some a := rfl
theorem toTermS_l0 (xs : List Term) (hx : xs.length ≤ 140737488351232) : ∀ (k i : Nat) (ys : List Term), ys.length = xs.length → i ≤ xs.length → xs.length < k + i → (∀ j, j < i → ys[j]? = xs[j]?) →
    laws_toTermS.l0 k xs ys (i : Int) = some (xs, ())
  | 0, i, ys, hl, hi, hk, h => by omega
  | k + 1, i, ys, hl, hi, hk, h => by
    rw [laws_toTermS.l0]
    by_cases hlt : i < xs.length
    · rw [show decide ((i : Int) < (xs.length : Int)) = true from decide_eq_true (by omega), inb_nat, inb_nat, natOf_nat, hl, decide_eq_true hlt, wrap_succ (by omega)]
      simp only [cond_true, toTerm_id, Option.bind_some]
      exact toTermS_l0 xs hx k (i + 1) _ (by simp [hl]) hlt (by omega) (copyL_step _ hl hlt h)
    · rw [show decide ((i : Int) < (xs.length : Int)) = false from decide_eq_false (by omega)]
      simp only [cond_false]
      rw [copyL_end hl (by omega) h]
theorem toTermS_id (xs : List Term) (hx : xs.length ≤ 4294967296) : laws_toTermS.f xs = some xs := by
  unfold laws_toTermS.f
  rw [mkOK_nat hx, Int.toNat_natCast]
  have := toTermS_l0 xs (by omega) Go.Pf.FUEL 0 (List.replicate xs.length (Ty.dflt (.pr (.int .i64) (.pr (.int .i64) (.pr (.int .i64) (.pr (.int .i64) .nl)))))) (by simp) (by omega) (by unfold FUEL; omega) (by intro j h; omega)
  rw [cond_true]
  erw [this]
  rfl
theorem eqTerm_self (a : Term) : laws_eqTerm.f a a = some true := by
  simp [laws_eqTerm.f]
theorem eqTermS_l0 (xs : List Term) (hx : xs.length ≤ 140737488351232) : ∀ (k i : Nat), i ≤ xs.length → xs.length < k + i → laws_eqTermS.l0 k xs xs (i : Int) = some (.inr ())
  | 0, i, hi, hk => by omega
  | k + 1, i, hi, hk => by
    rw [laws_eqTermS.l0]
    by_cases hlt : i < xs.length
    · rw [show decide ((i : Int) < (xs.length : Int)) = true from decide_eq_true (by omega), inb_nat, natOf_nat, decide_eq_true hlt, wrap_succ (by omega)]
      simp only [cond_true, eqTerm_self, Option.bind_some, Bool.not_true, cond_false]
      exact eqTermS_l0 xs hx k (i + 1) hlt (by omega)
    · rw [show decide ((i : Int) < (xs.length : Int)) = false from decide_eq_false (by omega)]
      rfl
theorem eqTermS_self (xs : List Term) (hx : xs.length ≤ 140737488351232) : laws_eqTermS.f xs xs = some true := by
  unfold laws_eqTermS.f
  have := eqTermS_l0 xs hx Go.Pf.FUEL 0 (by omega) (by unfold FUEL; omega)
  rw [show ((xs.length : Int) != (xs.length : Int)) = false by simp, cond_false]
  erw [this]
  rfl
/-- The program's test of one term is the reference's. -/
theorem term_same (a : Term) : impl_isTerm.f a = spec_l24Term.f a := by
  obtain ⟨k, s, lo, hi, u⟩ := a
  unfold impl_isTerm.f spec_l24Term.f impl_isAtomKind.f impl_isSuit.f impl_hasSuit.f impl_mostOf.f impl_within.f spec_l24Range.f spec_l01In.f
  by_cases h0 : k = 0
  · subst h0
    simp only [inb, natOf, Bool.cond_eq_ite]
    simp
    repeat' split
    all_goals try simp only [Option.bind_some, decide_eq_true_eq, decide_eq_false_iff_not]
    all_goals repeat' split
    all_goals try simp only [Option.bind_some, decide_eq_true_eq, decide_eq_false_iff_not]
    all_goals repeat' split
    all_goals first | rfl | omega | (simp_all; done) | (simp only [Option.some.injEq]; rw [Bool.eq_iff_iff]; simp; omega)
  by_cases h1 : k = 1
  · subst h1
    simp only [inb, natOf, Bool.cond_eq_ite]
    simp
    repeat' split
    all_goals try simp only [Option.bind_some, decide_eq_true_eq, decide_eq_false_iff_not]
    all_goals repeat' split
    all_goals try simp only [Option.bind_some, decide_eq_true_eq, decide_eq_false_iff_not]
    all_goals repeat' split
    all_goals first | rfl | omega | (simp_all; done) | (simp only [Option.some.injEq]; rw [Bool.eq_iff_iff]; simp; omega)
  by_cases h2 : k = 2
  · subst h2
    simp only [inb, natOf, Bool.cond_eq_ite]
    simp
    repeat' split
    all_goals try simp only [Option.bind_some, decide_eq_true_eq, decide_eq_false_iff_not]
    all_goals repeat' split
    all_goals try simp only [Option.bind_some, decide_eq_true_eq, decide_eq_false_iff_not]
    all_goals repeat' split
    all_goals first | rfl | omega | (simp_all; done) | (simp only [Option.some.injEq]; rw [Bool.eq_iff_iff]; simp; omega)
  by_cases h3 : k = 3
  · subst h3
    simp only [inb, natOf, Bool.cond_eq_ite]
    simp
    repeat' split
    all_goals try simp only [Option.bind_some, decide_eq_true_eq, decide_eq_false_iff_not]
    all_goals repeat' split
    all_goals try simp only [Option.bind_some, decide_eq_true_eq, decide_eq_false_iff_not]
    all_goals repeat' split
    all_goals first | rfl | omega | (simp_all; done) | (simp only [Option.some.injEq]; rw [Bool.eq_iff_iff]; simp; omega)
  by_cases h4 : k = 4
  · subst h4
    simp only [inb, natOf, Bool.cond_eq_ite]
    simp
    repeat' split
    all_goals try simp only [Option.bind_some, decide_eq_true_eq, decide_eq_false_iff_not]
    all_goals repeat' split
    all_goals try simp only [Option.bind_some, decide_eq_true_eq, decide_eq_false_iff_not]
    all_goals repeat' split
    all_goals first | rfl | omega | (simp_all; done) | (simp only [Option.some.injEq]; rw [Bool.eq_iff_iff]; simp; omega)
  by_cases h5 : k = 5
  · subst h5
    simp only [inb, natOf, Bool.cond_eq_ite]
    simp
    repeat' split
    all_goals try simp only [Option.bind_some, decide_eq_true_eq, decide_eq_false_iff_not]
    all_goals repeat' split
    all_goals try simp only [Option.bind_some, decide_eq_true_eq, decide_eq_false_iff_not]
    all_goals repeat' split
    all_goals first | rfl | omega | (simp_all; done) | (simp only [Option.some.injEq]; rw [Bool.eq_iff_iff]; simp; omega)
  by_cases h6 : k = 6
  · subst h6
    simp only [inb, natOf, Bool.cond_eq_ite]
    simp
    repeat' split
    all_goals try simp only [Option.bind_some, decide_eq_true_eq, decide_eq_false_iff_not]
    all_goals repeat' split
    all_goals try simp only [Option.bind_some, decide_eq_true_eq, decide_eq_false_iff_not]
    all_goals repeat' split
    all_goals first | rfl | omega | (simp_all; done) | (simp only [Option.some.injEq]; rw [Bool.eq_iff_iff]; simp; omega)
  by_cases h7 : k = 7
  · subst h7
    simp only [inb, natOf, Bool.cond_eq_ite]
    simp
    repeat' split
    all_goals try simp only [Option.bind_some, decide_eq_true_eq, decide_eq_false_iff_not]
    all_goals repeat' split
    all_goals try simp only [Option.bind_some, decide_eq_true_eq, decide_eq_false_iff_not]
    all_goals repeat' split
    all_goals first | rfl | omega | (simp_all; done) | (simp only [Option.some.injEq]; rw [Bool.eq_iff_iff]; simp; omega)
  by_cases h8 : k = 8
  · subst h8
    simp only [inb, natOf, Bool.cond_eq_ite]
    simp
    repeat' split
    all_goals try simp only [Option.bind_some, decide_eq_true_eq, decide_eq_false_iff_not]
    all_goals repeat' split
    all_goals try simp only [Option.bind_some, decide_eq_true_eq, decide_eq_false_iff_not]
    all_goals repeat' split
    all_goals first | rfl | omega | (simp_all; done) | (simp only [Option.some.injEq]; rw [Bool.eq_iff_iff]; simp; omega)
  · simp only [Bool.cond_eq_ite, beq_iff_eq, h0, h1, h2, h3, h4, h5, h6, h7, h8, if_false]
    have e1 : ¬ (6 ≤ k ∧ k ≤ 8) := by omega
    have e2 : ¬ (0 ≤ k ∧ k ≤ 5) := by omega
    by_cases a6 : (6 : Int) ≤ k
    · have a8 : ¬ k ≤ 8 := by omega
      have a0 : (0 : Int) ≤ k := by omega
      have a5 : ¬ k ≤ 5 := by omega
      simp [a6, a8, a0, a5]
    · by_cases a0 : (0 : Int) ≤ k
      · have a5 : ¬ k ≤ 5 := by omega
        simp [a6, a0, a5]
      · simp [a6, a0]
theorem needs_same (a : Term) : impl_operands.f a.1 = spec_l24Needs.f a := rfl
theorem needs_some (a : Term) : ∃ n, spec_l24Needs.f a = some n := by
  unfold spec_l24Needs.f
  simp only [Bool.cond_eq_ite]
  repeat' split
  all_goals exact ⟨_, rfl⟩
theorem range_some (a : Term) (n : Int) : ∃ b, spec_l24Range.f a n = some b := by
  unfold spec_l24Range.f
  cases decide (a.2.2.1 ≥ 0) <;> cases decide (a.2.2.1 ≤ a.2.2.2.1) <;> exact ⟨_, rfl⟩
theorem in_some (a b c : Int) : ∃ v, spec_l01In.f a b c = some v := by
  unfold spec_l01In.f
  cases decide (a ≥ b) <;> exact ⟨_, rfl⟩
theorem some_cond {c : Bool} {x y : Option Bool} (hx : ∃ b, x = some b) (hy : ∃ b, y = some b) : ∃ b, (bif c then x else y) = some b := by
  cases c
  · exact hy
  · exact hx
theorem some_bind {x : Option Bool} {f : Bool → Option Bool} (hx : ∃ b, x = some b) (hf : ∀ y, ∃ b, f y = some b) : ∃ b, x.bind f = some b := by
  obtain ⟨y, rfl⟩ := hx
  exact hf y
theorem term_some (a : Term) : ∃ b, spec_l24Term.f a = some b := by
  unfold spec_l24Term.f
  repeat' first | exact ⟨_, rfl⟩ | exact range_some _ _ | exact in_some _ _ _ | refine some_cond ?_ ?_ | refine some_bind ?_ fun y => ?_
theorem loops_same (xs : List Term) (hx : xs.length ≤ 140737488351232) : ∀ (k i : Nat) (n : Int), i ≤ xs.length → xs.length < k + i →
    (spec_l24Valid.l0 k xs n (i : Int) = some (.inl (false, ())) ∧ impl_IsConstraint.l0 k xs n xs (xs.length : Int) (i : Int) = some (.inl (false, ()))) ∨
    ∃ m, spec_l24Valid.l0 k xs n (i : Int) = some (.inr (m, ())) ∧ impl_IsConstraint.l0 k xs n xs (xs.length : Int) (i : Int) = some (.inr (xs, m, ()))
  | 0, i, n, hi, hk => by omega
  | k + 1, i, n, hi, hk => by
    rw [spec_l24Valid.l0, impl_IsConstraint.l0]
    by_cases hlt : i < xs.length
    · rw [show decide ((i : Int) < (xs.length : Int)) = true from decide_eq_true (by omega), inb_nat, natOf_nat, decide_eq_true hlt, wrap_succ (by omega)]
      simp only [cond_true, term_same, needs_same]
      generalize List.getD xs i _ = a
      obtain ⟨y, hy⟩ := needs_some a
      obtain ⟨b, hb⟩ := term_some a
      simp only [hy, hb, Option.bind_some]
      cases b
      · exact .inl ⟨rfl, rfl⟩
      · simp only [Bool.not_true, cond_false]
        by_cases hn : n < y
        · rw [decide_eq_true hn]
          exact .inl ⟨rfl, rfl⟩
        · rw [decide_eq_false hn]
          simp only [cond_false]
          exact loops_same xs hx k (i + 1) _ hlt (by omega)
    · rw [show decide ((i : Int) < (xs.length : Int)) = false from decide_eq_false (by omega)]
      exact .inr ⟨n, rfl, rfl⟩
/-- Both answer, and alike. -/
theorem same (xs : List Term) (hx : xs.length ≤ 140737488351232) : ∃ b, spec_IsConstraint.f xs = some b ∧ impl_IsConstraint.f xs = some b := by
  have h := loops_same xs hx Go.Pf.FUEL 0 0 (by omega) (by unfold FUEL; omega)
  have e0 : ((0 : Nat) : Int) = 0 := rfl
  rw [e0] at h
  unfold spec_IsConstraint.f spec_l24Valid.f impl_IsConstraint.f
  by_cases hl : (xs.length : Int) > 24
  · rw [decide_eq_true hl, cond_true]
    refine ⟨false, rfl, ?_⟩
    rcases h with ⟨_, h⟩ | ⟨m, _, h⟩
    · rw [h]; rfl
    · rw [h]
      show (bif m == 1 then some (decide ((xs.length : Int) ≤ 24)) else some false) = some false
      rw [decide_eq_false (by omega)]
      cases (m == 1) <;> rfl
  · rw [decide_eq_false hl, cond_false]
    rcases h with ⟨h1, h2⟩ | ⟨m, h1, h2⟩
    · rw [h1, h2]; exact ⟨false, rfl, rfl⟩
    · rw [h1, h2]
      refine ⟨m == 1, rfl, ?_⟩
      show (bif m == 1 then some (decide ((xs.length : Int) ≤ 24)) else some false) = some (m == 1)
      rw [decide_eq_true (by omega)]
      cases (m == 1) <;> rfl
theorem law (xs : List Term) (h : xs.length ≤ 140737488351232) : laws_FnExactIsConstraint.f xs = some true := by
  unfold laws_FnExactIsConstraint.f laws_szTermS.f
  rw [wrap_in (by omega) (by omega)]
  by_cases hs : (1048576 : Int) - (xs.length : Int) < 0
  · rw [decide_eq_true hs]; rfl
  · rw [decide_eq_false hs, cond_false, Option.bind_some, decide_eq_false hs, cond_false, toTermS_id xs (by omega)]
    obtain ⟨b, h1, h2⟩ := same xs h
    simp only [Option.bind_some, h1, h2, eqTermS_self xs h]
    cases b <;> rfl
end Go.Proofs.Ythjgofeekncogaa.fnExactIsConstraint
