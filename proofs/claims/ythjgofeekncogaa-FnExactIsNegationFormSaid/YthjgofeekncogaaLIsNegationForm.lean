/- Proved here: the plain law of FnExactIsNegationForm: its plain function answers true for all arguments; conditions: the length that a slice can have. -/
import Derived.Test.YthjgofeekncogaaGIsNegationForm
import Derived.Test.YthjgofeekncogaaRows
set_option linter.all false
set_option linter.unusedSimpArgs false
set_option linter.unusedVariables false
set_option maxRecDepth 10000
set_option linter.all false
set_option linter.unusedSimpArgs false
set_option linter.unusedVariables false
namespace Go.Proofs.Ythjgofeekncogaa.fnExactIsNegationForm
open Go Go.Rex Go.Pf
abbrev Term := Int × (Int × (Int × (Int × Unit)))
theorem toTerm_id (a : Term) : laws_toTerm.f a = some a := rfl
theorem toTermS_l0 (xs : List Term) (hx : xs.length ≤ 140737488351232) : ∀ (k i : Nat) (ys : List Term), ys.length = xs.length → i ≤ xs.length → xs.length < k + i → (∀ j, j < i → ys[j]? = xs[j]?) →
    laws_toTermS.l0 k xs ys (i : Int) = some (xs, ())
  | 0, i, ys, hl, hi, hk, h => by omega
  | k + 1, i, ys, hl, hi, hk, h => by
    rw [laws_toTermS.l0]
    by_cases hlt : i < xs.length
    · rw [show decide ((i : Int) < (xs.length : Int)) = true from decide_eq_true (by omega), inb_nat, inb_nat, natOf_nat, hl, decide_eq_true hlt, wrap_succ (by omega)]
      simp only [cond_true, toTerm_id, Option.bind_some]
      exact toTermS_l0 xs hx k (i + 1) _ (by simp [hl]) hlt (by omega) (copyL_step _ hl hlt h)
    · rw [show decide ((i : Int) < (xs.length : Int)) = false from decide_eq_false (by omega)]
      simp only [cond_false]
      rw [copyL_end hl (by omega) h]
theorem toTermS_id (xs : List Term) (hx : xs.length ≤ 4294967296) : laws_toTermS.f xs = some xs := by
  unfold laws_toTermS.f
  rw [mkOK_nat hx, Int.toNat_natCast]
  have := toTermS_l0 xs (by omega) Go.Pf.FUEL 0 (List.replicate xs.length (Ty.dflt (.pr (.int .i64) (.pr (.int .i64) (.pr (.int .i64) (.pr (.int .i64) .nl)))))) (by simp) (by omega) (by unfold FUEL; omega) (by intro j h; omega)
  rw [cond_true]
  erw [this]
  rfl
theorem eqTerm_self (a : Term) : laws_eqTerm.f a a = some true := by
  simp [laws_eqTerm.f]
theorem eqTermS_l0 (xs : List Term) (hx : xs.length ≤ 140737488351232) : ∀ (k i : Nat), i ≤ xs.length → xs.length < k + i → laws_eqTermS.l0 k xs xs (i : Int) = some (.inr ())
  | 0, i, hi, hk => by omega
  | k + 1, i, hi, hk => by
    rw [laws_eqTermS.l0]
    by_cases hlt : i < xs.length
    · rw [show decide ((i : Int) < (xs.length : Int)) = true from decide_eq_true (by omega), inb_nat, natOf_nat, decide_eq_true hlt, wrap_succ (by omega)]
      simp only [cond_true, eqTerm_self, Option.bind_some, Bool.not_true, cond_false]
      exact eqTermS_l0 xs hx k (i + 1) hlt (by omega)
    · rw [show decide ((i : Int) < (xs.length : Int)) = false from decide_eq_false (by omega)]
      rfl
theorem eqTermS_self (xs : List Term) (hx : xs.length ≤ 140737488351232) : laws_eqTermS.f xs xs = some true := by
  unfold laws_eqTermS.f
  have := eqTermS_l0 xs hx Go.Pf.FUEL 0 (by omega) (by unfold FUEL; omega)
  rw [show ((xs.length : Int) != (xs.length : Int)) = false by simp, cond_false]
  erw [this]
  rfl

/-- The program's test of one term is the reference's. -/
theorem term_same (a : Term) : impl_isTerm.f a = spec_l24Term.f a := by
  obtain ⟨k, s, lo, hi, u⟩ := a
  unfold impl_isTerm.f spec_l24Term.f impl_isAtomKind.f impl_isSuit.f impl_hasSuit.f impl_mostOf.f impl_within.f spec_l24Range.f spec_l01In.f
  by_cases h0 : k = 0
  · subst h0
    simp only [inb, natOf, Bool.cond_eq_ite]
    simp
    repeat' split
    all_goals try simp only [Option.bind_some, decide_eq_true_eq, decide_eq_false_iff_not]
    all_goals repeat' split
    all_goals try simp only [Option.bind_some, decide_eq_true_eq, decide_eq_false_iff_not]
    all_goals repeat' split
    all_goals first | rfl | omega | (simp_all; done) | (simp only [Option.some.injEq]; rw [Bool.eq_iff_iff]; simp; omega)
  by_cases h1 : k = 1
  · subst h1
    simp only [inb, natOf, Bool.cond_eq_ite]
    simp
    repeat' split
    all_goals try simp only [Option.bind_some, decide_eq_true_eq, decide_eq_false_iff_not]
    all_goals repeat' split
    all_goals try simp only [Option.bind_some, decide_eq_true_eq, decide_eq_false_iff_not]
    all_goals repeat' split
    all_goals first | rfl | omega | (simp_all; done) | (simp only [Option.some.injEq]; rw [Bool.eq_iff_iff]; simp; omega)
  by_cases h2 : k = 2
  · subst h2
    simp only [inb, natOf, Bool.cond_eq_ite]
    simp
    repeat' split
    all_goals try simp only [Option.bind_some, decide_eq_true_eq, decide_eq_false_iff_not]
    all_goals repeat' split
    all_goals try simp only [Option.bind_some, decide_eq_true_eq, decide_eq_false_iff_not]
    all_goals repeat' split
    all_goals first | rfl | omega | (simp_all; done) | (simp only [Option.some.injEq]; rw [Bool.eq_iff_iff]; simp; omega)
  by_cases h3 : k = 3
  · subst h3
    simp only [inb, natOf, Bool.cond_eq_ite]
    simp
    repeat' split
    all_goals try simp only [Option.bind_some, decide_eq_true_eq, decide_eq_false_iff_not]
    all_goals repeat' split
    all_goals try simp only [Option.bind_some, decide_eq_true_eq, decide_eq_false_iff_not]
    all_goals repeat' split
    all_goals first | rfl | omega | (simp_all; done) | (simp only [Option.some.injEq]; rw [Bool.eq_iff_iff]; simp; omega)
  by_cases h4 : k = 4
  · subst h4
    simp only [inb, natOf, Bool.cond_eq_ite]
    simp
    repeat' split
    all_goals try simp only [Option.bind_some, decide_eq_true_eq, decide_eq_false_iff_not]
    all_goals repeat' split
    all_goals try simp only [Option.bind_some, decide_eq_true_eq, decide_eq_false_iff_not]
    all_goals repeat' split
    all_goals first | rfl | omega | (simp_all; done) | (simp only [Option.some.injEq]; rw [Bool.eq_iff_iff]; simp; omega)
  by_cases h5 : k = 5
  · subst h5
    simp only [inb, natOf, Bool.cond_eq_ite]
    simp
    repeat' split
    all_goals try simp only [Option.bind_some, decide_eq_true_eq, decide_eq_false_iff_not]
    all_goals repeat' split
    all_goals try simp only [Option.bind_some, decide_eq_true_eq, decide_eq_false_iff_not]
    all_goals repeat' split
    all_goals first | rfl | omega | (simp_all; done) | (simp only [Option.some.injEq]; rw [Bool.eq_iff_iff]; simp; omega)
  by_cases h6 : k = 6
  · subst h6
    simp only [inb, natOf, Bool.cond_eq_ite]
    simp
    repeat' split
    all_goals try simp only [Option.bind_some, decide_eq_true_eq, decide_eq_false_iff_not]
    all_goals repeat' split
    all_goals try simp only [Option.bind_some, decide_eq_true_eq, decide_eq_false_iff_not]
    all_goals repeat' split
    all_goals first | rfl | omega | (simp_all; done) | (simp only [Option.some.injEq]; rw [Bool.eq_iff_iff]; simp; omega)
  by_cases h7 : k = 7
  · subst h7
    simp only [inb, natOf, Bool.cond_eq_ite]
    simp
    repeat' split
    all_goals try simp only [Option.bind_some, decide_eq_true_eq, decide_eq_false_iff_not]
    all_goals repeat' split
    all_goals try simp only [Option.bind_some, decide_eq_true_eq, decide_eq_false_iff_not]
    all_goals repeat' split
    all_goals first | rfl | omega | (simp_all; done) | (simp only [Option.some.injEq]; rw [Bool.eq_iff_iff]; simp; omega)
  by_cases h8 : k = 8
  · subst h8
    simp only [inb, natOf, Bool.cond_eq_ite]
    simp
    repeat' split
    all_goals try simp only [Option.bind_some, decide_eq_true_eq, decide_eq_false_iff_not]
    all_goals repeat' split
    all_goals try simp only [Option.bind_some, decide_eq_true_eq, decide_eq_false_iff_not]
    all_goals repeat' split
    all_goals first | rfl | omega | (simp_all; done) | (simp only [Option.some.injEq]; rw [Bool.eq_iff_iff]; simp; omega)
  · simp only [Bool.cond_eq_ite, beq_iff_eq, h0, h1, h2, h3, h4, h5, h6, h7, h8, if_false]
    have e1 : ¬ (6 ≤ k ∧ k ≤ 8) := by omega
    have e2 : ¬ (0 ≤ k ∧ k ≤ 5) := by omega
    by_cases a6 : (6 : Int) ≤ k
    · have a8 : ¬ k ≤ 8 := by omega
      have a0 : (0 : Int) ≤ k := by omega
      have a5 : ¬ k ≤ 5 := by omega
      simp [a6, a8, a0, a5]
    · by_cases a0 : (0 : Int) ≤ k
      · have a5 : ¬ k ≤ 5 := by omega
        simp [a6, a0, a5]
      · simp [a6, a0]
theorem needs_same (a : Term) : impl_operands.f a.1 = spec_l24Needs.f a := rfl
theorem needs_some (a : Term) : ∃ n, spec_l24Needs.f a = some n := by
  unfold spec_l24Needs.f
  simp only [Bool.cond_eq_ite]
  repeat' split
  all_goals exact ⟨_, rfl⟩
theorem range_some (a : Term) (n : Int) : ∃ b, spec_l24Range.f a n = some b := by
  unfold spec_l24Range.f
  cases decide (a.2.2.1 ≥ 0) <;> cases decide (a.2.2.1 ≤ a.2.2.2.1) <;> exact ⟨_, rfl⟩
theorem in_some (a b c : Int) : ∃ v, spec_l01In.f a b c = some v := by
  unfold spec_l01In.f
  cases decide (a ≥ b) <;> exact ⟨_, rfl⟩
theorem some_cond {c : Bool} {x y : Option Bool} (hx : ∃ b, x = some b) (hy : ∃ b, y = some b) : ∃ b, (bif c then x else y) = some b := by
  cases c
  · exact hy
  · exact hx
theorem some_bind {x : Option Bool} {f : Bool → Option Bool} (hx : ∃ b, x = some b) (hf : ∀ y, ∃ b, f y = some b) : ∃ b, x.bind f = some b := by
  obtain ⟨y, rfl⟩ := hx
  exact hf y
theorem term_some (a : Term) : ∃ b, spec_l24Term.f a = some b := by
  unfold spec_l24Term.f
  repeat' first | exact ⟨_, rfl⟩ | exact range_some _ _ | exact in_some _ _ _ | refine some_cond ?_ ?_ | refine some_bind ?_ fun y => ?_
theorem loops_same (xs : List Term) (hx : xs.length ≤ 140737488351232) : ∀ (k i : Nat) (n : Int), i ≤ xs.length → xs.length < k + i →
    (spec_l24Valid.l0 k xs n (i : Int) = some (.inl (false, ())) ∧ impl_IsConstraint.l0 k xs n xs (xs.length : Int) (i : Int) = some (.inl (false, ()))) ∨
    ∃ m, spec_l24Valid.l0 k xs n (i : Int) = some (.inr (m, ())) ∧ impl_IsConstraint.l0 k xs n xs (xs.length : Int) (i : Int) = some (.inr (xs, m, ()))
  | 0, i, n, hi, hk => by omega
  | k + 1, i, n, hi, hk => by
    rw [spec_l24Valid.l0, impl_IsConstraint.l0]
    by_cases hlt : i < xs.length
    · rw [show decide ((i : Int) < (xs.length : Int)) = true from decide_eq_true (by omega), inb_nat, natOf_nat, decide_eq_true hlt, wrap_succ (by omega)]
      simp only [cond_true, term_same, needs_same]
      generalize List.getD xs i _ = a
      obtain ⟨y, hy⟩ := needs_some a
      obtain ⟨b, hb⟩ := term_some a
      simp only [hy, hb, Option.bind_some]
      cases b
      · exact .inl ⟨rfl, rfl⟩
      · simp only [Bool.not_true, cond_false]
        by_cases hn : n < y
        · rw [decide_eq_true hn]
          exact .inl ⟨rfl, rfl⟩
        · rw [decide_eq_false hn]
          simp only [cond_false]
          exact loops_same xs hx k (i + 1) _ hlt (by omega)
    · rw [show decide ((i : Int) < (xs.length : Int)) = false from decide_eq_false (by omega)]
      exact .inr ⟨n, rfl, rfl⟩
/-- Both answer, and alike. -/
theorem same (xs : List Term) (hx : xs.length ≤ 140737488351232) : ∃ b, spec_l24Valid.f xs = some b ∧ impl_IsConstraint.f xs = some b := by
  have h := loops_same xs hx Go.Pf.FUEL 0 0 (by omega) (by unfold FUEL; omega)
  have e0 : ((0 : Nat) : Int) = 0 := rfl
  rw [e0] at h
  unfold spec_l24Valid.f impl_IsConstraint.f
  by_cases hl : (xs.length : Int) > 24
  · rw [decide_eq_true hl, cond_true]
    refine ⟨false, rfl, ?_⟩
    rcases h with ⟨_, h⟩ | ⟨m, _, h⟩
    · rw [h]; rfl
    · rw [h]
      show (bif m == 1 then some (decide ((xs.length : Int) ≤ 24)) else some false) = some false
      rw [decide_eq_false (by omega)]
      cases (m == 1) <;> rfl
  · rw [decide_eq_false hl, cond_false]
    rcases h with ⟨h1, h2⟩ | ⟨m, h1, h2⟩
    · rw [h1, h2]; exact ⟨false, rfl, rfl⟩
    · rw [h1, h2]
      refine ⟨m == 1, rfl, ?_⟩
      show (bif m == 1 then some (decide ((xs.length : Int) ≤ 24)) else some false) = some (m == 1)
      rw [decide_eq_true (by omega)]
      cases (m == 1) <;> rfl

theorem term_neg (a : Term) (h : a.1 < 0) : spec_l24Term.f a = some false := by
  unfold spec_l24Term.f
  have h0 : ∀ c : Int, 0 ≤ c → (a.1 == c) = false := fun c hc => by simp; omega
  simp only [h0 0 (by omega), h0 1 (by omega), h0 2 (by omega), h0 3 (by omega), h0 4 (by omega), h0 5 (by omega), h0 6 (by omega), h0 7 (by omega), h0 8 (by omega), cond_false]
theorem valid_l0_neg (xs : List Term) (hx : xs.length ≤ 140737488351232) : ∀ (k i : Nat) (n : Int), xs.length < k + i → (∃ j : Nat, i ≤ j ∧ ∃ a : Term, xs[j]? = some a ∧ a.1 < 0) →
    spec_l24Valid.l0 k xs n (i : Int) = some (.inl (false, ()))
  | 0, i, n, hk, ⟨j, hj, a, ha, _⟩ => by
    have := (List.getElem?_eq_some_iff.1 ha).1
    omega
  | k + 1, i, n, hk, ⟨j, hj, a, ha, hneg⟩ => by
    have hlt : i < xs.length := by have := (List.getElem?_eq_some_iff.1 ha).1; omega
    rw [spec_l24Valid.l0, show decide ((i : Int) < (xs.length : Int)) = true from decide_eq_true (by omega), inb_nat, natOf_nat, decide_eq_true hlt, wrap_succ (by omega)]
    simp only [cond_true]
    by_cases hij : i = j
    · subst hij
      rw [show List.getD xs i _ = a by simp [List.getD, ha]]
      obtain ⟨y, hy⟩ := needs_some a
      simp only [hy, term_neg a hneg, Option.bind_some, Bool.not_false, cond_true]
    · generalize List.getD xs i _ = b
      obtain ⟨y, hy⟩ := needs_some b
      obtain ⟨v, hv⟩ := term_some b
      simp only [hy, hv, Option.bind_some]
      rw [valid_l0_neg xs hx k (i + 1) _ (by omega) ⟨j, by omega, a, ha, hneg⟩]
      cases v <;> cases decide (n < y) <;> rfl
theorem valid_neg (xs : List Term) (hx : xs.length ≤ 140737488351232) (h : ∃ j : Nat, ∃ a : Term, xs[j]? = some a ∧ a.1 < 0) : spec_l24Valid.f xs = some false := by
  obtain ⟨j, a, h⟩ := h
  unfold spec_l24Valid.f
  have := valid_l0_neg xs hx Go.Pf.FUEL 0 0 (by unfold FUEL; omega) ⟨j, by omega, a, h⟩
  have e0 : ((0 : Nat) : Int) = 0 := rfl
  rw [e0] at this
  rw [this]
  cases decide ((xs.length : Int) > 24) <;> rfl
theorem wrap_pred {i : Nat} (h : i ≤ 140737488351232) (h0 : 0 < i) : IntKind.wrap IntKind.i64 ((i : Int) - 1) = ((i - 1 : Nat) : Int) := by
  rw [wrap_in (by omega) (by omega)]; omega
theorem atomKind_eq (n : Int) : impl_isAtomKind.f n = some (decide (0 ≤ n) && decide (n ≤ 5)) := by
  unfold impl_isAtomKind.f impl_within.f
  cases decide (0 ≤ n) <;> rfl
theorem nf_loops (xs : List Term) (hx : xs.length ≤ 140737488351232) : ∀ (k i : Nat), i ≤ xs.length → xs.length < k + i →
    (spec_IsNegationForm.l0 k xs (i : Int) = some (.inl (false, ())) ∨ spec_IsNegationForm.l0 k xs (i : Int) = some (.inr (xs, ()))) ∧
    (impl_IsNegationForm.l0 k xs xs (xs.length : Int) (i : Int) = some (.inl (false, ())) ∨ impl_IsNegationForm.l0 k xs xs (xs.length : Int) (i : Int) = some (.inr (xs, ()))) ∧
    (spec_IsNegationForm.l0 k xs (i : Int) = impl_IsNegationForm.l0 k xs xs (xs.length : Int) (i : Int) ∨ ∃ j : Nat, ∃ a : Term, xs[j]? = some a ∧ a.1 < 0)
  | 0, i, hi, hk => by omega
  | k + 1, i, hi, hk => by
    rw [spec_IsNegationForm.l0, impl_IsNegationForm.l0]
    by_cases hlt : i < xs.length
    · rw [show decide ((i : Int) < (xs.length : Int)) = true from decide_eq_true (by omega), inb_nat, natOf_nat, decide_eq_true hlt, wrap_succ (by omega)]
      simp only [cond_true]
      have ih := nf_loops xs hx k (i + 1) hlt (by omega)
      cases hb : (Prod.fst (List.getD xs i (Ty.dflt (.pr (.int .i64) (.pr (.int .i64) (.pr (.int .i64) (.pr (.int .i64) .nl)))))) == 6)
      · simp only [cond_false]; exact ih
      · simp only [cond_true]
        by_cases h0 : 0 < i
        · rw [show decide ((i : Int) > 0) = true from decide_eq_true (by omega), wrap_pred (by omega) h0, inb_nat, natOf_nat, decide_eq_true (show i - 1 < xs.length by omega)]
          simp only [cond_true, atomKind_eq, Option.bind_some]
          have hg : xs[i - 1]? = some (xs.getD (i - 1) (Ty.dflt (.pr (.int .i64) (.pr (.int .i64) (.pr (.int .i64) (.pr (.int .i64) .nl)))))) := by
            rw [List.getD_eq_getElem?_getD, List.getElem?_eq_getElem (by omega)]; rfl
          revert hg
          generalize List.getD xs (i - 1) (Ty.dflt (.pr (.int .i64) (.pr (.int .i64) (.pr (.int .i64) (.pr (.int .i64) .nl))))) = a
          intro hg
          by_cases h6 : a.1 ≥ 6
          · rw [decide_eq_true h6, decide_eq_false (show ¬ a.1 ≤ 5 by omega)]
            simp only [cond_true, Bool.and_false, Bool.not_false]
            simp
          · rw [decide_eq_false h6, decide_eq_true (show a.1 ≤ 5 by omega)]
            by_cases hn : 0 ≤ a.1
            · rw [decide_eq_true hn]; exact ih
            · rw [decide_eq_false hn]
              exact ⟨ih.1, .inl rfl, .inr ⟨i - 1, a, hg, by omega⟩⟩
        · rw [show decide ((i : Int) > 0) = false from decide_eq_false (by omega)]
          simp only [cond_false]; exact ih
    · rw [show decide ((i : Int) < (xs.length : Int)) = false from decide_eq_false (by omega)]
      exact ⟨.inr rfl, .inr rfl, .inl rfl⟩
theorem nf_same (xs : List Term) (hx : xs.length ≤ 140737488351232) : ∃ b, spec_IsNegationForm.f xs = some b ∧ impl_IsNegationForm.f xs = some b := by
  have h := nf_loops xs hx Go.Pf.FUEL 0 (by omega) (by unfold FUEL; omega)
  have e0 : ((0 : Nat) : Int) = 0 := rfl
  rw [e0] at h
  obtain ⟨b, hv, hb2⟩ := same xs hx
  unfold spec_IsNegationForm.f impl_IsNegationForm.f
  obtain ⟨h1, h2, h3⟩ := h
  rcases h3 with h3 | h3
  · rw [← h3]
    rcases h1 with h1 | h1
    · rw [h1]; exact ⟨false, rfl, rfl⟩
    · rw [h1]
      refine ⟨b, ?_, ?_⟩
      · show Option.bind (spec_l24Valid.f xs) (fun y => some y) = some b
        rw [hv]; rfl
      · show Option.bind (impl_IsConstraint.f xs) (fun y => some y) = some b
        rw [hb2]; rfl
  · have hf : b = false := by
      rw [valid_neg xs hx h3] at hv
      simpa using hv.symm
    subst hf
    refine ⟨false, ?_, ?_⟩
    · rcases h1 with h1 | h1
      · rw [h1]; rfl
      · rw [h1]
        show Option.bind (spec_l24Valid.f xs) (fun y => some y) = some false
        rw [hv]; rfl
    · rcases h2 with h2 | h2
      · rw [h2]; rfl
      · rw [h2]
        show Option.bind (impl_IsConstraint.f xs) (fun y => some y) = some false
        rw [hb2]; rfl

theorem law (xs : List Term) (h : xs.length ≤ 140737488351232) : laws_FnExactIsNegationForm.f xs = some true := by
  unfold laws_FnExactIsNegationForm.f laws_szTermS.f
  rw [wrap_in (by omega) (by omega)]
  by_cases hs : (1048576 : Int) - (xs.length : Int) < 0
  · rw [decide_eq_true hs]; rfl
  · rw [decide_eq_false hs, cond_false, Option.bind_some, decide_eq_false hs, cond_false, toTermS_id xs (by omega)]
    obtain ⟨b, h1, h2⟩ := nf_same xs h
    simp only [Option.bind_some, h1, h2, eqTermS_self xs h]
    cases b <;> rfl

end Go.Proofs.Ythjgofeekncogaa.fnExactIsNegationForm
