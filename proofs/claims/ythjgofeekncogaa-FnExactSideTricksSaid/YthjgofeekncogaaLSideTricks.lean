/- Proved here: the plain law of FnExactSideTricks: its plain function answers true for all arguments; conditions: the length that a slice can have. -/
import Derived.Test.YthjgofeekncogaaGSideTricks
import Derived.Test.YthjgofeekncogaaRows
set_option linter.all false
set_option linter.unusedSimpArgs false
set_option linter.unusedVariables false
set_option maxRecDepth 10000
set_option linter.all false
set_option linter.unusedSimpArgs false
set_option linter.unusedVariables false
namespace Go.Proofs.Ythjgofeekncogaa.fnExactSideTricks
open Go Go.Rex Go.Pf
theorem toInt64S_l0 (xs : List Int) (hx : xs.length ≤ 140737488351232) : ∀ (k i : Nat) (ys : List Int), ys.length = xs.length → i ≤ xs.length → xs.length < k + i → (∀ j, j < i → ys[j]? = xs[j]?) →
    laws_toInt64S.l0 k xs ys (i : Int) = some (xs, ())
  | 0, i, ys, hl, hi, hk, h => by omega
  | k + 1, i, ys, hl, hi, hk, h => by
    rw [laws_toInt64S.l0]
    by_cases hlt : i < xs.length
    · rw [show decide ((i : Int) < (xs.length : Int)) = true from decide_eq_true (by omega), inb_nat, inb_nat, natOf_nat, hl, decide_eq_true hlt, wrap_succ (by omega)]
      simp only [cond_true]
      exact toInt64S_l0 xs hx k (i + 1) _ (by simp [hl]) hlt (by omega) (copyL_step _ hl hlt h)
    · rw [show decide ((i : Int) < (xs.length : Int)) = false from decide_eq_false (by omega)]
      simp only [cond_false]
      rw [copyL_end hl (by omega) h]
theorem toInt64S_id (xs : List Int) (hx : xs.length ≤ 4294967296) : laws_toInt64S.f xs = some xs := by
  unfold laws_toInt64S.f
  rw [mkOK_nat hx, Int.toNat_natCast]
  have := toInt64S_l0 xs (by omega) Go.Pf.FUEL 0 (List.replicate xs.length (Ty.dflt (.int .i64))) (by simp) (by omega) (by unfold FUEL; omega) (by intro j h; omega)
  rw [cond_true]
  erw [this]
  rfl
theorem eqInt64S_l0 (xs : List Int) (hx : xs.length ≤ 140737488351232) : ∀ (k i : Nat), i ≤ xs.length → xs.length < k + i → laws_eqInt64S.l0 k xs xs (i : Int) = some (.inr ())
  | 0, i, hi, hk => by omega
  | k + 1, i, hi, hk => by
    rw [laws_eqInt64S.l0]
    by_cases hlt : i < xs.length
    · rw [show decide ((i : Int) < (xs.length : Int)) = true from decide_eq_true (by omega), inb_nat, natOf_nat, decide_eq_true hlt, wrap_succ (by omega)]
      simp only [cond_true, bne_self_eq_false, cond_false]
      exact eqInt64S_l0 xs hx k (i + 1) hlt (by omega)
    · rw [show decide ((i : Int) < (xs.length : Int)) = false from decide_eq_false (by omega)]
      rfl
theorem eqInt64S_self (xs : List Int) (hx : xs.length ≤ 140737488351232) : laws_eqInt64S.f xs xs = some true := by
  unfold laws_eqInt64S.f
  have := eqInt64S_l0 xs hx Go.Pf.FUEL 0 (by omega) (by unfold FUEL; omega)
  rw [show ((xs.length : Int) != (xs.length : Int)) = false by simp, cond_false]
  erw [this]
  rfl
theorem szInt64S_eq (xs : List Int) (hx : xs.length ≤ 140737488351232) (n : Int) (h0 : 0 ≤ n) (h1 : n ≤ 1048576) : laws_szInt64S.f xs n = some (if n - (xs.length : Int) < 0 then -1 else n - (xs.length : Int)) := by
  unfold laws_szInt64S.f
  rw [wrap_in (by omega) (by omega)]
  by_cases h : n - (xs.length : Int) < 0
  · rw [decide_eq_true h, if_pos h]; rfl
  · rw [decide_eq_false h, if_neg h]; rfl

abbrev Small (xs : List (List Int)) (i : Nat) : Prop := ∀ j : Nat, i ≤ j → ∀ r : List Int, xs[j]? = some r → r.length ≤ 1048576
theorem szInt64SS_l0 (xs : List (List Int)) (hx : xs.length ≤ 140737488351232) (hr : ∀ r ∈ xs, r.length ≤ 140737488351232) : ∀ (k i : Nat) (n : Int), 0 ≤ n → n ≤ 1048576 → i ≤ xs.length → xs.length < k + i →
    laws_szInt64SS.l0 k xs n (i : Int) = some (.inl (-1, ())) ∨ ∃ m : Int, 0 ≤ m ∧ laws_szInt64SS.l0 k xs n (i : Int) = some (.inr (m, ())) ∧ Small xs i
  | 0, i, n, h0, h1, hi, hk => by omega
  | k + 1, i, n, h0, h1, hi, hk => by
    rw [laws_szInt64SS.l0]
    by_cases hlt : i < xs.length
    · rw [show decide ((i : Int) < (xs.length : Int)) = true from decide_eq_true (by omega), inb_nat, natOf_nat, decide_eq_true hlt, wrap_succ (by omega)]
      simp only [cond_true]
      have hg : xs[i]? = some (List.getD xs i (Ty.dflt (.sl (.int .i64)))) := by
        rw [List.getD_eq_getElem?_getD, List.getElem?_eq_getElem hlt]; rfl
      revert hg
      generalize List.getD xs i (Ty.dflt (.sl (.int .i64))) = r
      intro hg
      have hrm : r ∈ xs := List.mem_of_getElem? hg
      rw [szInt64S_eq r (hr r hrm) n h0 h1]
      simp only [Option.bind_some]
      by_cases h : n - (List.length r : Int) < 0
      · rw [if_pos h]; exact .inl rfl
      · rw [if_neg h, decide_eq_false h]
        simp only [cond_false]
        rcases szInt64SS_l0 xs hx hr k (i + 1) (n - (List.length r : Int)) (by omega) (by omega) hlt (by omega) with g | ⟨m, g0, g1, g2⟩
        · exact .inl g
        · refine .inr ⟨m, g0, g1, fun j hj q hq => ?_⟩
          by_cases hji : j = i
          · subst hji
            rw [hg] at hq
            simp only [Option.some.injEq] at hq
            subst hq
            omega
          · exact g2 j (by omega) q hq
    · rw [show decide ((i : Int) < (xs.length : Int)) = false from decide_eq_false (by omega)]
      refine .inr ⟨n, h0, rfl, fun j hj q hq => ?_⟩
      have := (List.getElem?_eq_some_iff.1 hq).1
      omega
theorem szInt64SS_cases (xs : List (List Int)) (hx : xs.length ≤ 140737488351232) (hr : ∀ r ∈ xs, r.length ≤ 140737488351232) :
    laws_szInt64SS.f xs 1048576 = some (-1) ∨ ∃ m : Int, 0 ≤ m ∧ laws_szInt64SS.f xs 1048576 = some m ∧ xs.length ≤ 1048576 ∧ ∀ r ∈ xs, r.length ≤ 1048576 := by
  unfold laws_szInt64SS.f
  rw [wrap_in (by omega) (by omega)]
  by_cases h : (1048576 : Int) - (xs.length : Int) < 0
  · rw [decide_eq_true h]; exact .inl rfl
  · rw [decide_eq_false h]
    simp only [cond_false]
    have := szInt64SS_l0 xs hx hr Go.Pf.FUEL 0 (1048576 - (xs.length : Int)) (by omega) (by omega) (by omega) (by unfold FUEL; omega)
    have e0 : ((0 : Nat) : Int) = 0 := rfl
    rw [e0] at this
    rcases this with g | ⟨m, g0, g1, g2⟩
    · rw [g]; exact .inl rfl
    · rw [g1]
      refine .inr ⟨m, g0, rfl, by omega, fun r hrm => ?_⟩
      obtain ⟨j, hj⟩ := List.getElem?_of_mem hrm
      exact g2 j (by omega) r hj
theorem toInt64SS_l0 (xs : List (List Int)) (hx : xs.length ≤ 140737488351232) (hr : ∀ r ∈ xs, r.length ≤ 4294967296) : ∀ (k i : Nat) (ys : List (List Int)), ys.length = xs.length → i ≤ xs.length → xs.length < k + i → (∀ j, j < i → ys[j]? = xs[j]?) →
    laws_toInt64SS.l0 k xs ys (i : Int) = some (xs, ())
  | 0, i, ys, hl, hi, hk, h => by omega
  | k + 1, i, ys, hl, hi, hk, h => by
    rw [laws_toInt64SS.l0]
    by_cases hlt : i < xs.length
    · have hm : List.getD xs i (Ty.dflt (.sl (.int .i64))) ∈ xs := by
        rw [List.getD_eq_getElem?_getD, List.getElem?_eq_getElem hlt]; exact List.getElem_mem hlt
      rw [show decide ((i : Int) < (xs.length : Int)) = true from decide_eq_true (by omega), inb_nat, inb_nat, natOf_nat, hl, decide_eq_true hlt, wrap_succ (by omega)]
      simp only [cond_true]
      rw [toInt64S_id _ (hr _ hm)]
      simp only [Option.bind_some]
      exact toInt64SS_l0 xs hx hr k (i + 1) _ (by simp [hl]) hlt (by omega) (copyL_step _ hl hlt h)
    · rw [show decide ((i : Int) < (xs.length : Int)) = false from decide_eq_false (by omega)]
      simp only [cond_false]
      rw [copyL_end hl (by omega) h]
theorem toInt64SS_id (xs : List (List Int)) (hx : xs.length ≤ 4294967296) (hr : ∀ r ∈ xs, r.length ≤ 4294967296) : laws_toInt64SS.f xs = some xs := by
  unfold laws_toInt64SS.f
  rw [mkOK_nat hx, Int.toNat_natCast]
  have := toInt64SS_l0 xs (by omega) hr Go.Pf.FUEL 0 (List.replicate xs.length (Ty.dflt (.sl (.int .i64)))) (by simp) (by omega) (by unfold FUEL; omega) (by intro j h; omega)
  rw [cond_true]
  erw [this]
  rfl
theorem eqInt64SS_l0 (xs : List (List Int)) (hx : xs.length ≤ 140737488351232) (hr : ∀ r ∈ xs, r.length ≤ 140737488351232) : ∀ (k i : Nat), i ≤ xs.length → xs.length < k + i → laws_eqInt64SS.l0 k xs xs (i : Int) = some (.inr ())
  | 0, i, hi, hk => by omega
  | k + 1, i, hi, hk => by
    rw [laws_eqInt64SS.l0]
    by_cases hlt : i < xs.length
    · have hm : List.getD xs i (Ty.dflt (.sl (.int .i64))) ∈ xs := by
        rw [List.getD_eq_getElem?_getD, List.getElem?_eq_getElem hlt]; exact List.getElem_mem hlt
      rw [show decide ((i : Int) < (xs.length : Int)) = true from decide_eq_true (by omega), inb_nat, natOf_nat, decide_eq_true hlt, wrap_succ (by omega)]
      simp only [cond_true]
      rw [eqInt64S_self _ (hr _ hm)]
      simp only [Option.bind_some, Bool.not_true, cond_false]
      exact eqInt64SS_l0 xs hx hr k (i + 1) hlt (by omega)
    · rw [show decide ((i : Int) < (xs.length : Int)) = false from decide_eq_false (by omega)]
      rfl
theorem eqInt64SS_self (xs : List (List Int)) (hx : xs.length ≤ 140737488351232) (hr : ∀ r ∈ xs, r.length ≤ 140737488351232) : laws_eqInt64SS.f xs xs = some true := by
  unfold laws_eqInt64SS.f
  have := eqInt64SS_l0 xs hx hr Go.Pf.FUEL 0 (by omega) (by unfold FUEL; omega)
  rw [show ((xs.length : Int) != (xs.length : Int)) = false by simp, cond_false]
  erw [this]
  rfl

abbrev InR (n v : Int) : Prop := 0 ≤ v ∧ v ≤ n
abbrev GoodR (n : Int) (r : List Int) (j : Nat) : Prop := ∀ j' : Nat, j ≤ j' → ∀ v : Int, r[j']? = some v → InR n v
theorem goodR_step {n : Int} {r : List Int} {j : Nat} {v : Int} (hg : r[j]? = some v) : GoodR n r j ↔ InR n v ∧ GoodR n r (j + 1) :=
  ⟨fun h => ⟨h j (Nat.le_refl _) v hg, fun j' hj => h j' (by omega)⟩, fun h j' hj w hw => by
    by_cases e : j' = j
    · subst e; rw [hg] at hw; simp only [Option.some.injEq] at hw; subst hw; exact h.1
    · exact h.2 j' (by omega) w hw⟩
theorem getD_some {α : Type} {xs : List α} {i : Nat} {d : α} (h : i < xs.length) : xs[i]? = some (List.getD xs i d) := by
  rw [List.getD_eq_getElem?_getD, List.getElem?_eq_getElem h]; rfl
theorem in_eq (v n : Int) : spec_l15In.f v 0 n = some (decide (InR n v)) := by
  unfold spec_l15In.f
  by_cases h : 0 ≤ v
  · rw [decide_eq_true (show v ≥ 0 from h), cond_true, decide_eq_decide.2 (show v ≤ n ↔ InR n v from ⟨fun g => ⟨h, g⟩, fun g => g.2⟩)]
  · rw [decide_eq_false (show ¬ v ≥ 0 from h), cond_false, decide_eq_false (show ¬ InR n v from fun g => h g.1)]
theorem within_eq (v n : Int) : impl_within.f v 0 n = some (decide (InR n v)) := by
  unfold impl_within.f
  by_cases h : 0 ≤ v
  · rw [decide_eq_true h, cond_true, decide_eq_decide.2 (show v ≤ n ↔ InR n v from ⟨fun g => ⟨h, g⟩, fun g => g.2⟩)]
  · rw [decide_eq_false h, cond_false, decide_eq_false (show ¬ InR n v from fun g => h g.1)]
theorem spec_row (x0 : List (List Int)) (n : Int) (i : Nat) (hi : i < x0.length) (h4 : (List.getD x0 i (Ty.dflt (.sl (.int .i64)))).length = 4) : ∀ (k j : Nat), j ≤ 4 → 4 < k + j →
    (spec_IsTable.l1 k x0 n (i : Int) (j : Int) = some (.inr (x0, n, (i : Int), ())) ∧ GoodR n (List.getD x0 i (Ty.dflt (.sl (.int .i64)))) j) ∨
    (spec_IsTable.l1 k x0 n (i : Int) (j : Int) = some (.inl (false, ())) ∧ ¬ GoodR n (List.getD x0 i (Ty.dflt (.sl (.int .i64)))) j)
  | 0, j, hj, hk => by omega
  | k + 1, j, hj, hk => by
    rw [spec_IsTable.l1]
    by_cases hlt : j < 4
    · rw [show decide ((j : Int) < 4) = true from decide_eq_true (by omega), inb_nat, natOf_nat, decide_eq_true hi, inb_nat, natOf_nat, h4, decide_eq_true hlt, wrap_succ (by omega)]
      simp only [cond_true]
      have ih := spec_row x0 n i hi h4 k (j + 1) (by omega) (by omega)
      have hg := getD_some (d := Ty.dflt (.int .i64)) (show j < (List.getD x0 i (Ty.dflt (.sl (.int .i64)))).length by omega)
      rw [in_eq]
      simp only [Option.bind_some]
      by_cases h : InR n (List.getD (List.getD x0 i (Ty.dflt (.sl (.int .i64)))) j (Ty.dflt (.int .i64)))
      · rw [decide_eq_true h]
        simp only [Bool.not_true, cond_false]
        rcases ih with ⟨g1, g2⟩ | ⟨g1, g2⟩
        · exact .inl ⟨g1, (goodR_step hg).2 ⟨h, g2⟩⟩
        · exact .inr ⟨g1, fun g => g2 ((goodR_step hg).1 g).2⟩
      · rw [decide_eq_false h]
        exact .inr ⟨rfl, fun g => h ((goodR_step hg).1 g).1⟩
    · rw [show decide ((j : Int) < 4) = false from decide_eq_false (by omega)]
      refine .inl ⟨rfl, fun j' hj' v hv => ?_⟩
      have := (List.getElem?_eq_some_iff.1 hv).1
      omega
theorem impl_row (r : List Int) (n : Int) (hx : r.length ≤ 140737488351232) : ∀ (k j : Nat), j ≤ r.length → r.length < k + j →
    (slices_IndexFunc_f97.l0 k (n, ()) r (r.length : Int) (j : Int) = some (.inr ((n, ()), ())) ∧ GoodR n r j) ∨
    (∃ t : Nat, slices_IndexFunc_f97.l0 k (n, ()) r (r.length : Int) (j : Int) = some (.inl ((n, ()), (t : Int), ())) ∧ ¬ GoodR n r j)
  | 0, j, hj, hk => by omega
  | k + 1, j, hj, hk => by
    rw [slices_IndexFunc_f97.l0]
    by_cases hlt : j < r.length
    · rw [show decide ((j : Int) < (r.length : Int)) = true from decide_eq_true (by omega), inb_nat, natOf_nat, decide_eq_true hlt, wrap_succ (by omega)]
      simp only [cond_true]
      have ih := impl_row r n hx k (j + 1) hlt (by omega)
      have hg := getD_some (d := Ty.dflt (.int .i64)) hlt
      unfold impl_IsTable_1_1.f
      rw [within_eq]
      simp only [Option.bind_some]
      by_cases h : InR n (List.getD r j (Ty.dflt (.int .i64)))
      · rw [decide_eq_true h]
        simp only [Bool.not_true, cond_false]
        rcases ih with ⟨g1, g2⟩ | ⟨t, g1, g2⟩
        · exact .inl ⟨g1, (goodR_step hg).2 ⟨h, g2⟩⟩
        · exact .inr ⟨t, g1, fun g => g2 ((goodR_step hg).1 g).2⟩
      · rw [decide_eq_false h]
        exact .inr ⟨j, rfl, fun g => h ((goodR_step hg).1 g).1⟩
    · rw [show decide ((j : Int) < (r.length : Int)) = false from decide_eq_false (by omega)]
      refine .inl ⟨rfl, fun j' hj' v hv => ?_⟩
      have := (List.getElem?_eq_some_iff.1 hv).1
      omega
abbrev OkRow (n : Int) (r : List Int) : Prop := r.length = 4 ∧ GoodR n r 0
/-- The program's test of one row. -/
theorem impl_row_f (r : List Int) (n : Int) (hx : r.length ≤ 140737488351232) : (impl_IsTable_1.f r n = some (false, n, ()) ∧ OkRow n r) ∨ (impl_IsTable_1.f r n = some (true, n, ()) ∧ ¬ OkRow n r) := by
  unfold impl_IsTable_1.f
  by_cases h4 : r.length = 4
  · rw [show ((r.length : Int) != 4) = false by simp [h4], cond_false]
    unfold slices_ContainsFunc_f64.f slices_IndexFunc_f97.f
    have := impl_row r n hx Go.Pf.FUEL 0 (by omega) (by unfold FUEL; omega)
    have e0 : ((0 : Nat) : Int) = 0 := rfl
    rw [e0] at this
    rcases this with ⟨g1, g2⟩ | ⟨t, g1, g2⟩
    · rw [g1]; exact .inl ⟨rfl, h4, g2⟩
    · rw [g1]
      refine .inr ⟨?_, fun g => g2 g.2⟩
      show some (decide ((t : Int) ≥ 0), n, ()) = some (true, n, ())
      rw [decide_eq_true (by omega)]
  · rw [show ((r.length : Int) != 4) = true by simp; omega, cond_true]
    exact .inr ⟨rfl, fun g => h4 g.1⟩
abbrev GoodT (n : Int) (x : List (List Int)) (i : Nat) : Prop := ∀ i' : Nat, i ≤ i' → ∀ r : List Int, x[i']? = some r → OkRow n r
theorem goodT_step {n : Int} {x : List (List Int)} {j : Nat} {v : List Int} (hg : x[j]? = some v) : GoodT n x j ↔ OkRow n v ∧ GoodT n x (j + 1) :=
  ⟨fun h => ⟨h j (Nat.le_refl _) v hg, fun j' hj => h j' (by omega)⟩, fun h j' hj w hw => by
    by_cases e : j' = j
    · subst e; rw [hg] at hw; simp only [Option.some.injEq] at hw; subst hw; exact h.1
    · exact h.2 j' (by omega) w hw⟩
theorem spec_tab (x : List (List Int)) (n : Int) (h5 : x.length = 5) : ∀ (k i : Nat), i ≤ 5 → 5 < k + i →
    (spec_IsTable.l0 k x n (i : Int) = some (.inr ()) ∧ GoodT n x i) ∨ (spec_IsTable.l0 k x n (i : Int) = some (.inl (false, ())) ∧ ¬ GoodT n x i)
  | 0, i, hi, hk => by omega
  | k + 1, i, hi, hk => by
    rw [spec_IsTable.l0]
    by_cases hlt : i < 5
    · rw [show decide ((i : Int) < 5) = true from decide_eq_true (by omega), inb_nat, natOf_nat, h5, decide_eq_true hlt]
      simp only [cond_true]
      have hg := getD_some (xs := x) (d := Ty.dflt (.sl (.int .i64))) (show i < x.length by omega)
      by_cases h4 : (List.getD x i (Ty.dflt (.sl (.int .i64)))).length = 4
      · rw [show (((List.getD x i (Ty.dflt (.sl (.int .i64)))).length : Int) != 4) = false by rw [h4]; rfl, cond_false]
        have hr := spec_row x n i (by omega) h4 Go.Pf.FUEL 0 (by omega) (by unfold FUEL; omega)
        have e0 : ((0 : Nat) : Int) = 0 := rfl
        rw [e0] at hr
        rcases hr with ⟨g1, g2⟩ | ⟨g1, g2⟩
        · rw [g1]
          simp only [Option.bind_some]
          rw [wrap_succ (by omega)]
          rcases spec_tab x n h5 k (i + 1) (by omega) (by omega) with ⟨q1, q2⟩ | ⟨q1, q2⟩
          · exact .inl ⟨q1, (goodT_step hg).2 ⟨⟨h4, g2⟩, q2⟩⟩
          · exact .inr ⟨q1, fun g => q2 ((goodT_step hg).1 g).2⟩
        · rw [g1]
          exact .inr ⟨rfl, fun g => g2 ((goodT_step hg).1 g).1.2⟩
      · rw [show (((List.getD x i (Ty.dflt (.sl (.int .i64)))).length : Int) != 4) = true by rw [bne_iff_ne]; omega, cond_true]
        exact .inr ⟨rfl, fun g => h4 ((goodT_step hg).1 g).1.1⟩
    · rw [show decide ((i : Int) < 5) = false from decide_eq_false (by omega)]
      refine .inl ⟨rfl, fun j' hj' v hv => ?_⟩
      have := (List.getElem?_eq_some_iff.1 hv).1
      omega
theorem impl_tab (x : List (List Int)) (n : Int) (hx : x.length ≤ 140737488351232) (hr : ∀ r ∈ x, r.length ≤ 140737488351232) : ∀ (k i : Nat), i ≤ x.length → x.length < k + i →
    (slices_IndexFunc.l0 k (n, ()) x (x.length : Int) (i : Int) = some (.inr ((n, ()), ())) ∧ GoodT n x i) ∨
    (∃ t : Nat, slices_IndexFunc.l0 k (n, ()) x (x.length : Int) (i : Int) = some (.inl ((n, ()), (t : Int), ())) ∧ ¬ GoodT n x i)
  | 0, i, hi, hk => by omega
  | k + 1, i, hi, hk => by
    rw [slices_IndexFunc.l0]
    by_cases hlt : i < x.length
    · rw [show decide ((i : Int) < (x.length : Int)) = true from decide_eq_true (by omega), inb_nat, natOf_nat, decide_eq_true hlt, wrap_succ (by omega)]
      simp only [cond_true]
      have hg := getD_some (d := Ty.dflt (.sl (.int .i64))) hlt
      have ih := impl_tab x n hx hr k (i + 1) hlt (by omega)
      rcases impl_row_f (List.getD x i (Ty.dflt (.sl (.int .i64)))) n (hr _ (List.mem_of_getElem? hg)) with ⟨g1, g2⟩ | ⟨g1, g2⟩
      · rw [g1]
        simp only [Option.bind_some, cond_false]
        rcases ih with ⟨q1, q2⟩ | ⟨t, q1, q2⟩
        · exact .inl ⟨q1, (goodT_step hg).2 ⟨g2, q2⟩⟩
        · exact .inr ⟨t, q1, fun g => q2 ((goodT_step hg).1 g).2⟩
      · rw [g1]
        exact .inr ⟨i, rfl, fun g => g2 ((goodT_step hg).1 g).1⟩
    · rw [show decide ((i : Int) < (x.length : Int)) = false from decide_eq_false (by omega)]
      refine .inl ⟨rfl, fun j' hj' v hv => ?_⟩
      have := (List.getElem?_eq_some_iff.1 hv).1
      omega
theorem isTable_same (x : List (List Int)) (n : Int) (hx : x.length ≤ 140737488351232) (hr : ∀ r ∈ x, r.length ≤ 140737488351232) : ∃ b, spec_IsTable.f x n = some b ∧ impl_IsTable.f x n = some b ∧ (b = true → x.length = 5 ∧ GoodT n x 0) := by
  unfold spec_IsTable.f impl_IsTable.f
  rw [in_eq, within_eq]
  simp only [Option.bind_some]
  by_cases h : InR 13 n
  · rw [decide_eq_true h]
    simp only [Bool.not_true, cond_false, cond_true]
    by_cases h5 : x.length = 5
    · rw [show ((x.length : Int) != 5) = false by simp [h5], show ((x.length : Int) == 5) = true by simp [h5]]
      simp only [cond_false, cond_true]
      unfold slices_ContainsFunc.f slices_IndexFunc.f
      have hs := spec_tab x n h5 Go.Pf.FUEL 0 (by omega) (by unfold FUEL; omega)
      have hi := impl_tab x n hx hr Go.Pf.FUEL 0 (by omega) (by unfold FUEL; omega)
      have e0 : ((0 : Nat) : Int) = 0 := rfl
      rw [e0] at hs hi
      rcases hs with ⟨g1, g2⟩ | ⟨g1, g2⟩
      · rcases hi with ⟨q1, q2⟩ | ⟨t, q1, q2⟩
        · rw [g1, q1]; exact ⟨true, rfl, rfl, fun _ => ⟨h5, g2⟩⟩
        · exact absurd g2 q2
      · rcases hi with ⟨q1, q2⟩ | ⟨t, q1, q2⟩
        · exact absurd q2 g2
        · rw [g1, q1]
          refine ⟨false, rfl, ?_, fun h => by cases h⟩
          show some (!decide ((t : Int) ≥ 0)) = some false
          rw [decide_eq_true (by omega)]; rfl
    · rw [show ((x.length : Int) != 5) = true by simp; omega, show ((x.length : Int) == 5) = false by simp; omega]
      exact ⟨false, rfl, rfl, fun h => by cases h⟩
  · rw [decide_eq_false h]
    exact ⟨false, rfl, rfl, fun h => by cases h⟩

theorem isFull_eq (x : List (List Int)) : impl_isFull.f x = impl_IsTable.f x 13 := by
  unfold impl_isFull.f
  cases impl_IsTable.f x 13 <;> rfl
theorem isStrain_eq (v : Int) : impl_isStrain.f v = some (decide (InR 4 v)) := by
  unfold impl_isStrain.f
  rw [within_eq]; rfl
theorem isSide_eq (v : Int) : impl_isSide.f v = some (decide (InR 1 v)) := by
  unfold impl_isSide.f
  rw [within_eq]; rfl
theorem side_same (x : List (List Int)) (a b : Int) (hx : x.length ≤ 140737488351232) (hr : ∀ r ∈ x, r.length ≤ 140737488351232) : ∃ v, spec_SideTricks.f x a b = some v ∧ impl_SideTricks.f x a b = some v := by
  obtain ⟨t, h1, h2, h3⟩ := isTable_same x 13 hx hr
  unfold spec_SideTricks.f impl_SideTricks.f
  rw [isFull_eq, isStrain_eq, isSide_eq, h1, h2, in_eq, in_eq]
  simp only [Option.bind_some]
  cases t
  · exact ⟨-1, rfl, rfl⟩
  obtain ⟨h5, hg⟩ := h3 rfl
  simp only [Bool.not_true, cond_false]
  by_cases ha : InR 4 a
  · rw [decide_eq_true ha]
    by_cases hb : InR 1 b
    · rw [decide_eq_true hb]
      simp only [Bool.not_true, cond_false]
      obtain ⟨i, rfl⟩ := Int.eq_ofNat_of_zero_le ha.1
      obtain ⟨j, rfl⟩ := Int.eq_ofNat_of_zero_le hb.1
      have hi : i < x.length := by have := ha.2; omega
      have hj : j ≤ 1 := by have := hb.2; omega
      have hrow := hg i (by omega) _ (getD_some (d := Ty.dflt (.sl (.int .i64))) hi)
      have e : IntKind.wrap IntKind.i64 ((j : Int) + 2) = ((j + 2 : Nat) : Int) := by rw [wrap_in (by omega) (by omega)]; omega
      rw [e, inb_nat, natOf_nat, inb_nat, inb_nat, decide_eq_true hi, hrow.1, decide_eq_true (show j < 4 by omega), decide_eq_true (show j + 2 < 4 by omega)]
      exact ⟨_, rfl, rfl⟩
    · rw [decide_eq_false hb]; exact ⟨-1, rfl, rfl⟩
  · rw [decide_eq_false ha]; exact ⟨-1, rfl, rfl⟩
theorem law (x : List (List Int)) (a b : Int) (h : x.length ≤ 140737488351232) (h2 : ∀ r ∈ x, r.length ≤ 140737488351232) : laws_FnExactSideTricks.f x a b = some true := by
  unfold laws_FnExactSideTricks.f
  rcases szInt64SS_cases x h h2 with g | ⟨m, g0, g, g1, g2⟩
  · rw [g]; rfl
  · rw [g]
    simp only [Option.bind_some]
    rw [decide_eq_false (show ¬ m < 0 by omega), cond_false, toInt64SS_id x (by omega) (fun r hr => by have := g2 r hr; omega)]
    obtain ⟨v, q1, q2⟩ := side_same x a b h h2
    simp only [Option.bind_some, q1, q2, eqInt64SS_self x h h2, bne_self_eq_false]
    rfl

end Go.Proofs.Ythjgofeekncogaa.fnExactSideTricks
