/- Proved here: the statement FnExactIsNegationFormSaid: the law returns true for all arguments, and the arguments read as before; conditions: none. -/
import Derived.Test.YthjgofeekncogaaLIsNegationForm
import Derived.OpenShut
import Derived.ProofKit
import Derived.SizedLaws
import Derived.WalkKit
set_option linter.all false
set_option linter.unusedSimpArgs false
set_option linter.unusedVariables false
namespace Go.Proofs.Ythjgofeekncogaa.fnExactIsNegationForm
open Go Go.Rex
theorem own : ownKnob Try.prog.godebug = none := by kernel_rfl
theorem laidOut : laidOutB Try.prog = true := by kernel_rfl
set_option maxRecDepth 100000 in
theorem lifted (os : Os) (started : os.Started) (H : Type) (enc : TypeId × Value → H) :
    ReturnsInHanded {} Try.checked os 6 .any (Rows.fnExactIsNegationFormSpec.pre6 enc Try.prog Try.f6 Rows.fnExactIsNegationFormRow.domain false) (Rows.fnExactIsNegationFormSpec.post enc Try.prog Try.f6 false true false false) :=
  law_lifted (C := Try.checked) own started (by kernel_rfl) Try.func6
    (ChangeSpec.witness6 (enc := enc) (C := Try.checked) false ⟨#[], #[.slice none 0 0], []⟩ 8 (by kernel_rfl) (by kernel_rfl) (by kernel_rfl) (by kernel_rfl))
    (tys := [.sl (.pr (.int .i64) (.pr (.int .i64) (.pr (.int .i64) (.pr (.int .i64) (.nl)))))]) (g := fun x => Go.Pf.laws_FnExactIsNegationForm.f x.1) (bt := 4) Go.Rex.S.laws_FnExactIsNegationForm.ok
    (fun x h => law x.1 h.1.1) (by kernel_rfl) rfl rfl Try.underlying4 laidOut
    (fun ds h => match ds, h with
      | [d0], _ => ⟨rfl, rfl, rfl⟩)
theorem over : Rows.fnExactIsNegationFormRow.holds Try.pinned (OpenSpec.ofChange Rows.fnExactIsNegationFormSpec) :=
  OpenClaim.holds_of_wide 6 Try.f6 rfl rfl rfl rfl rfl rfl rfl ⟨rfl, rfl, rfl, rfl, rfl⟩ rfl rfl rfl rfl rfl (by kernel_rfl) Try.func6 (by kernel_rfl)
    (of_decide_eq_true (by kernel_rfl)) (by unfold Func.isWrapper; first | (rw [if_pos (by decide +kernel)]; kernel_rfl) | (rw [if_neg (by decide +kernel)]; exact ⟨rfl, rfl⟩))
    (fun os started H enc _ => lifted os started H enc)
theorem proved : Rows.FnExactIsNegationFormSaid := over
end Go.Proofs.Ythjgofeekncogaa.fnExactIsNegationForm
namespace Go.Proofs.Ythjgofeekncogaa
theorem fnExactIsNegationForm_holds : Rows.FnExactIsNegationFormSaid := fnExactIsNegationForm.proved
#print axioms fnExactIsNegationForm_holds
end Go.Proofs.Ythjgofeekncogaa
