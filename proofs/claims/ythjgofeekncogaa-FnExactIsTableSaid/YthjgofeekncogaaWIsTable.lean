/- Proved here: the statement FnExactIsTableSaid: the law returns true for all arguments, and the arguments read as before; conditions: none. -/
import Derived.Test.YthjgofeekncogaaLIsTable
import Derived.OpenShut
import Derived.ProofKit
import Derived.SizedLaws
import Derived.WalkKit
set_option linter.all false
set_option linter.unusedSimpArgs false
set_option linter.unusedVariables false
namespace Go.Proofs.Ythjgofeekncogaa.fnExactIsTable
open Go Go.Rex
theorem own : ownKnob Try.prog.godebug = none := by kernel_rfl
theorem laidOut : laidOutB Try.prog = true := by kernel_rfl
set_option maxRecDepth 100000 in
theorem lifted (os : Os) (started : os.Started) (H : Type) (enc : TypeId × Value → H) :
    ReturnsInHanded {} Try.checked os 3 .any (Rows.fnExactIsTableSpec.pre6 enc Try.prog Try.f3 Rows.fnExactIsTableRow.domain false) (Rows.fnExactIsTableSpec.post enc Try.prog Try.f3 false true false false) :=
  law_lifted (C := Try.checked) own started (by kernel_rfl) Try.func3
    (ChangeSpec.witness6 (enc := enc) (C := Try.checked) false ⟨#[], #[.slice none 0 0, .int .i64 0], []⟩ 8 (by kernel_rfl) (by kernel_rfl) (by kernel_rfl) (by kernel_rfl))
    (tys := [.sl (.sl (.int .i64)), .int .i64]) (g := fun x => Go.Pf.laws_FnExactIsTable.f x.1 x.2.1) (bt := 4) Go.Rex.S.laws_FnExactIsTable.ok
    (fun x h => law x.1 x.2.1 h.1.1 (fun r hr => (h.1.2 r hr).1)) (by kernel_rfl) rfl rfl Try.underlying4 laidOut
    (fun ds h => match ds, h with
      | [d0, d1], _ => ⟨rfl, rfl, rfl⟩)
theorem over : Rows.fnExactIsTableRow.holds Try.pinned (OpenSpec.ofChange Rows.fnExactIsTableSpec) :=
  OpenClaim.holds_of_wide 3 Try.f3 rfl rfl rfl rfl rfl rfl rfl ⟨rfl, rfl, rfl, rfl, rfl⟩ rfl rfl rfl rfl rfl (by kernel_rfl) Try.func3 (by kernel_rfl)
    (of_decide_eq_true (by kernel_rfl)) (by unfold Func.isWrapper; first | (rw [if_pos (by decide +kernel)]; kernel_rfl) | (rw [if_neg (by decide +kernel)]; exact ⟨rfl, rfl⟩))
    (fun os started H enc _ => lifted os started H enc)
theorem proved : Rows.FnExactIsTableSaid := over
end Go.Proofs.Ythjgofeekncogaa.fnExactIsTable
namespace Go.Proofs.Ythjgofeekncogaa
theorem fnExactIsTable_holds : Rows.FnExactIsTableSaid := fnExactIsTable.proved
#print axioms fnExactIsTable_holds
end Go.Proofs.Ythjgofeekncogaa
