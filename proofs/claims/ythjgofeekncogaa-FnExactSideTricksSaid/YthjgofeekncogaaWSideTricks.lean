/- Proved here: the statement FnExactSideTricksSaid: the law returns true for all arguments, and the arguments read as before; conditions: none. -/
import Derived.Test.YthjgofeekncogaaLSideTricks
import Derived.OpenShut
import Derived.ProofKit
import Derived.SizedLaws
import Derived.WalkKit
set_option linter.all false
set_option linter.unusedSimpArgs false
set_option linter.unusedVariables false
namespace Go.Proofs.Ythjgofeekncogaa.fnExactSideTricks
open Go Go.Rex
theorem own : ownKnob Try.prog.godebug = none := by kernel_rfl
theorem laidOut : laidOutB Try.prog = true := by kernel_rfl
set_option maxRecDepth 100000 in
theorem lifted (os : Os) (started : os.Started) (H : Type) (enc : TypeId × Value → H) :
    ReturnsInHanded {} Try.checked os 4 .any (Rows.fnExactSideTricksSpec.pre6 enc Try.prog Try.f4 Rows.fnExactSideTricksRow.domain false) (Rows.fnExactSideTricksSpec.post enc Try.prog Try.f4 false true false false) :=
  law_lifted (C := Try.checked) own started (by kernel_rfl) Try.func4
    (ChangeSpec.witness6 (enc := enc) (C := Try.checked) false ⟨#[], #[.slice none 0 0, .int .i64 0, .int .i64 0], []⟩ 8 (by kernel_rfl) (by kernel_rfl) (by kernel_rfl) (by kernel_rfl))
    (tys := [.sl (.sl (.int .i64)), .int .i64, .int .i64]) (g := fun x => Go.Pf.laws_FnExactSideTricks.f x.1 x.2.1 x.2.2.1) (bt := 4) Go.Rex.S.laws_FnExactSideTricks.ok
    (fun x h => law x.1 x.2.1 x.2.2.1 h.1.1 (fun r hr => (h.1.2 r hr).1)) (by kernel_rfl) rfl rfl Try.underlying4 laidOut
    (fun ds h => match ds, h with
      | [d0, d1, d2], _ => ⟨rfl, rfl, rfl⟩)
theorem over : Rows.fnExactSideTricksRow.holds Try.pinned (OpenSpec.ofChange Rows.fnExactSideTricksSpec) :=
  OpenClaim.holds_of_wide 4 Try.f4 rfl rfl rfl rfl rfl rfl rfl ⟨rfl, rfl, rfl, rfl, rfl⟩ rfl rfl rfl rfl rfl (by kernel_rfl) Try.func4 (by kernel_rfl)
    (of_decide_eq_true (by kernel_rfl)) (by unfold Func.isWrapper; first | (rw [if_pos (by decide +kernel)]; kernel_rfl) | (rw [if_neg (by decide +kernel)]; exact ⟨rfl, rfl⟩))
    (fun os started H enc _ => lifted os started H enc)
theorem proved : Rows.FnExactSideTricksSaid := over
end Go.Proofs.Ythjgofeekncogaa.fnExactSideTricks
namespace Go.Proofs.Ythjgofeekncogaa
theorem fnExactSideTricks_holds : Rows.FnExactSideTricksSaid := fnExactSideTricks.proved
#print axioms fnExactSideTricks_holds
end Go.Proofs.Ythjgofeekncogaa
