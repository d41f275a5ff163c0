/- Proved here: what the functions that the law FnExactIsNegationForm reaches come to, as plain functions; conditions: none. -/
import Derived.Test.YthjgofeekncogaaRexC
import Derived.Test.YthjgofeekncogaaProg
set_option linter.all false
set_option linter.unusedSimpArgs false
set_option linter.unusedVariables false
set_option maxRecDepth 100000
namespace Go.Proofs.Try.R
end Go.Proofs.Try.R
open Go Go.Rex
/-- The types. -/
def Go.Rex.S.ti : Go.Rex.TI := [(2, ⟨.other, .int .i64, 8⟩),
  (3, ⟨.other, .int .i64, 8⟩),
  (4, ⟨.other, .bool, 1⟩),
  (5, ⟨.other, .int .u8, 1⟩),
  (6, ⟨.other, .int .u8, 1⟩),
  (7, ⟨.strct [(0, 2), (0, 3), (0, 4), (0, 6)], .pr (.int .i64) (.pr (.int .i64) (.pr (.bool) (.pr (.int .u8) (.nl)))), 24⟩),
  (8, ⟨.strct [(0, 2), (0, 3), (0, 4), (0, 6)], .pr (.int .i64) (.pr (.int .i64) (.pr (.bool) (.pr (.int .u8) (.nl)))), 24⟩),
  (9, ⟨.other, .str, 16⟩),
  (10, ⟨.other, .str, 16⟩),
  (11, ⟨.other, .str, 16⟩),
  (12, ⟨.other, .int .u64, 8⟩),
  (13, ⟨.strct [(0, 9), (0, 12)], .pr (.str) (.pr (.int .u64) (.nl)), 24⟩),
  (14, ⟨.strct [(0, 9), (0, 12)], .pr (.str) (.pr (.int .u64) (.nl)), 24⟩),
  (21, ⟨.other, .int .i32, 4⟩),
  (22, ⟨.slice 49, .sl (.sl (.int .i64)), 24⟩),
  (29, ⟨.slice 74, .sl (.pr (.int .i64) (.pr (.int .i64) (.pr (.int .i64) (.pr (.int .i64) (.nl))))), 24⟩),
  (32, ⟨.slice 72, .sl (.pr (.int .i64) (.pr (.int .i64) (.pr (.int .i64) (.pr (.int .i64) (.nl))))), 24⟩),
  (38, ⟨.slice 101, .sl (.pr (.sl (.pr (.int .i64) (.pr (.int .i64) (.nl)))) (.nl)), 24⟩),
  (39, ⟨.strct [(0, 2), (0, 2), (0, 38)], .pr (.int .i64) (.pr (.int .i64) (.pr (.sl (.pr (.sl (.pr (.int .i64) (.pr (.int .i64) (.nl)))) (.nl))) (.nl))), 40⟩),
  (40, ⟨.strct [(0, 2), (0, 2), (0, 38)], .pr (.int .i64) (.pr (.int .i64) (.pr (.sl (.pr (.sl (.pr (.int .i64) (.pr (.int .i64) (.nl)))) (.nl))) (.nl))), 40⟩),
  (43, ⟨.slice 82, .sl (.pr (.sl (.pr (.int .i64) (.pr (.int .i64) (.nl)))) (.nl)), 24⟩),
  (44, ⟨.strct [(0, 2), (0, 2), (0, 43)], .pr (.int .i64) (.pr (.int .i64) (.pr (.sl (.pr (.sl (.pr (.int .i64) (.pr (.int .i64) (.nl)))) (.nl))) (.nl))), 40⟩),
  (45, ⟨.strct [(0, 2), (0, 2), (0, 43)], .pr (.int .i64) (.pr (.int .i64) (.pr (.sl (.pr (.sl (.pr (.int .i64) (.pr (.int .i64) (.nl)))) (.nl))) (.nl))), 40⟩),
  (49, ⟨.slice 2, .sl (.int .i64), 24⟩),
  (59, ⟨.slice 32, .sl (.sl (.pr (.int .i64) (.pr (.int .i64) (.pr (.int .i64) (.pr (.int .i64) (.nl)))))), 24⟩),
  (71, ⟨.strct [(0, 2), (0, 2), (0, 2), (0, 2)], .pr (.int .i64) (.pr (.int .i64) (.pr (.int .i64) (.pr (.int .i64) (.nl)))), 32⟩),
  (72, ⟨.strct [(0, 2), (0, 2), (0, 2), (0, 2)], .pr (.int .i64) (.pr (.int .i64) (.pr (.int .i64) (.pr (.int .i64) (.nl)))), 32⟩),
  (74, ⟨.strct [(0, 2), (0, 2), (0, 2), (0, 2)], .pr (.int .i64) (.pr (.int .i64) (.pr (.int .i64) (.pr (.int .i64) (.nl)))), 32⟩),
  (80, ⟨.slice 84, .sl (.pr (.int .i64) (.pr (.int .i64) (.nl))), 24⟩),
  (81, ⟨.strct [(0, 80)], .pr (.sl (.pr (.int .i64) (.pr (.int .i64) (.nl)))) (.nl), 24⟩),
  (82, ⟨.strct [(0, 80)], .pr (.sl (.pr (.int .i64) (.pr (.int .i64) (.nl)))) (.nl), 24⟩),
  (83, ⟨.strct [(0, 2), (0, 2)], .pr (.int .i64) (.pr (.int .i64) (.nl)), 16⟩),
  (84, ⟨.strct [(0, 2), (0, 2)], .pr (.int .i64) (.pr (.int .i64) (.nl)), 16⟩),
  (99, ⟨.slice 118, .sl (.pr (.int .i64) (.pr (.int .i64) (.nl))), 24⟩),
  (100, ⟨.strct [(0, 99)], .pr (.sl (.pr (.int .i64) (.pr (.int .i64) (.nl)))) (.nl), 24⟩),
  (101, ⟨.strct [(0, 99)], .pr (.sl (.pr (.int .i64) (.pr (.int .i64) (.nl)))) (.nl), 24⟩),
  (105, ⟨.strct [(0, 2), (0, 2), (0, 2), (0, 2)], .pr (.int .i64) (.pr (.int .i64) (.pr (.int .i64) (.pr (.int .i64) (.nl)))), 32⟩),
  (106, ⟨.strct [(0, 2), (0, 2), (0, 2), (0, 2)], .pr (.int .i64) (.pr (.int .i64) (.pr (.int .i64) (.pr (.int .i64) (.nl)))), 32⟩),
  (118, ⟨.strct [(0, 2), (0, 2)], .pr (.int .i64) (.pr (.int .i64) (.nl)), 16⟩),
  (127, ⟨.other, .int .u32, 4⟩),
  (128, ⟨.other, .int .u8, 1⟩),
  (129, ⟨.other, .int .u8, 1⟩),
  (131, ⟨.other, .bx (.int .u8), 8⟩),
  (132, ⟨.other, .int .i32, 4⟩),
  (133, ⟨.other, .int .i32, 4⟩)]

def Go.Pf.FUEL : Nat := 18446744073709551616
theorem Go.Rex.S.tiOK : ∀ t row, lk S.ti t = some row → RowOK Go.Proofs.Try.prog t row := tiB_ok (by kernel_rfl)
theorem Go.Rex.S.mixedOK : Go.Proofs.Try.prog.follows .mixedOrders = true := by kernel_rfl
/-! laws_szTermS: function 22, [.rd (.sl (.pr (.int .i64) (.pr (.int .i64) (.pr (.int .i64) (.pr (.int .i64) (.nl)))))), .rd (.int .i64)] -/
def Go.Rex.S.laws_szTermS.G : Go.Rex.Cfg := (Go.Rex.Cfg.mk Go.Rex.S.ti [] : Go.Rex.Cfg)
def Go.Pf.laws_szTermS.f (a0 : List (Int × (Int × (Int × (Int × Unit))))) (a1 : Int) : Option Int :=
  bif Decidable.decide (Go.IntKind.wrap Go.IntKind.i64 (a1 - (↑(List.length a0) : Int)) < 0) then Option.some (-1)
  else Option.some (Go.IntKind.wrap Go.IntKind.i64 (a1 - (↑(List.length a0) : Int)))
@[reducible] def Go.Rex.S.laws_szTermS.s : Go.Rex.Summ := ⟨[.rd (.sl (.pr (.int .i64) (.pr (.int .i64) (.pr (.int .i64) (.pr (.int .i64) (.nl)))))), .rd (.int .i64)], .int .i64, .no, 1, Int, fun x => Go.Pf.laws_szTermS.f x.1 x.2.1, fun y => y, fun _ => ()⟩
@[reducible] def Go.Rex.S.laws_szTermS.T : List (Nat × Go.Rex.LSum) := []
theorem Go.Rex.S.laws_szTermS.GOK : CfgOK Go.Proofs.Try.prog Go.Rex.S.laws_szTermS.G := ⟨S.tiOK, TOK.fns (l := []) trivial, S.mixedOK⟩
theorem Go.Rex.S.laws_szTermS.from0 : From Go.Proofs.Try.prog Go.Rex.S.laws_szTermS.T (Go.Rex.bodyOf Go.Proofs.Try.f22) 0 := from_end (by kernel_rfl)
theorem Go.Rex.S.laws_szTermS.ok : SummC Go.Proofs.Try.prog 22 Go.Rex.S.laws_szTermS.s := summ_c Go.Rex.S.laws_szTermS.GOK Go.Proofs.Try.func22 (by kernel_rfl) (body := (Go.Rex.bodyOf Go.Proofs.Try.f22)) (by kernel_rfl) (from_all Go.Rex.S.laws_szTermS.from0) (rts := [.tm 4]) (by kernel_rfl) Go.Rex.S.laws_szTermS.s (by kernel_rfl) (of_decide_eq_true (by kernel_rfl)) rfl (fun p _ => p) (fun _ _ => ⟨rfl, rfl⟩) (fun x => by kernel_rfl)

/-! laws_toTerm: function 70, [.rd (.pr (.int .i64) (.pr (.int .i64) (.pr (.int .i64) (.pr (.int .i64) (.nl)))))] -/
def Go.Rex.S.laws_toTerm.G : Go.Rex.Cfg := (Go.Rex.Cfg.mk Go.Rex.S.ti [] : Go.Rex.Cfg)
def Go.Pf.laws_toTerm.f (a0 : (Int × (Int × (Int × (Int × Unit))))) : Option ((Int × (Int × (Int × (Int × Unit))))) :=
  Option.some
    (Prod.fst a0, Prod.fst (Prod.snd a0), Prod.fst (Prod.snd (Prod.snd a0)), Prod.fst (Prod.snd (Prod.snd (Prod.snd a0))),
      Prod.snd
        (Prod.snd
          (Prod.snd
            (Prod.snd
              (Go.Rex.Ty.dflt
                (Go.Rex.Ty.pr (Go.Rex.Ty.int Go.IntKind.i64)
                  (Go.Rex.Ty.pr (Go.Rex.Ty.int Go.IntKind.i64)
                    (Go.Rex.Ty.pr (Go.Rex.Ty.int Go.IntKind.i64)
                      (Go.Rex.Ty.pr (Go.Rex.Ty.int Go.IntKind.i64) Go.Rex.Ty.nl)))))))))
@[reducible] def Go.Rex.S.laws_toTerm.s : Go.Rex.Summ := ⟨[.rd (.pr (.int .i64) (.pr (.int .i64) (.pr (.int .i64) (.pr (.int .i64) (.nl)))))], .pr (.int .i64) (.pr (.int .i64) (.pr (.int .i64) (.pr (.int .i64) (.nl)))), .no, 1, (Int × (Int × (Int × (Int × Unit)))), fun x => Go.Pf.laws_toTerm.f x.1, fun y => y, fun _ => ()⟩
@[reducible] def Go.Rex.S.laws_toTerm.T : List (Nat × Go.Rex.LSum) := []
theorem Go.Rex.S.laws_toTerm.GOK : CfgOK Go.Proofs.Try.prog Go.Rex.S.laws_toTerm.G := ⟨S.tiOK, TOK.fns (l := []) trivial, S.mixedOK⟩
theorem Go.Rex.S.laws_toTerm.from0 : From Go.Proofs.Try.prog Go.Rex.S.laws_toTerm.T (Go.Rex.bodyOf Go.Proofs.Try.f70) 0 := from_end (by kernel_rfl)
theorem Go.Rex.S.laws_toTerm.ok : SummC Go.Proofs.Try.prog 70 Go.Rex.S.laws_toTerm.s := summ_c Go.Rex.S.laws_toTerm.GOK Go.Proofs.Try.func70 (by kernel_rfl) (body := (Go.Rex.bodyOf Go.Proofs.Try.f70)) (by kernel_rfl) (from_all Go.Rex.S.laws_toTerm.from0) (rts := [.ce 2 72]) (by kernel_rfl) Go.Rex.S.laws_toTerm.s (by kernel_rfl) (of_decide_eq_true (by kernel_rfl)) rfl (fun p _ => p) (fun _ _ => ⟨rfl, rfl⟩) (fun x => by kernel_rfl)

/-! laws_toTermS: function 24, [.rd (.sl (.pr (.int .i64) (.pr (.int .i64) (.pr (.int .i64) (.pr (.int .i64) (.nl))))))] -/
def Go.Rex.S.laws_toTermS.G : Go.Rex.Cfg := (Go.Rex.Cfg.mk Go.Rex.S.ti [(70, Go.Rex.S.laws_toTerm.s)] : Go.Rex.Cfg)
def Go.Pf.laws_toTermS.l0 : Nat → List (Int × (Int × (Int × (Int × Unit)))) → List (Int × (Int × (Int × (Int × Unit)))) → Int → Option (List (Int × (Int × (Int × (Int × Unit)))) × Unit)
  | 0, _, _, _ => none
  | k + 1, x0, x3, x4 =>
    bif Decidable.decide (x4 < (↑(List.length x0) : Int)) then
      bif Go.Rex.inb x4 (List.length x0) then
        Option.bind
          (Go.Pf.laws_toTerm.f
            (List.getD x0 (Go.Rex.natOf x4)
              (Go.Rex.Ty.dflt
                (Go.Rex.Ty.pr (Go.Rex.Ty.int Go.IntKind.i64)
                  (Go.Rex.Ty.pr (Go.Rex.Ty.int Go.IntKind.i64)
                    (Go.Rex.Ty.pr (Go.Rex.Ty.int Go.IntKind.i64)
                      (Go.Rex.Ty.pr (Go.Rex.Ty.int Go.IntKind.i64) Go.Rex.Ty.nl)))))))
          fun y =>
          bif Go.Rex.inb x4 (List.length x3) then
            Go.Pf.laws_toTermS.l0 k x0 (List.set x3 (Go.Rex.natOf x4) y) (Go.IntKind.wrap Go.IntKind.i64 (x4 + 1))
          else Option.none
      else Option.none
    else Option.some (x3, ())
def Go.Rex.S.laws_toTermS.L0 : Go.Rex.LSum := ⟨⟨23, []⟩, [.dt 0 (.sl (.pr (.int .i64) (.pr (.int .i64) (.pr (.int .i64) (.pr (.int .i64) (.nl)))))), .own 3 200003 [] (.sl (.pr (.int .i64) (.pr (.int .i64) (.pr (.int .i64) (.pr (.int .i64) (.nl)))))) (.sl (.no)), .dt 4 (.int .i64)], [(1, [.own 3 200003 [] (.sl (.pr (.int .i64) (.pr (.int .i64) (.pr (.int .i64) (.pr (.int .i64) (.nl)))))) (.sl (.no))])], fun x => Go.Pf.laws_toTermS.l0 Go.Pf.FUEL x.1 x.2.1 x.2.2.1⟩
def Go.Pf.laws_toTermS.f (a0 : List (Int × (Int × (Int × (Int × Unit))))) : Option (List (Int × (Int × (Int × (Int × Unit))))) :=
  bif Go.Rex.mkOK (↑(List.length a0) : Int) (↑(List.length a0) : Int) then
    Option.bind
      (Go.Pf.laws_toTermS.l0 Go.Pf.FUEL a0
        (List.replicate (Int.toNat (↑(List.length a0) : Int))
          (Go.Rex.Ty.dflt
            (Go.Rex.Ty.pr (Go.Rex.Ty.int Go.IntKind.i64)
              (Go.Rex.Ty.pr (Go.Rex.Ty.int Go.IntKind.i64)
                (Go.Rex.Ty.pr (Go.Rex.Ty.int Go.IntKind.i64)
                  (Go.Rex.Ty.pr (Go.Rex.Ty.int Go.IntKind.i64) Go.Rex.Ty.nl))))))
        0)
      fun out => Option.some (Prod.fst out)
  else Option.none
@[reducible] def Go.Rex.S.laws_toTermS.s : Go.Rex.Summ := ⟨[.rd (.sl (.pr (.int .i64) (.pr (.int .i64) (.pr (.int .i64) (.pr (.int .i64) (.nl))))))], .sl (.pr (.int .i64) (.pr (.int .i64) (.pr (.int .i64) (.pr (.int .i64) (.nl))))), .sl (.no), 1, List (Int × (Int × (Int × (Int × Unit)))), fun x => Go.Pf.laws_toTermS.f x.1, fun y => y, fun _ => ()⟩
@[reducible] def Go.Rex.S.laws_toTermS.T : List (Nat × Go.Rex.LSum) := [(0, Go.Rex.S.laws_toTermS.L0)]
theorem Go.Rex.S.laws_toTermS.GOK : CfgOK Go.Proofs.Try.prog Go.Rex.S.laws_toTermS.G := ⟨S.tiOK, TOK.fns (l := [(70, Go.Rex.S.laws_toTerm.s)]) ⟨Go.Rex.S.laws_toTerm.ok.ok, trivial⟩, S.mixedOK⟩
theorem Go.Rex.S.laws_toTermS.from1 : From Go.Proofs.Try.prog Go.Rex.S.laws_toTermS.T (Go.Rex.bodyOf Go.Proofs.Try.f24) 1 := from_end (by kernel_rfl)
theorem Go.Rex.S.laws_toTermS.from0 : From Go.Proofs.Try.prog Go.Rex.S.laws_toTermS.T (Go.Rex.bodyOf Go.Proofs.Try.f24) 0 := from_step Go.Rex.S.laws_toTermS.GOK Go.Rex.S.laws_toTermS.from1 Go.Rex.S.laws_toTermS.L0 rfl (fun k x => Go.Pf.laws_toTermS.l0 k x.1 x.2.1 x.2.2.1) (fun _ => rfl) (fun k x => by kernel_rfl) Go.Pf.FUEL (fun _ => rfl)
theorem Go.Rex.S.laws_toTermS.ok : SummC Go.Proofs.Try.prog 24 Go.Rex.S.laws_toTermS.s := summ_c Go.Rex.S.laws_toTermS.GOK Go.Proofs.Try.func24 (by kernel_rfl) (body := (Go.Rex.bodyOf Go.Proofs.Try.f24)) (by kernel_rfl) (from_all Go.Rex.S.laws_toTermS.from0) (rts := [.tm 2]) (by kernel_rfl) Go.Rex.S.laws_toTermS.s (by kernel_rfl) (of_decide_eq_true (by kernel_rfl)) rfl (fun p _ => p) (fun _ _ => ⟨rfl, rfl⟩) (fun x => by kernel_rfl)

/-! spec_l24Needs: function 92, [.rd (.pr (.int .i64) (.pr (.int .i64) (.pr (.int .i64) (.pr (.int .i64) (.nl)))))] -/
def Go.Rex.S.spec_l24Needs.G : Go.Rex.Cfg := (Go.Rex.Cfg.mk Go.Rex.S.ti [] : Go.Rex.Cfg)
def Go.Pf.spec_l24Needs.f (a0 : (Int × (Int × (Int × (Int × Unit))))) : Option Int :=
  bif Prod.fst a0 == 6 then Option.some 1
  else bif Prod.fst a0 == 7 then Option.some 2 else bif Prod.fst a0 == 8 then Option.some 2 else Option.some 0
@[reducible] def Go.Rex.S.spec_l24Needs.s : Go.Rex.Summ := ⟨[.rd (.pr (.int .i64) (.pr (.int .i64) (.pr (.int .i64) (.pr (.int .i64) (.nl)))))], .int .i64, .no, 1, Int, fun x => Go.Pf.spec_l24Needs.f x.1, fun y => y, fun _ => ()⟩
@[reducible] def Go.Rex.S.spec_l24Needs.T : List (Nat × Go.Rex.LSum) := []
theorem Go.Rex.S.spec_l24Needs.GOK : CfgOK Go.Proofs.Try.prog Go.Rex.S.spec_l24Needs.G := ⟨S.tiOK, TOK.fns (l := []) trivial, S.mixedOK⟩
theorem Go.Rex.S.spec_l24Needs.from0 : From Go.Proofs.Try.prog Go.Rex.S.spec_l24Needs.T (Go.Rex.bodyOf Go.Proofs.Try.f92) 0 := from_end (by kernel_rfl)
theorem Go.Rex.S.spec_l24Needs.ok : SummC Go.Proofs.Try.prog 92 Go.Rex.S.spec_l24Needs.s := summ_c Go.Rex.S.spec_l24Needs.GOK Go.Proofs.Try.func92 (by kernel_rfl) (body := (Go.Rex.bodyOf Go.Proofs.Try.f92)) (by kernel_rfl) (from_all Go.Rex.S.spec_l24Needs.from0) (rts := [.tm 2]) (by kernel_rfl) Go.Rex.S.spec_l24Needs.s (by kernel_rfl) (of_decide_eq_true (by kernel_rfl)) rfl (fun p _ => p) (fun _ _ => ⟨rfl, rfl⟩) (fun x => by kernel_rfl)

/-! spec_l24Range: function 114, [.rd (.pr (.int .i64) (.pr (.int .i64) (.pr (.int .i64) (.pr (.int .i64) (.nl))))), .rd (.int .i64)] -/
def Go.Rex.S.spec_l24Range.G : Go.Rex.Cfg := (Go.Rex.Cfg.mk Go.Rex.S.ti [] : Go.Rex.Cfg)
def Go.Pf.spec_l24Range.f (a0 : (Int × (Int × (Int × (Int × Unit))))) (a1 : Int) : Option Bool :=
  bif Decidable.decide (Prod.fst (Prod.snd (Prod.snd a0)) ≥ 0) then
    bif Decidable.decide (Prod.fst (Prod.snd (Prod.snd a0)) ≤ Prod.fst (Prod.snd (Prod.snd (Prod.snd a0)))) then
      Option.some (Decidable.decide (Prod.fst (Prod.snd (Prod.snd (Prod.snd a0))) ≤ a1))
    else Option.some Bool.false
  else Option.some Bool.false
@[reducible] def Go.Rex.S.spec_l24Range.s : Go.Rex.Summ := ⟨[.rd (.pr (.int .i64) (.pr (.int .i64) (.pr (.int .i64) (.pr (.int .i64) (.nl))))), .rd (.int .i64)], .bool, .no, 1, Bool, fun x => Go.Pf.spec_l24Range.f x.1 x.2.1, fun y => y, fun _ => ()⟩
@[reducible] def Go.Rex.S.spec_l24Range.T : List (Nat × Go.Rex.LSum) := []
theorem Go.Rex.S.spec_l24Range.GOK : CfgOK Go.Proofs.Try.prog Go.Rex.S.spec_l24Range.G := ⟨S.tiOK, TOK.fns (l := []) trivial, S.mixedOK⟩
theorem Go.Rex.S.spec_l24Range.from0 : From Go.Proofs.Try.prog Go.Rex.S.spec_l24Range.T (Go.Rex.bodyOf Go.Proofs.Try.f114) 0 := from_end (by kernel_rfl)
theorem Go.Rex.S.spec_l24Range.ok : SummC Go.Proofs.Try.prog 114 Go.Rex.S.spec_l24Range.s := summ_c Go.Rex.S.spec_l24Range.GOK Go.Proofs.Try.func114 (by kernel_rfl) (body := (Go.Rex.bodyOf Go.Proofs.Try.f114)) (by kernel_rfl) (from_all Go.Rex.S.spec_l24Range.from0) (rts := [.tm 4]) (by kernel_rfl) Go.Rex.S.spec_l24Range.s (by kernel_rfl) (of_decide_eq_true (by kernel_rfl)) rfl (fun p _ => p) (fun _ _ => ⟨rfl, rfl⟩) (fun x => by kernel_rfl)

/-! spec_l01In: function 115, [.rd (.int .i64), .rd (.int .i64), .rd (.int .i64)] -/
def Go.Rex.S.spec_l01In.G : Go.Rex.Cfg := (Go.Rex.Cfg.mk Go.Rex.S.ti [] : Go.Rex.Cfg)
def Go.Pf.spec_l01In.f (a0 : Int) (a1 : Int) (a2 : Int) : Option Bool :=
  bif Decidable.decide (a0 ≥ a1) then Option.some (Decidable.decide (a0 ≤ a2)) else Option.some Bool.false
@[reducible] def Go.Rex.S.spec_l01In.s : Go.Rex.Summ := ⟨[.rd (.int .i64), .rd (.int .i64), .rd (.int .i64)], .bool, .no, 1, Bool, fun x => Go.Pf.spec_l01In.f x.1 x.2.1 x.2.2.1, fun y => y, fun _ => ()⟩
@[reducible] def Go.Rex.S.spec_l01In.T : List (Nat × Go.Rex.LSum) := []
theorem Go.Rex.S.spec_l01In.GOK : CfgOK Go.Proofs.Try.prog Go.Rex.S.spec_l01In.G := ⟨S.tiOK, TOK.fns (l := []) trivial, S.mixedOK⟩
theorem Go.Rex.S.spec_l01In.from0 : From Go.Proofs.Try.prog Go.Rex.S.spec_l01In.T (Go.Rex.bodyOf Go.Proofs.Try.f115) 0 := from_end (by kernel_rfl)
theorem Go.Rex.S.spec_l01In.ok : SummC Go.Proofs.Try.prog 115 Go.Rex.S.spec_l01In.s := summ_c Go.Rex.S.spec_l01In.GOK Go.Proofs.Try.func115 (by kernel_rfl) (body := (Go.Rex.bodyOf Go.Proofs.Try.f115)) (by kernel_rfl) (from_all Go.Rex.S.spec_l01In.from0) (rts := [.tm 6]) (by kernel_rfl) Go.Rex.S.spec_l01In.s (by kernel_rfl) (of_decide_eq_true (by kernel_rfl)) rfl (fun p _ => p) (fun _ _ => ⟨rfl, rfl⟩) (fun x => by kernel_rfl)

/-! spec_l24Term: function 98, [.rd (.pr (.int .i64) (.pr (.int .i64) (.pr (.int .i64) (.pr (.int .i64) (.nl)))))] -/
def Go.Rex.S.spec_l24Term.G : Go.Rex.Cfg := (Go.Rex.Cfg.mk Go.Rex.S.ti [(114, Go.Rex.S.spec_l24Range.s), (115, Go.Rex.S.spec_l01In.s)] : Go.Rex.Cfg)
def Go.Pf.spec_l24Term.f (a0 : (Int × (Int × (Int × (Int × Unit))))) : Option Bool :=
  bif Prod.fst a0 == 0 then
    bif Prod.fst (Prod.snd a0) == 0 then
      bif Prod.fst (Prod.snd (Prod.snd a0)) == 0 then Option.some (Prod.fst (Prod.snd (Prod.snd (Prod.snd a0))) == 0)
      else Option.some Bool.false
    else Option.some Bool.false
  else
    bif Prod.fst a0 == 6 then
      bif Prod.fst (Prod.snd a0) == 0 then
        bif Prod.fst (Prod.snd (Prod.snd a0)) == 0 then Option.some (Prod.fst (Prod.snd (Prod.snd (Prod.snd a0))) == 0)
        else Option.some Bool.false
      else Option.some Bool.false
    else
      bif Prod.fst a0 == 7 then
        bif Prod.fst (Prod.snd a0) == 0 then
          bif Prod.fst (Prod.snd (Prod.snd a0)) == 0 then Option.some (Prod.fst (Prod.snd (Prod.snd (Prod.snd a0))) == 0)
          else Option.some Bool.false
        else Option.some Bool.false
      else
        bif Prod.fst a0 == 8 then
          bif Prod.fst (Prod.snd a0) == 0 then
            bif Prod.fst (Prod.snd (Prod.snd a0)) == 0 then
              Option.some (Prod.fst (Prod.snd (Prod.snd (Prod.snd a0))) == 0)
            else Option.some Bool.false
          else Option.some Bool.false
        else
          bif Prod.fst a0 == 1 then
            bif Prod.fst (Prod.snd a0) == 0 then Option.bind (Go.Pf.spec_l24Range.f a0 40) fun y => Option.some y
            else Option.some Bool.false
          else
            bif Prod.fst a0 == 2 then
              bif Prod.fst (Prod.snd a0) == 0 then Option.bind (Go.Pf.spec_l24Range.f a0 12) fun y => Option.some y
              else Option.some Bool.false
            else
              bif Prod.fst a0 == 3 then
                Option.bind (Go.Pf.spec_l01In.f (Prod.fst (Prod.snd a0)) 0 3) fun y =>
                  bif y then Option.bind (Go.Pf.spec_l24Range.f a0 13) fun y => Option.some y else Option.some Bool.false
              else
                bif Prod.fst a0 == 4 then
                  Option.bind (Go.Pf.spec_l01In.f (Prod.fst (Prod.snd a0)) 0 3) fun y =>
                    bif y then Option.bind (Go.Pf.spec_l24Range.f a0 3) fun y => Option.some y else Option.some Bool.false
                else
                  bif Prod.fst a0 == 5 then
                    Option.bind (Go.Pf.spec_l01In.f (Prod.fst (Prod.snd a0)) 0 3) fun y =>
                      bif y then
                        Option.bind (Go.Pf.spec_l01In.f (Prod.fst (Prod.snd (Prod.snd a0))) 0 12) fun y =>
                          bif y then Option.some (Prod.fst (Prod.snd (Prod.snd (Prod.snd a0))) == 0)
                          else Option.some Bool.false
                      else Option.some Bool.false
                  else Option.some Bool.false
@[reducible] def Go.Rex.S.spec_l24Term.s : Go.Rex.Summ := ⟨[.rd (.pr (.int .i64) (.pr (.int .i64) (.pr (.int .i64) (.pr (.int .i64) (.nl)))))], .bool, .no, 1, Bool, fun x => Go.Pf.spec_l24Term.f x.1, fun y => y, fun _ => ()⟩
@[reducible] def Go.Rex.S.spec_l24Term.T : List (Nat × Go.Rex.LSum) := []
theorem Go.Rex.S.spec_l24Term.GOK : CfgOK Go.Proofs.Try.prog Go.Rex.S.spec_l24Term.G := ⟨S.tiOK, TOK.fns (l := [(114, Go.Rex.S.spec_l24Range.s), (115, Go.Rex.S.spec_l01In.s)]) ⟨Go.Rex.S.spec_l24Range.ok.ok, Go.Rex.S.spec_l01In.ok.ok, trivial⟩, S.mixedOK⟩
theorem Go.Rex.S.spec_l24Term.from0 : From Go.Proofs.Try.prog Go.Rex.S.spec_l24Term.T (Go.Rex.bodyOf Go.Proofs.Try.f98) 0 := from_end (by kernel_rfl)
theorem Go.Rex.S.spec_l24Term.ok : SummC Go.Proofs.Try.prog 98 Go.Rex.S.spec_l24Term.s := summ_c Go.Rex.S.spec_l24Term.GOK Go.Proofs.Try.func98 (by kernel_rfl) (body := (Go.Rex.bodyOf Go.Proofs.Try.f98)) (by kernel_rfl) (from_all Go.Rex.S.spec_l24Term.from0) (rts := [.tm 2]) (by kernel_rfl) Go.Rex.S.spec_l24Term.s (by kernel_rfl) (of_decide_eq_true (by kernel_rfl)) rfl (fun p _ => p) (fun _ _ => ⟨rfl, rfl⟩) (fun x => by kernel_rfl)

/-! spec_l24Valid: function 69, [.rd (.sl (.pr (.int .i64) (.pr (.int .i64) (.pr (.int .i64) (.pr (.int .i64) (.nl))))))] -/
def Go.Rex.S.spec_l24Valid.G : Go.Rex.Cfg := (Go.Rex.Cfg.mk Go.Rex.S.ti [(92, Go.Rex.S.spec_l24Needs.s), (98, Go.Rex.S.spec_l24Term.s)] : Go.Rex.Cfg)
def Go.Pf.spec_l24Valid.l0 : Nat → List (Int × (Int × (Int × (Int × Unit)))) → Int → Int → Option ((Bool × Unit) ⊕ (Int × Unit))
  | 0, _, _, _ => none
  | k + 1, x0, x3, x4 =>
    bif Decidable.decide (x4 < (↑(List.length x0) : Int)) then
      bif Go.Rex.inb x4 (List.length x0) then
        Option.bind
          (Go.Pf.spec_l24Needs.f
            (List.getD x0 (Go.Rex.natOf x4)
              (Go.Rex.Ty.dflt
                (Go.Rex.Ty.pr (Go.Rex.Ty.int Go.IntKind.i64)
                  (Go.Rex.Ty.pr (Go.Rex.Ty.int Go.IntKind.i64)
                    (Go.Rex.Ty.pr (Go.Rex.Ty.int Go.IntKind.i64)
                      (Go.Rex.Ty.pr (Go.Rex.Ty.int Go.IntKind.i64) Go.Rex.Ty.nl)))))))
          fun y =>
          bif Go.Rex.inb x4 (List.length x0) then
            Option.bind
              (Go.Pf.spec_l24Term.f
                (List.getD x0 (Go.Rex.natOf x4)
                  (Go.Rex.Ty.dflt
                    (Go.Rex.Ty.pr (Go.Rex.Ty.int Go.IntKind.i64)
                      (Go.Rex.Ty.pr (Go.Rex.Ty.int Go.IntKind.i64)
                        (Go.Rex.Ty.pr (Go.Rex.Ty.int Go.IntKind.i64)
                          (Go.Rex.Ty.pr (Go.Rex.Ty.int Go.IntKind.i64) Go.Rex.Ty.nl)))))))
              fun y_1 =>
              bif !y_1 then Option.some (Sum.inl (Bool.false, ()))
              else
                bif Decidable.decide (x3 < y) then Option.some (Sum.inl (Bool.false, ()))
                else
                  Go.Pf.spec_l24Valid.l0 k x0 (Go.IntKind.wrap Go.IntKind.i64 (x3 + Go.IntKind.wrap Go.IntKind.i64 (1 - y)))
                    (Go.IntKind.wrap Go.IntKind.i64 (x4 + 1))
          else Option.none
      else Option.none
    else Option.some (Sum.inr (x3, ()))
def Go.Rex.S.spec_l24Valid.L0 : Go.Rex.LSum := ⟨⟨37, []⟩, [.dt 0 (.sl (.pr (.int .i64) (.pr (.int .i64) (.pr (.int .i64) (.pr (.int .i64) (.nl)))))), .dt 3 (.int .i64), .dt 4 (.int .i64)], [(0, [.dt 2 (.bool)]), (1, [.dt 3 (.int .i64)])], fun x => Go.Pf.spec_l24Valid.l0 Go.Pf.FUEL x.1 x.2.1 x.2.2.1⟩
def Go.Pf.spec_l24Valid.f (a0 : List (Int × (Int × (Int × (Int × Unit))))) : Option Bool :=
  bif Decidable.decide ((↑(List.length a0) : Int) > 24) then Option.some Bool.false
  else
    Option.bind (Go.Pf.spec_l24Valid.l0 Go.Pf.FUEL a0 0 0) fun out =>
      match out with
      | Sum.inl a => Option.some (Prod.fst a)
      | Sum.inr b => Option.some (Prod.fst b == 1)
@[reducible] def Go.Rex.S.spec_l24Valid.s : Go.Rex.Summ := ⟨[.rd (.sl (.pr (.int .i64) (.pr (.int .i64) (.pr (.int .i64) (.pr (.int .i64) (.nl))))))], .bool, .no, 1, Bool, fun x => Go.Pf.spec_l24Valid.f x.1, fun y => y, fun _ => ()⟩
@[reducible] def Go.Rex.S.spec_l24Valid.T : List (Nat × Go.Rex.LSum) := [(0, Go.Rex.S.spec_l24Valid.L0)]
theorem Go.Rex.S.spec_l24Valid.GOK : CfgOK Go.Proofs.Try.prog Go.Rex.S.spec_l24Valid.G := ⟨S.tiOK, TOK.fns (l := [(92, Go.Rex.S.spec_l24Needs.s), (98, Go.Rex.S.spec_l24Term.s)]) ⟨Go.Rex.S.spec_l24Needs.ok.ok, Go.Rex.S.spec_l24Term.ok.ok, trivial⟩, S.mixedOK⟩
theorem Go.Rex.S.spec_l24Valid.from1 : From Go.Proofs.Try.prog Go.Rex.S.spec_l24Valid.T (Go.Rex.bodyOf Go.Proofs.Try.f69) 1 := from_end (by kernel_rfl)
theorem Go.Rex.S.spec_l24Valid.from0 : From Go.Proofs.Try.prog Go.Rex.S.spec_l24Valid.T (Go.Rex.bodyOf Go.Proofs.Try.f69) 0 := from_step Go.Rex.S.spec_l24Valid.GOK Go.Rex.S.spec_l24Valid.from1 Go.Rex.S.spec_l24Valid.L0 rfl (fun k x => Go.Pf.spec_l24Valid.l0 k x.1 x.2.1 x.2.2.1) (fun _ => rfl) (fun k x => by kernel_rfl) Go.Pf.FUEL (fun _ => rfl)
theorem Go.Rex.S.spec_l24Valid.ok : SummC Go.Proofs.Try.prog 69 Go.Rex.S.spec_l24Valid.s := summ_c Go.Rex.S.spec_l24Valid.GOK Go.Proofs.Try.func69 (by kernel_rfl) (body := (Go.Rex.bodyOf Go.Proofs.Try.f69)) (by kernel_rfl) (from_all Go.Rex.S.spec_l24Valid.from0) (rts := [.tm 2]) (by kernel_rfl) Go.Rex.S.spec_l24Valid.s (by kernel_rfl) (of_decide_eq_true (by kernel_rfl)) rfl (fun p _ => p) (fun _ _ => ⟨rfl, rfl⟩) (fun x => by kernel_rfl)

/-! spec_IsNegationForm: function 27, [.rd (.sl (.pr (.int .i64) (.pr (.int .i64) (.pr (.int .i64) (.pr (.int .i64) (.nl))))))] -/
def Go.Rex.S.spec_IsNegationForm.G : Go.Rex.Cfg := (Go.Rex.Cfg.mk Go.Rex.S.ti [(69, Go.Rex.S.spec_l24Valid.s)] : Go.Rex.Cfg)
def Go.Pf.spec_IsNegationForm.l0 : Nat → List (Int × (Int × (Int × (Int × Unit)))) → Int → Option ((Bool × Unit) ⊕ (List (Int × (Int × (Int × (Int × Unit)))) × Unit))
  | 0, _, _ => none
  | k + 1, x0, x3 =>
    bif Decidable.decide (x3 < (↑(List.length x0) : Int)) then
      bif Go.Rex.inb x3 (List.length x0) then
        bif
            Prod.fst
                (List.getD x0 (Go.Rex.natOf x3)
                  (Go.Rex.Ty.dflt
                    (Go.Rex.Ty.pr (Go.Rex.Ty.int Go.IntKind.i64)
                      (Go.Rex.Ty.pr (Go.Rex.Ty.int Go.IntKind.i64)
                        (Go.Rex.Ty.pr (Go.Rex.Ty.int Go.IntKind.i64)
                          (Go.Rex.Ty.pr (Go.Rex.Ty.int Go.IntKind.i64) Go.Rex.Ty.nl)))))) ==
              6 then
          bif Decidable.decide (x3 > 0) then
            bif Go.Rex.inb (Go.IntKind.wrap Go.IntKind.i64 (x3 - 1)) (List.length x0) then
              bif
                  Decidable.decide
                    (Prod.fst
                        (List.getD x0 (Go.Rex.natOf (Go.IntKind.wrap Go.IntKind.i64 (x3 - 1)))
                          (Go.Rex.Ty.dflt
                            (Go.Rex.Ty.pr (Go.Rex.Ty.int Go.IntKind.i64)
                              (Go.Rex.Ty.pr (Go.Rex.Ty.int Go.IntKind.i64)
                                (Go.Rex.Ty.pr (Go.Rex.Ty.int Go.IntKind.i64)
                                  (Go.Rex.Ty.pr (Go.Rex.Ty.int Go.IntKind.i64) Go.Rex.Ty.nl)))))) ≥
                      6) then
                Option.some (Sum.inl (Bool.false, ()))
              else Go.Pf.spec_IsNegationForm.l0 k x0 (Go.IntKind.wrap Go.IntKind.i64 (x3 + 1))
            else Option.none
          else Go.Pf.spec_IsNegationForm.l0 k x0 (Go.IntKind.wrap Go.IntKind.i64 (x3 + 1))
        else Go.Pf.spec_IsNegationForm.l0 k x0 (Go.IntKind.wrap Go.IntKind.i64 (x3 + 1))
      else Option.none
    else Option.some (Sum.inr (x0, ()))
def Go.Rex.S.spec_IsNegationForm.L0 : Go.Rex.LSum := ⟨⟨31, []⟩, [.dt 0 (.sl (.pr (.int .i64) (.pr (.int .i64) (.pr (.int .i64) (.pr (.int .i64) (.nl)))))), .dt 3 (.int .i64)], [(0, [.dt 2 (.bool)]), (1, [.dt 0 (.sl (.pr (.int .i64) (.pr (.int .i64) (.pr (.int .i64) (.pr (.int .i64) (.nl))))))])], fun x => Go.Pf.spec_IsNegationForm.l0 Go.Pf.FUEL x.1 x.2.1⟩
def Go.Pf.spec_IsNegationForm.f (a0 : List (Int × (Int × (Int × (Int × Unit))))) : Option Bool :=
  Option.bind (Go.Pf.spec_IsNegationForm.l0 Go.Pf.FUEL a0 0) fun out =>
    match out with
    | Sum.inl a => Option.some (Prod.fst a)
    | Sum.inr b => Option.bind (Go.Pf.spec_l24Valid.f (Prod.fst b)) fun y => Option.some y
@[reducible] def Go.Rex.S.spec_IsNegationForm.s : Go.Rex.Summ := ⟨[.rd (.sl (.pr (.int .i64) (.pr (.int .i64) (.pr (.int .i64) (.pr (.int .i64) (.nl))))))], .bool, .no, 1, Bool, fun x => Go.Pf.spec_IsNegationForm.f x.1, fun y => y, fun _ => ()⟩
@[reducible] def Go.Rex.S.spec_IsNegationForm.T : List (Nat × Go.Rex.LSum) := [(0, Go.Rex.S.spec_IsNegationForm.L0)]
theorem Go.Rex.S.spec_IsNegationForm.GOK : CfgOK Go.Proofs.Try.prog Go.Rex.S.spec_IsNegationForm.G := ⟨S.tiOK, TOK.fns (l := [(69, Go.Rex.S.spec_l24Valid.s)]) ⟨Go.Rex.S.spec_l24Valid.ok.ok, trivial⟩, S.mixedOK⟩
theorem Go.Rex.S.spec_IsNegationForm.from1 : From Go.Proofs.Try.prog Go.Rex.S.spec_IsNegationForm.T (Go.Rex.bodyOf Go.Proofs.Try.f27) 1 := from_end (by kernel_rfl)
theorem Go.Rex.S.spec_IsNegationForm.from0 : From Go.Proofs.Try.prog Go.Rex.S.spec_IsNegationForm.T (Go.Rex.bodyOf Go.Proofs.Try.f27) 0 := from_step Go.Rex.S.spec_IsNegationForm.GOK Go.Rex.S.spec_IsNegationForm.from1 Go.Rex.S.spec_IsNegationForm.L0 rfl (fun k x => Go.Pf.spec_IsNegationForm.l0 k x.1 x.2.1) (fun _ => rfl) (fun k x => by kernel_rfl) Go.Pf.FUEL (fun _ => rfl)
theorem Go.Rex.S.spec_IsNegationForm.ok : SummC Go.Proofs.Try.prog 27 Go.Rex.S.spec_IsNegationForm.s := summ_c Go.Rex.S.spec_IsNegationForm.GOK Go.Proofs.Try.func27 (by kernel_rfl) (body := (Go.Rex.bodyOf Go.Proofs.Try.f27)) (by kernel_rfl) (from_all Go.Rex.S.spec_IsNegationForm.from0) (rts := [.tm 2]) (by kernel_rfl) Go.Rex.S.spec_IsNegationForm.s (by kernel_rfl) (of_decide_eq_true (by kernel_rfl)) rfl (fun p _ => p) (fun _ _ => ⟨rfl, rfl⟩) (fun x => by kernel_rfl)

/-! impl_within: function 61, [.rd (.int .i64), .rd (.int .i64), .rd (.int .i64)] -/
def Go.Rex.S.impl_within.G : Go.Rex.Cfg := (Go.Rex.Cfg.mk Go.Rex.S.ti [] : Go.Rex.Cfg)
def Go.Pf.impl_within.f (a0 : Int) (a1 : Int) (a2 : Int) : Option Bool :=
  bif Decidable.decide (a1 ≤ a0) then Option.some (Decidable.decide (a0 ≤ a2)) else Option.some Bool.false
@[reducible] def Go.Rex.S.impl_within.s : Go.Rex.Summ := ⟨[.rd (.int .i64), .rd (.int .i64), .rd (.int .i64)], .bool, .no, 1, Bool, fun x => Go.Pf.impl_within.f x.1 x.2.1 x.2.2.1, fun y => y, fun _ => ()⟩
@[reducible] def Go.Rex.S.impl_within.T : List (Nat × Go.Rex.LSum) := []
theorem Go.Rex.S.impl_within.GOK : CfgOK Go.Proofs.Try.prog Go.Rex.S.impl_within.G := ⟨S.tiOK, TOK.fns (l := []) trivial, S.mixedOK⟩
theorem Go.Rex.S.impl_within.from0 : From Go.Proofs.Try.prog Go.Rex.S.impl_within.T (Go.Rex.bodyOf Go.Proofs.Try.f61) 0 := from_end (by kernel_rfl)
theorem Go.Rex.S.impl_within.ok : SummC Go.Proofs.Try.prog 61 Go.Rex.S.impl_within.s := summ_c Go.Rex.S.impl_within.GOK Go.Proofs.Try.func61 (by kernel_rfl) (body := (Go.Rex.bodyOf Go.Proofs.Try.f61)) (by kernel_rfl) (from_all Go.Rex.S.impl_within.from0) (rts := [.tm 6]) (by kernel_rfl) Go.Rex.S.impl_within.s (by kernel_rfl) (of_decide_eq_true (by kernel_rfl)) rfl (fun p _ => p) (fun _ _ => ⟨rfl, rfl⟩) (fun x => by kernel_rfl)

/-! impl_isAtomKind: function 74, [.rd (.int .i64)] -/
def Go.Rex.S.impl_isAtomKind.G : Go.Rex.Cfg := (Go.Rex.Cfg.mk Go.Rex.S.ti [(61, Go.Rex.S.impl_within.s)] : Go.Rex.Cfg)
def Go.Pf.impl_isAtomKind.f (a0 : Int) : Option Bool :=
  Option.bind (Go.Pf.impl_within.f a0 0 5) fun y => Option.some y
@[reducible] def Go.Rex.S.impl_isAtomKind.s : Go.Rex.Summ := ⟨[.rd (.int .i64)], .bool, .no, 1, Bool, fun x => Go.Pf.impl_isAtomKind.f x.1, fun y => y, fun _ => ()⟩
@[reducible] def Go.Rex.S.impl_isAtomKind.T : List (Nat × Go.Rex.LSum) := []
theorem Go.Rex.S.impl_isAtomKind.GOK : CfgOK Go.Proofs.Try.prog Go.Rex.S.impl_isAtomKind.G := ⟨S.tiOK, TOK.fns (l := [(61, Go.Rex.S.impl_within.s)]) ⟨Go.Rex.S.impl_within.ok.ok, trivial⟩, S.mixedOK⟩
theorem Go.Rex.S.impl_isAtomKind.from0 : From Go.Proofs.Try.prog Go.Rex.S.impl_isAtomKind.T (Go.Rex.bodyOf Go.Proofs.Try.f74) 0 := from_end (by kernel_rfl)
theorem Go.Rex.S.impl_isAtomKind.ok : SummC Go.Proofs.Try.prog 74 Go.Rex.S.impl_isAtomKind.s := summ_c Go.Rex.S.impl_isAtomKind.GOK Go.Proofs.Try.func74 (by kernel_rfl) (body := (Go.Rex.bodyOf Go.Proofs.Try.f74)) (by kernel_rfl) (from_all Go.Rex.S.impl_isAtomKind.from0) (rts := [.tm 2]) (by kernel_rfl) Go.Rex.S.impl_isAtomKind.s (by kernel_rfl) (of_decide_eq_true (by kernel_rfl)) rfl (fun p _ => p) (fun _ _ => ⟨rfl, rfl⟩) (fun x => by kernel_rfl)

/-! impl_isSuit: function 99, [.rd (.int .i64)] -/
def Go.Rex.S.impl_isSuit.G : Go.Rex.Cfg := (Go.Rex.Cfg.mk Go.Rex.S.ti [(61, Go.Rex.S.impl_within.s)] : Go.Rex.Cfg)
def Go.Pf.impl_isSuit.f (a0 : Int) : Option Bool :=
  Option.bind (Go.Pf.impl_within.f a0 0 3) fun y => Option.some y
@[reducible] def Go.Rex.S.impl_isSuit.s : Go.Rex.Summ := ⟨[.rd (.int .i64)], .bool, .no, 1, Bool, fun x => Go.Pf.impl_isSuit.f x.1, fun y => y, fun _ => ()⟩
@[reducible] def Go.Rex.S.impl_isSuit.T : List (Nat × Go.Rex.LSum) := []
theorem Go.Rex.S.impl_isSuit.GOK : CfgOK Go.Proofs.Try.prog Go.Rex.S.impl_isSuit.G := ⟨S.tiOK, TOK.fns (l := [(61, Go.Rex.S.impl_within.s)]) ⟨Go.Rex.S.impl_within.ok.ok, trivial⟩, S.mixedOK⟩
theorem Go.Rex.S.impl_isSuit.from0 : From Go.Proofs.Try.prog Go.Rex.S.impl_isSuit.T (Go.Rex.bodyOf Go.Proofs.Try.f99) 0 := from_end (by kernel_rfl)
theorem Go.Rex.S.impl_isSuit.ok : SummC Go.Proofs.Try.prog 99 Go.Rex.S.impl_isSuit.s := summ_c Go.Rex.S.impl_isSuit.GOK Go.Proofs.Try.func99 (by kernel_rfl) (body := (Go.Rex.bodyOf Go.Proofs.Try.f99)) (by kernel_rfl) (from_all Go.Rex.S.impl_isSuit.from0) (rts := [.tm 2]) (by kernel_rfl) Go.Rex.S.impl_isSuit.s (by kernel_rfl) (of_decide_eq_true (by kernel_rfl)) rfl (fun p _ => p) (fun _ _ => ⟨rfl, rfl⟩) (fun x => by kernel_rfl)

/-! impl_hasSuit: function 100, [.rd (.int .i64)] -/
def Go.Rex.S.impl_hasSuit.G : Go.Rex.Cfg := (Go.Rex.Cfg.mk Go.Rex.S.ti [(61, Go.Rex.S.impl_within.s)] : Go.Rex.Cfg)
def Go.Pf.impl_hasSuit.f (a0 : Int) : Option Bool :=
  Option.bind (Go.Pf.impl_within.f a0 3 5) fun y => Option.some y
@[reducible] def Go.Rex.S.impl_hasSuit.s : Go.Rex.Summ := ⟨[.rd (.int .i64)], .bool, .no, 1, Bool, fun x => Go.Pf.impl_hasSuit.f x.1, fun y => y, fun _ => ()⟩
@[reducible] def Go.Rex.S.impl_hasSuit.T : List (Nat × Go.Rex.LSum) := []
theorem Go.Rex.S.impl_hasSuit.GOK : CfgOK Go.Proofs.Try.prog Go.Rex.S.impl_hasSuit.G := ⟨S.tiOK, TOK.fns (l := [(61, Go.Rex.S.impl_within.s)]) ⟨Go.Rex.S.impl_within.ok.ok, trivial⟩, S.mixedOK⟩
theorem Go.Rex.S.impl_hasSuit.from0 : From Go.Proofs.Try.prog Go.Rex.S.impl_hasSuit.T (Go.Rex.bodyOf Go.Proofs.Try.f100) 0 := from_end (by kernel_rfl)
theorem Go.Rex.S.impl_hasSuit.ok : SummC Go.Proofs.Try.prog 100 Go.Rex.S.impl_hasSuit.s := summ_c Go.Rex.S.impl_hasSuit.GOK Go.Proofs.Try.func100 (by kernel_rfl) (body := (Go.Rex.bodyOf Go.Proofs.Try.f100)) (by kernel_rfl) (from_all Go.Rex.S.impl_hasSuit.from0) (rts := [.tm 2]) (by kernel_rfl) Go.Rex.S.impl_hasSuit.s (by kernel_rfl) (of_decide_eq_true (by kernel_rfl)) rfl (fun p _ => p) (fun _ _ => ⟨rfl, rfl⟩) (fun x => by kernel_rfl)

/-! impl_mostOf: function 101, [.rd (.int .i64)] -/
def Go.Rex.S.impl_mostOf.G : Go.Rex.Cfg := (Go.Rex.Cfg.mk Go.Rex.S.ti [] : Go.Rex.Cfg)
def Go.Pf.impl_mostOf.f (a0 : Int) : Option Int :=
  bif Go.Rex.inb a0 (List.length [0, 40, 12, 13, 3, 12]) then
    Option.some (List.getD [0, 40, 12, 13, 3, 12] (Go.Rex.natOf a0) (Go.Rex.Ty.dflt (Go.Rex.Ty.int Go.IntKind.i64)))
  else Option.none
@[reducible] def Go.Rex.S.impl_mostOf.s : Go.Rex.Summ := ⟨[.rd (.int .i64)], .int .i64, .no, 1, Int, fun x => Go.Pf.impl_mostOf.f x.1, fun y => y, fun _ => ()⟩
@[reducible] def Go.Rex.S.impl_mostOf.T : List (Nat × Go.Rex.LSum) := []
theorem Go.Rex.S.impl_mostOf.GOK : CfgOK Go.Proofs.Try.prog Go.Rex.S.impl_mostOf.G := ⟨S.tiOK, TOK.fns (l := []) trivial, S.mixedOK⟩
theorem Go.Rex.S.impl_mostOf.from0 : From Go.Proofs.Try.prog Go.Rex.S.impl_mostOf.T (Go.Rex.bodyOf Go.Proofs.Try.f101) 0 := from_end (by kernel_rfl)
theorem Go.Rex.S.impl_mostOf.ok : SummC Go.Proofs.Try.prog 101 Go.Rex.S.impl_mostOf.s := summ_c Go.Rex.S.impl_mostOf.GOK Go.Proofs.Try.func101 (by kernel_rfl) (body := (Go.Rex.bodyOf Go.Proofs.Try.f101)) (by kernel_rfl) (from_all Go.Rex.S.impl_mostOf.from0) (rts := [.tm 2]) (by kernel_rfl) Go.Rex.S.impl_mostOf.s (by kernel_rfl) (of_decide_eq_true (by kernel_rfl)) rfl (fun p _ => p) (fun _ _ => ⟨rfl, rfl⟩) (fun x => by kernel_rfl)

/-! impl_isTerm: function 71, [.rd (.pr (.int .i64) (.pr (.int .i64) (.pr (.int .i64) (.pr (.int .i64) (.nl)))))] -/
def Go.Rex.S.impl_isTerm.G : Go.Rex.Cfg := (Go.Rex.Cfg.mk Go.Rex.S.ti [(61, Go.Rex.S.impl_within.s), (74, Go.Rex.S.impl_isAtomKind.s), (99, Go.Rex.S.impl_isSuit.s), (100, Go.Rex.S.impl_hasSuit.s), (101, Go.Rex.S.impl_mostOf.s)] : Go.Rex.Cfg)
def Go.Pf.impl_isTerm.f (a0 : (Int × (Int × (Int × (Int × Unit))))) : Option Bool :=
  Option.bind (Go.Pf.impl_within.f (Prod.fst a0) 6 8) fun y =>
    bif y then
      bif Prod.fst (Prod.snd a0) == 0 then
        bif Prod.fst (Prod.snd (Prod.snd a0)) == 0 then Option.some (Prod.fst (Prod.snd (Prod.snd (Prod.snd a0))) == 0)
        else Option.some Bool.false
      else Option.some Bool.false
    else
      Option.bind (Go.Pf.impl_isAtomKind.f (Prod.fst a0)) fun y =>
        bif !y then Option.some Bool.false
        else
          Option.bind (Go.Pf.impl_isSuit.f (Prod.fst (Prod.snd a0))) fun y =>
            bif !y then Option.some Bool.false
            else
              Option.bind (Go.Pf.impl_hasSuit.f (Prod.fst a0)) fun y =>
                bif !y then
                  bif Prod.fst (Prod.snd a0) != 0 then Option.some Bool.false
                  else
                    Option.bind (Go.Pf.impl_mostOf.f (Prod.fst a0)) fun y =>
                      Option.bind (Go.Pf.impl_within.f (Prod.fst (Prod.snd (Prod.snd a0))) 0 y) fun y =>
                        bif !y then Option.some Bool.false
                        else
                          bif Prod.fst a0 == 5 then Option.some (Prod.fst (Prod.snd (Prod.snd (Prod.snd a0))) == 0)
                          else
                            Option.bind (Go.Pf.impl_mostOf.f (Prod.fst a0)) fun y =>
                              Option.bind
                                (Go.Pf.impl_within.f (Prod.fst (Prod.snd (Prod.snd (Prod.snd a0))))
                                  (Prod.fst (Prod.snd (Prod.snd a0))) y)
                                fun y => Option.some y
                else
                  Option.bind (Go.Pf.impl_mostOf.f (Prod.fst a0)) fun y =>
                    Option.bind (Go.Pf.impl_within.f (Prod.fst (Prod.snd (Prod.snd a0))) 0 y) fun y =>
                      bif !y then Option.some Bool.false
                      else
                        bif Prod.fst a0 == 5 then Option.some (Prod.fst (Prod.snd (Prod.snd (Prod.snd a0))) == 0)
                        else
                          Option.bind (Go.Pf.impl_mostOf.f (Prod.fst a0)) fun y =>
                            Option.bind
                              (Go.Pf.impl_within.f (Prod.fst (Prod.snd (Prod.snd (Prod.snd a0))))
                                (Prod.fst (Prod.snd (Prod.snd a0))) y)
                              fun y => Option.some y
@[reducible] def Go.Rex.S.impl_isTerm.s : Go.Rex.Summ := ⟨[.rd (.pr (.int .i64) (.pr (.int .i64) (.pr (.int .i64) (.pr (.int .i64) (.nl)))))], .bool, .no, 1, Bool, fun x => Go.Pf.impl_isTerm.f x.1, fun y => y, fun _ => ()⟩
@[reducible] def Go.Rex.S.impl_isTerm.T : List (Nat × Go.Rex.LSum) := []
theorem Go.Rex.S.impl_isTerm.GOK : CfgOK Go.Proofs.Try.prog Go.Rex.S.impl_isTerm.G := ⟨S.tiOK, TOK.fns (l := [(61, Go.Rex.S.impl_within.s), (74, Go.Rex.S.impl_isAtomKind.s), (99, Go.Rex.S.impl_isSuit.s), (100, Go.Rex.S.impl_hasSuit.s), (101, Go.Rex.S.impl_mostOf.s)]) ⟨Go.Rex.S.impl_within.ok.ok, Go.Rex.S.impl_isAtomKind.ok.ok, Go.Rex.S.impl_isSuit.ok.ok, Go.Rex.S.impl_hasSuit.ok.ok, Go.Rex.S.impl_mostOf.ok.ok, trivial⟩, S.mixedOK⟩
theorem Go.Rex.S.impl_isTerm.from0 : From Go.Proofs.Try.prog Go.Rex.S.impl_isTerm.T (Go.Rex.bodyOf Go.Proofs.Try.f71) 0 := from_end (by kernel_rfl)
theorem Go.Rex.S.impl_isTerm.ok : SummC Go.Proofs.Try.prog 71 Go.Rex.S.impl_isTerm.s := summ_c Go.Rex.S.impl_isTerm.GOK Go.Proofs.Try.func71 (by kernel_rfl) (body := (Go.Rex.bodyOf Go.Proofs.Try.f71)) (by kernel_rfl) (from_all Go.Rex.S.impl_isTerm.from0) (rts := [.tm 2]) (by kernel_rfl) Go.Rex.S.impl_isTerm.s (by kernel_rfl) (of_decide_eq_true (by kernel_rfl)) rfl (fun p _ => p) (fun _ _ => ⟨rfl, rfl⟩) (fun x => by kernel_rfl)

/-! impl_operands: function 72, [.rd (.int .i64)] -/
def Go.Rex.S.impl_operands.G : Go.Rex.Cfg := (Go.Rex.Cfg.mk Go.Rex.S.ti [] : Go.Rex.Cfg)
def Go.Pf.impl_operands.f (a0 : Int) : Option Int :=
  bif a0 == 6 then Option.some 1
  else bif a0 == 7 then Option.some 2 else bif a0 == 8 then Option.some 2 else Option.some 0
@[reducible] def Go.Rex.S.impl_operands.s : Go.Rex.Summ := ⟨[.rd (.int .i64)], .int .i64, .no, 1, Int, fun x => Go.Pf.impl_operands.f x.1, fun y => y, fun _ => ()⟩
@[reducible] def Go.Rex.S.impl_operands.T : List (Nat × Go.Rex.LSum) := []
theorem Go.Rex.S.impl_operands.GOK : CfgOK Go.Proofs.Try.prog Go.Rex.S.impl_operands.G := ⟨S.tiOK, TOK.fns (l := []) trivial, S.mixedOK⟩
theorem Go.Rex.S.impl_operands.from0 : From Go.Proofs.Try.prog Go.Rex.S.impl_operands.T (Go.Rex.bodyOf Go.Proofs.Try.f72) 0 := from_end (by kernel_rfl)
theorem Go.Rex.S.impl_operands.ok : SummC Go.Proofs.Try.prog 72 Go.Rex.S.impl_operands.s := summ_c Go.Rex.S.impl_operands.GOK Go.Proofs.Try.func72 (by kernel_rfl) (body := (Go.Rex.bodyOf Go.Proofs.Try.f72)) (by kernel_rfl) (from_all Go.Rex.S.impl_operands.from0) (rts := [.tm 2]) (by kernel_rfl) Go.Rex.S.impl_operands.s (by kernel_rfl) (of_decide_eq_true (by kernel_rfl)) rfl (fun p _ => p) (fun _ _ => ⟨rfl, rfl⟩) (fun x => by kernel_rfl)

/-! impl_IsConstraint: function 25, [.rd (.sl (.pr (.int .i64) (.pr (.int .i64) (.pr (.int .i64) (.pr (.int .i64) (.nl))))))] -/
def Go.Rex.S.impl_IsConstraint.G : Go.Rex.Cfg := (Go.Rex.Cfg.mk Go.Rex.S.ti [(71, Go.Rex.S.impl_isTerm.s), (72, Go.Rex.S.impl_operands.s)] : Go.Rex.Cfg)
def Go.Pf.impl_IsConstraint.l0 : Nat → List (Int × (Int × (Int × (Int × Unit)))) → Int → List (Int × (Int × (Int × (Int × Unit)))) → Int → Int → Option ((Bool × Unit) ⊕ (List (Int × (Int × (Int × (Int × Unit)))) × Int × Unit))
  | 0, _, _, _, _, _ => none
  | k + 1, x0, x3, x6, x7, x8 =>
    bif Decidable.decide (x8 < x7) then
      bif Go.Rex.inb x8 (List.length x6) then
        Option.bind
          (Go.Pf.impl_isTerm.f
            (List.getD x6 (Go.Rex.natOf x8)
              (Go.Rex.Ty.dflt
                (Go.Rex.Ty.pr (Go.Rex.Ty.int Go.IntKind.i64)
                  (Go.Rex.Ty.pr (Go.Rex.Ty.int Go.IntKind.i64)
                    (Go.Rex.Ty.pr (Go.Rex.Ty.int Go.IntKind.i64)
                      (Go.Rex.Ty.pr (Go.Rex.Ty.int Go.IntKind.i64) Go.Rex.Ty.nl)))))))
          fun y =>
          bif !y then Option.some (Sum.inl (Bool.false, ()))
          else
            Option.bind
              (Go.Pf.impl_operands.f
                (Prod.fst
                  (List.getD x6 (Go.Rex.natOf x8)
                    (Go.Rex.Ty.dflt
                      (Go.Rex.Ty.pr (Go.Rex.Ty.int Go.IntKind.i64)
                        (Go.Rex.Ty.pr (Go.Rex.Ty.int Go.IntKind.i64)
                          (Go.Rex.Ty.pr (Go.Rex.Ty.int Go.IntKind.i64)
                            (Go.Rex.Ty.pr (Go.Rex.Ty.int Go.IntKind.i64) Go.Rex.Ty.nl))))))))
              fun y =>
              bif Decidable.decide (x3 < y) then Option.some (Sum.inl (Bool.false, ()))
              else
                Option.bind
                  (Go.Pf.impl_operands.f
                    (Prod.fst
                      (List.getD x6 (Go.Rex.natOf x8)
                        (Go.Rex.Ty.dflt
                          (Go.Rex.Ty.pr (Go.Rex.Ty.int Go.IntKind.i64)
                            (Go.Rex.Ty.pr (Go.Rex.Ty.int Go.IntKind.i64)
                              (Go.Rex.Ty.pr (Go.Rex.Ty.int Go.IntKind.i64)
                                (Go.Rex.Ty.pr (Go.Rex.Ty.int Go.IntKind.i64) Go.Rex.Ty.nl))))))))
                  fun y =>
                  Go.Pf.impl_IsConstraint.l0 k x0 (Go.IntKind.wrap Go.IntKind.i64 (x3 + Go.IntKind.wrap Go.IntKind.i64 (1 - y))) x6 x7
                    (Go.IntKind.wrap Go.IntKind.i64 (x8 + 1))
      else Option.none
    else Option.some (Sum.inr (x0, x3, ()))
def Go.Rex.S.impl_IsConstraint.L0 : Go.Rex.LSum := ⟨⟨36, []⟩, [.dt 0 (.sl (.pr (.int .i64) (.pr (.int .i64) (.pr (.int .i64) (.pr (.int .i64) (.nl)))))), .dt 3 (.int .i64), .dt 6 (.sl (.pr (.int .i64) (.pr (.int .i64) (.pr (.int .i64) (.pr (.int .i64) (.nl)))))), .dt 7 (.int .i64), .dt 8 (.int .i64)], [(0, [.dt 2 (.bool)]), (1, [.dt 0 (.sl (.pr (.int .i64) (.pr (.int .i64) (.pr (.int .i64) (.pr (.int .i64) (.nl)))))), .dt 3 (.int .i64)])], fun x => Go.Pf.impl_IsConstraint.l0 Go.Pf.FUEL x.1 x.2.1 x.2.2.1 x.2.2.2.1 x.2.2.2.2.1⟩
def Go.Pf.impl_IsConstraint.f (a0 : List (Int × (Int × (Int × (Int × Unit))))) : Option Bool :=
  Option.bind (Go.Pf.impl_IsConstraint.l0 Go.Pf.FUEL a0 0 a0 (↑(List.length a0) : Int) 0) fun out =>
    match out with
    | Sum.inl a => Option.some (Prod.fst a)
    | Sum.inr b =>
      bif Prod.fst (Prod.snd b) == 1 then Option.some (Decidable.decide ((↑(List.length (Prod.fst b)) : Int) ≤ 24))
      else Option.some Bool.false
@[reducible] def Go.Rex.S.impl_IsConstraint.s : Go.Rex.Summ := ⟨[.rd (.sl (.pr (.int .i64) (.pr (.int .i64) (.pr (.int .i64) (.pr (.int .i64) (.nl))))))], .bool, .no, 1, Bool, fun x => Go.Pf.impl_IsConstraint.f x.1, fun y => y, fun _ => ()⟩
@[reducible] def Go.Rex.S.impl_IsConstraint.T : List (Nat × Go.Rex.LSum) := [(0, Go.Rex.S.impl_IsConstraint.L0)]
theorem Go.Rex.S.impl_IsConstraint.GOK : CfgOK Go.Proofs.Try.prog Go.Rex.S.impl_IsConstraint.G := ⟨S.tiOK, TOK.fns (l := [(71, Go.Rex.S.impl_isTerm.s), (72, Go.Rex.S.impl_operands.s)]) ⟨Go.Rex.S.impl_isTerm.ok.ok, Go.Rex.S.impl_operands.ok.ok, trivial⟩, S.mixedOK⟩
theorem Go.Rex.S.impl_IsConstraint.from1 : From Go.Proofs.Try.prog Go.Rex.S.impl_IsConstraint.T (Go.Rex.bodyOf Go.Proofs.Try.f25) 1 := from_end (by kernel_rfl)
theorem Go.Rex.S.impl_IsConstraint.from0 : From Go.Proofs.Try.prog Go.Rex.S.impl_IsConstraint.T (Go.Rex.bodyOf Go.Proofs.Try.f25) 0 := from_step Go.Rex.S.impl_IsConstraint.GOK Go.Rex.S.impl_IsConstraint.from1 Go.Rex.S.impl_IsConstraint.L0 rfl (fun k x => Go.Pf.impl_IsConstraint.l0 k x.1 x.2.1 x.2.2.1 x.2.2.2.1 x.2.2.2.2.1) (fun _ => rfl) (fun k x => by kernel_rfl) Go.Pf.FUEL (fun _ => rfl)
theorem Go.Rex.S.impl_IsConstraint.ok : SummC Go.Proofs.Try.prog 25 Go.Rex.S.impl_IsConstraint.s := summ_c Go.Rex.S.impl_IsConstraint.GOK Go.Proofs.Try.func25 (by kernel_rfl) (body := (Go.Rex.bodyOf Go.Proofs.Try.f25)) (by kernel_rfl) (from_all Go.Rex.S.impl_IsConstraint.from0) (rts := [.tm 2]) (by kernel_rfl) Go.Rex.S.impl_IsConstraint.s (by kernel_rfl) (of_decide_eq_true (by kernel_rfl)) rfl (fun p _ => p) (fun _ _ => ⟨rfl, rfl⟩) (fun x => by kernel_rfl)

/-! impl_IsNegationForm: function 28, [.rd (.sl (.pr (.int .i64) (.pr (.int .i64) (.pr (.int .i64) (.pr (.int .i64) (.nl))))))] -/
def Go.Rex.S.impl_IsNegationForm.G : Go.Rex.Cfg := (Go.Rex.Cfg.mk Go.Rex.S.ti [(74, Go.Rex.S.impl_isAtomKind.s), (25, Go.Rex.S.impl_IsConstraint.s)] : Go.Rex.Cfg)
def Go.Pf.impl_IsNegationForm.l0 : Nat → List (Int × (Int × (Int × (Int × Unit)))) → List (Int × (Int × (Int × (Int × Unit)))) → Int → Int → Option ((Bool × Unit) ⊕ (List (Int × (Int × (Int × (Int × Unit)))) × Unit))
  | 0, _, _, _, _ => none
  | k + 1, x0, x5, x6, x7 =>
    bif Decidable.decide (x7 < x6) then
      bif Go.Rex.inb x7 (List.length x5) then
        bif
            Prod.fst
                (List.getD x5 (Go.Rex.natOf x7)
                  (Go.Rex.Ty.dflt
                    (Go.Rex.Ty.pr (Go.Rex.Ty.int Go.IntKind.i64)
                      (Go.Rex.Ty.pr (Go.Rex.Ty.int Go.IntKind.i64)
                        (Go.Rex.Ty.pr (Go.Rex.Ty.int Go.IntKind.i64)
                          (Go.Rex.Ty.pr (Go.Rex.Ty.int Go.IntKind.i64) Go.Rex.Ty.nl)))))) ==
              6 then
          bif Decidable.decide (x7 > 0) then
            bif Go.Rex.inb (Go.IntKind.wrap Go.IntKind.i64 (x7 - 1)) (List.length x0) then
              Option.bind
                (Go.Pf.impl_isAtomKind.f
                  (Prod.fst
                    (List.getD x0 (Go.Rex.natOf (Go.IntKind.wrap Go.IntKind.i64 (x7 - 1)))
                      (Go.Rex.Ty.dflt
                        (Go.Rex.Ty.pr (Go.Rex.Ty.int Go.IntKind.i64)
                          (Go.Rex.Ty.pr (Go.Rex.Ty.int Go.IntKind.i64)
                            (Go.Rex.Ty.pr (Go.Rex.Ty.int Go.IntKind.i64)
                              (Go.Rex.Ty.pr (Go.Rex.Ty.int Go.IntKind.i64) Go.Rex.Ty.nl))))))))
                fun y =>
                bif !y then Option.some (Sum.inl (Bool.false, ()))
                else Go.Pf.impl_IsNegationForm.l0 k x0 x5 x6 (Go.IntKind.wrap Go.IntKind.i64 (x7 + 1))
            else Option.none
          else Go.Pf.impl_IsNegationForm.l0 k x0 x5 x6 (Go.IntKind.wrap Go.IntKind.i64 (x7 + 1))
        else Go.Pf.impl_IsNegationForm.l0 k x0 x5 x6 (Go.IntKind.wrap Go.IntKind.i64 (x7 + 1))
      else Option.none
    else Option.some (Sum.inr (x0, ()))
def Go.Rex.S.impl_IsNegationForm.L0 : Go.Rex.LSum := ⟨⟨32, []⟩, [.dt 0 (.sl (.pr (.int .i64) (.pr (.int .i64) (.pr (.int .i64) (.pr (.int .i64) (.nl)))))), .dt 5 (.sl (.pr (.int .i64) (.pr (.int .i64) (.pr (.int .i64) (.pr (.int .i64) (.nl)))))), .dt 6 (.int .i64), .dt 7 (.int .i64)], [(0, [.dt 2 (.bool)]), (1, [.dt 0 (.sl (.pr (.int .i64) (.pr (.int .i64) (.pr (.int .i64) (.pr (.int .i64) (.nl))))))])], fun x => Go.Pf.impl_IsNegationForm.l0 Go.Pf.FUEL x.1 x.2.1 x.2.2.1 x.2.2.2.1⟩
def Go.Pf.impl_IsNegationForm.f (a0 : List (Int × (Int × (Int × (Int × Unit))))) : Option Bool :=
  Option.bind (Go.Pf.impl_IsNegationForm.l0 Go.Pf.FUEL a0 a0 (↑(List.length a0) : Int) 0) fun out =>
    match out with
    | Sum.inl a => Option.some (Prod.fst a)
    | Sum.inr b => Option.bind (Go.Pf.impl_IsConstraint.f (Prod.fst b)) fun y => Option.some y
@[reducible] def Go.Rex.S.impl_IsNegationForm.s : Go.Rex.Summ := ⟨[.rd (.sl (.pr (.int .i64) (.pr (.int .i64) (.pr (.int .i64) (.pr (.int .i64) (.nl))))))], .bool, .no, 1, Bool, fun x => Go.Pf.impl_IsNegationForm.f x.1, fun y => y, fun _ => ()⟩
@[reducible] def Go.Rex.S.impl_IsNegationForm.T : List (Nat × Go.Rex.LSum) := [(0, Go.Rex.S.impl_IsNegationForm.L0)]
theorem Go.Rex.S.impl_IsNegationForm.GOK : CfgOK Go.Proofs.Try.prog Go.Rex.S.impl_IsNegationForm.G := ⟨S.tiOK, TOK.fns (l := [(74, Go.Rex.S.impl_isAtomKind.s), (25, Go.Rex.S.impl_IsConstraint.s)]) ⟨Go.Rex.S.impl_isAtomKind.ok.ok, Go.Rex.S.impl_IsConstraint.ok.ok, trivial⟩, S.mixedOK⟩
theorem Go.Rex.S.impl_IsNegationForm.from1 : From Go.Proofs.Try.prog Go.Rex.S.impl_IsNegationForm.T (Go.Rex.bodyOf Go.Proofs.Try.f28) 1 := from_end (by kernel_rfl)
theorem Go.Rex.S.impl_IsNegationForm.from0 : From Go.Proofs.Try.prog Go.Rex.S.impl_IsNegationForm.T (Go.Rex.bodyOf Go.Proofs.Try.f28) 0 := from_step Go.Rex.S.impl_IsNegationForm.GOK Go.Rex.S.impl_IsNegationForm.from1 Go.Rex.S.impl_IsNegationForm.L0 rfl (fun k x => Go.Pf.impl_IsNegationForm.l0 k x.1 x.2.1 x.2.2.1 x.2.2.2.1) (fun _ => rfl) (fun k x => by kernel_rfl) Go.Pf.FUEL (fun _ => rfl)
theorem Go.Rex.S.impl_IsNegationForm.ok : SummC Go.Proofs.Try.prog 28 Go.Rex.S.impl_IsNegationForm.s := summ_c Go.Rex.S.impl_IsNegationForm.GOK Go.Proofs.Try.func28 (by kernel_rfl) (body := (Go.Rex.bodyOf Go.Proofs.Try.f28)) (by kernel_rfl) (from_all Go.Rex.S.impl_IsNegationForm.from0) (rts := [.tm 2]) (by kernel_rfl) Go.Rex.S.impl_IsNegationForm.s (by kernel_rfl) (of_decide_eq_true (by kernel_rfl)) rfl (fun p _ => p) (fun _ _ => ⟨rfl, rfl⟩) (fun x => by kernel_rfl)

/-! laws_eqTerm: function 73, [.rd (.pr (.int .i64) (.pr (.int .i64) (.pr (.int .i64) (.pr (.int .i64) (.nl))))), .rd (.pr (.int .i64) (.pr (.int .i64) (.pr (.int .i64) (.pr (.int .i64) (.nl)))))] -/
def Go.Rex.S.laws_eqTerm.G : Go.Rex.Cfg := (Go.Rex.Cfg.mk Go.Rex.S.ti [] : Go.Rex.Cfg)
def Go.Pf.laws_eqTerm.f (a0 : (Int × (Int × (Int × (Int × Unit))))) (a1 : (Int × (Int × (Int × (Int × Unit))))) : Option Bool :=
  bif Prod.fst a0 != Prod.fst a1 then Option.some Bool.false
  else
    bif Prod.fst (Prod.snd a0) != Prod.fst (Prod.snd a1) then Option.some Bool.false
    else
      bif Prod.fst (Prod.snd (Prod.snd a0)) != Prod.fst (Prod.snd (Prod.snd a1)) then Option.some Bool.false
      else
        bif Prod.fst (Prod.snd (Prod.snd (Prod.snd a0))) != Prod.fst (Prod.snd (Prod.snd (Prod.snd a1))) then
          Option.some Bool.false
        else Option.some Bool.true
@[reducible] def Go.Rex.S.laws_eqTerm.s : Go.Rex.Summ := ⟨[.rd (.pr (.int .i64) (.pr (.int .i64) (.pr (.int .i64) (.pr (.int .i64) (.nl))))), .rd (.pr (.int .i64) (.pr (.int .i64) (.pr (.int .i64) (.pr (.int .i64) (.nl)))))], .bool, .no, 1, Bool, fun x => Go.Pf.laws_eqTerm.f x.1 x.2.1, fun y => y, fun _ => ()⟩
@[reducible] def Go.Rex.S.laws_eqTerm.T : List (Nat × Go.Rex.LSum) := []
theorem Go.Rex.S.laws_eqTerm.GOK : CfgOK Go.Proofs.Try.prog Go.Rex.S.laws_eqTerm.G := ⟨S.tiOK, TOK.fns (l := []) trivial, S.mixedOK⟩
theorem Go.Rex.S.laws_eqTerm.from0 : From Go.Proofs.Try.prog Go.Rex.S.laws_eqTerm.T (Go.Rex.bodyOf Go.Proofs.Try.f73) 0 := from_end (by kernel_rfl)
theorem Go.Rex.S.laws_eqTerm.ok : SummC Go.Proofs.Try.prog 73 Go.Rex.S.laws_eqTerm.s := summ_c Go.Rex.S.laws_eqTerm.GOK Go.Proofs.Try.func73 (by kernel_rfl) (body := (Go.Rex.bodyOf Go.Proofs.Try.f73)) (by kernel_rfl) (from_all Go.Rex.S.laws_eqTerm.from0) (rts := [.tm 4]) (by kernel_rfl) Go.Rex.S.laws_eqTerm.s (by kernel_rfl) (of_decide_eq_true (by kernel_rfl)) rfl (fun p _ => p) (fun _ _ => ⟨rfl, rfl⟩) (fun x => by kernel_rfl)

/-! laws_eqTermS: function 26, [.rd (.sl (.pr (.int .i64) (.pr (.int .i64) (.pr (.int .i64) (.pr (.int .i64) (.nl)))))), .rd (.sl (.pr (.int .i64) (.pr (.int .i64) (.pr (.int .i64) (.pr (.int .i64) (.nl))))))] -/
def Go.Rex.S.laws_eqTermS.G : Go.Rex.Cfg := (Go.Rex.Cfg.mk Go.Rex.S.ti [(73, Go.Rex.S.laws_eqTerm.s)] : Go.Rex.Cfg)
def Go.Pf.laws_eqTermS.l0 : Nat → List (Int × (Int × (Int × (Int × Unit)))) → List (Int × (Int × (Int × (Int × Unit)))) → Int → Option ((Bool × Unit) ⊕ (Unit))
  | 0, _, _, _ => none
  | k + 1, x0, x1, x5 =>
    bif Decidable.decide (x5 < (↑(List.length x0) : Int)) then
      bif Go.Rex.inb x5 (List.length x0) then
        bif Go.Rex.inb x5 (List.length x1) then
          Option.bind
            (Go.Pf.laws_eqTerm.f
              (List.getD x0 (Go.Rex.natOf x5)
                (Go.Rex.Ty.dflt
                  (Go.Rex.Ty.pr (Go.Rex.Ty.int Go.IntKind.i64)
                    (Go.Rex.Ty.pr (Go.Rex.Ty.int Go.IntKind.i64)
                      (Go.Rex.Ty.pr (Go.Rex.Ty.int Go.IntKind.i64)
                        (Go.Rex.Ty.pr (Go.Rex.Ty.int Go.IntKind.i64) Go.Rex.Ty.nl))))))
              (List.getD x1 (Go.Rex.natOf x5)
                (Go.Rex.Ty.dflt
                  (Go.Rex.Ty.pr (Go.Rex.Ty.int Go.IntKind.i64)
                    (Go.Rex.Ty.pr (Go.Rex.Ty.int Go.IntKind.i64)
                      (Go.Rex.Ty.pr (Go.Rex.Ty.int Go.IntKind.i64)
                        (Go.Rex.Ty.pr (Go.Rex.Ty.int Go.IntKind.i64) Go.Rex.Ty.nl)))))))
            fun y =>
            bif !y then Option.some (Sum.inl (Bool.false, ())) else Go.Pf.laws_eqTermS.l0 k x0 x1 (Go.IntKind.wrap Go.IntKind.i64 (x5 + 1))
        else Option.none
      else Option.none
    else Option.some (Sum.inr ())
def Go.Rex.S.laws_eqTermS.L0 : Go.Rex.LSum := ⟨⟨27, []⟩, [.dt 0 (.sl (.pr (.int .i64) (.pr (.int .i64) (.pr (.int .i64) (.pr (.int .i64) (.nl)))))), .dt 1 (.sl (.pr (.int .i64) (.pr (.int .i64) (.pr (.int .i64) (.pr (.int .i64) (.nl)))))), .dt 5 (.int .i64)], [(0, [.dt 4 (.bool)]), (1, [])], fun x => Go.Pf.laws_eqTermS.l0 Go.Pf.FUEL x.1 x.2.1 x.2.2.1⟩
def Go.Pf.laws_eqTermS.f (a0 : List (Int × (Int × (Int × (Int × Unit))))) (a1 : List (Int × (Int × (Int × (Int × Unit))))) : Option Bool :=
  bif (↑(List.length a0) : Int) != (↑(List.length a1) : Int) then Option.some Bool.false
  else
    Option.bind (Go.Pf.laws_eqTermS.l0 Go.Pf.FUEL a0 a1 0) fun out =>
      match out with
      | Sum.inl a => Option.some (Prod.fst a)
      | Sum.inr b => Option.some Bool.true
@[reducible] def Go.Rex.S.laws_eqTermS.s : Go.Rex.Summ := ⟨[.rd (.sl (.pr (.int .i64) (.pr (.int .i64) (.pr (.int .i64) (.pr (.int .i64) (.nl)))))), .rd (.sl (.pr (.int .i64) (.pr (.int .i64) (.pr (.int .i64) (.pr (.int .i64) (.nl))))))], .bool, .no, 1, Bool, fun x => Go.Pf.laws_eqTermS.f x.1 x.2.1, fun y => y, fun _ => ()⟩
@[reducible] def Go.Rex.S.laws_eqTermS.T : List (Nat × Go.Rex.LSum) := [(0, Go.Rex.S.laws_eqTermS.L0)]
theorem Go.Rex.S.laws_eqTermS.GOK : CfgOK Go.Proofs.Try.prog Go.Rex.S.laws_eqTermS.G := ⟨S.tiOK, TOK.fns (l := [(73, Go.Rex.S.laws_eqTerm.s)]) ⟨Go.Rex.S.laws_eqTerm.ok.ok, trivial⟩, S.mixedOK⟩
theorem Go.Rex.S.laws_eqTermS.from1 : From Go.Proofs.Try.prog Go.Rex.S.laws_eqTermS.T (Go.Rex.bodyOf Go.Proofs.Try.f26) 1 := from_end (by kernel_rfl)
theorem Go.Rex.S.laws_eqTermS.from0 : From Go.Proofs.Try.prog Go.Rex.S.laws_eqTermS.T (Go.Rex.bodyOf Go.Proofs.Try.f26) 0 := from_step Go.Rex.S.laws_eqTermS.GOK Go.Rex.S.laws_eqTermS.from1 Go.Rex.S.laws_eqTermS.L0 rfl (fun k x => Go.Pf.laws_eqTermS.l0 k x.1 x.2.1 x.2.2.1) (fun _ => rfl) (fun k x => by kernel_rfl) Go.Pf.FUEL (fun _ => rfl)
theorem Go.Rex.S.laws_eqTermS.ok : SummC Go.Proofs.Try.prog 26 Go.Rex.S.laws_eqTermS.s := summ_c Go.Rex.S.laws_eqTermS.GOK Go.Proofs.Try.func26 (by kernel_rfl) (body := (Go.Rex.bodyOf Go.Proofs.Try.f26)) (by kernel_rfl) (from_all Go.Rex.S.laws_eqTermS.from0) (rts := [.tm 4]) (by kernel_rfl) Go.Rex.S.laws_eqTermS.s (by kernel_rfl) (of_decide_eq_true (by kernel_rfl)) rfl (fun p _ => p) (fun _ _ => ⟨rfl, rfl⟩) (fun x => by kernel_rfl)

/-! laws_FnExactIsNegationForm: function 6, [.rd (.sl (.pr (.int .i64) (.pr (.int .i64) (.pr (.int .i64) (.pr (.int .i64) (.nl))))))] -/
def Go.Rex.S.laws_FnExactIsNegationForm.G : Go.Rex.Cfg := (Go.Rex.Cfg.mk Go.Rex.S.ti [(22, Go.Rex.S.laws_szTermS.s), (24, Go.Rex.S.laws_toTermS.s), (27, Go.Rex.S.spec_IsNegationForm.s), (28, Go.Rex.S.impl_IsNegationForm.s), (26, Go.Rex.S.laws_eqTermS.s)] : Go.Rex.Cfg)
def Go.Pf.laws_FnExactIsNegationForm.f (a0 : List (Int × (Int × (Int × (Int × Unit))))) : Option Bool :=
  Option.bind (Go.Pf.laws_szTermS.f a0 1048576) fun y =>
    bif Decidable.decide (y < 0) then Option.some Bool.true
    else
      Option.bind (Go.Pf.laws_toTermS.f a0) fun y =>
        Option.bind (Go.Pf.spec_IsNegationForm.f y) fun y =>
          Option.bind (Go.Pf.laws_toTermS.f a0) fun y_1 =>
            Option.bind (Go.Pf.impl_IsNegationForm.f y_1) fun y_2 =>
              bif !y_2 == y then Option.some Bool.false
              else
                Option.bind (Go.Pf.laws_toTermS.f a0) fun y =>
                  Option.bind (Go.Pf.laws_eqTermS.f y_1 y) fun y =>
                    bif !y then Option.some Bool.false else Option.some Bool.true
@[reducible] def Go.Rex.S.laws_FnExactIsNegationForm.s : Go.Rex.Summ := ⟨[.rd (.sl (.pr (.int .i64) (.pr (.int .i64) (.pr (.int .i64) (.pr (.int .i64) (.nl))))))], .bool, .no, 1, Bool, fun x => Go.Pf.laws_FnExactIsNegationForm.f x.1, fun y => y, fun _ => ()⟩
@[reducible] def Go.Rex.S.laws_FnExactIsNegationForm.T : List (Nat × Go.Rex.LSum) := []
theorem Go.Rex.S.laws_FnExactIsNegationForm.GOK : CfgOK Go.Proofs.Try.prog Go.Rex.S.laws_FnExactIsNegationForm.G := ⟨S.tiOK, TOK.fns (l := [(22, Go.Rex.S.laws_szTermS.s), (24, Go.Rex.S.laws_toTermS.s), (27, Go.Rex.S.spec_IsNegationForm.s), (28, Go.Rex.S.impl_IsNegationForm.s), (26, Go.Rex.S.laws_eqTermS.s)]) ⟨Go.Rex.S.laws_szTermS.ok.ok, Go.Rex.S.laws_toTermS.ok.ok, Go.Rex.S.spec_IsNegationForm.ok.ok, Go.Rex.S.impl_IsNegationForm.ok.ok, Go.Rex.S.laws_eqTermS.ok.ok, trivial⟩, S.mixedOK⟩
theorem Go.Rex.S.laws_FnExactIsNegationForm.from0 : From Go.Proofs.Try.prog Go.Rex.S.laws_FnExactIsNegationForm.T (Go.Rex.bodyOf Go.Proofs.Try.f6) 0 := from_end (by kernel_rfl)
theorem Go.Rex.S.laws_FnExactIsNegationForm.ok : SummC Go.Proofs.Try.prog 6 Go.Rex.S.laws_FnExactIsNegationForm.s := summ_c Go.Rex.S.laws_FnExactIsNegationForm.GOK Go.Proofs.Try.func6 (by kernel_rfl) (body := (Go.Rex.bodyOf Go.Proofs.Try.f6)) (by kernel_rfl) (from_all Go.Rex.S.laws_FnExactIsNegationForm.from0) (rts := [.tm 2]) (by kernel_rfl) Go.Rex.S.laws_FnExactIsNegationForm.s (by kernel_rfl) (of_decide_eq_true (by kernel_rfl)) rfl (fun p _ => p) (fun _ _ => ⟨rfl, rfl⟩) (fun x => by kernel_rfl)

