/- Proved here: what the functions that the law FnExactSideTricks reaches come to, as plain functions; conditions: none. -/
import Derived.Test.YthjgofeekncogaaRexC
import Derived.Test.YthjgofeekncogaaProg
set_option linter.all false
set_option linter.unusedSimpArgs false
set_option linter.unusedVariables false
set_option maxRecDepth 100000
namespace Go.Proofs.Try.R
end Go.Proofs.Try.R
open Go Go.Rex
/-- The types. -/
def Go.Rex.S.ti : Go.Rex.TI := [(2, ⟨.other, .int .i64, 8⟩),
  (3, ⟨.other, .int .i64, 8⟩),
  (4, ⟨.other, .bool, 1⟩),
  (5, ⟨.other, .int .u8, 1⟩),
  (6, ⟨.other, .int .u8, 1⟩),
  (7, ⟨.strct [(0, 2), (0, 3), (0, 4), (0, 6)], .pr (.int .i64) (.pr (.int .i64) (.pr (.bool) (.pr (.int .u8) (.nl)))), 24⟩),
  (8, ⟨.strct [(0, 2), (0, 3), (0, 4), (0, 6)], .pr (.int .i64) (.pr (.int .i64) (.pr (.bool) (.pr (.int .u8) (.nl)))), 24⟩),
  (9, ⟨.other, .str, 16⟩),
  (10, ⟨.other, .str, 16⟩),
  (11, ⟨.other, .str, 16⟩),
  (12, ⟨.other, .int .u64, 8⟩),
  (13, ⟨.strct [(0, 9), (0, 12)], .pr (.str) (.pr (.int .u64) (.nl)), 24⟩),
  (14, ⟨.strct [(0, 9), (0, 12)], .pr (.str) (.pr (.int .u64) (.nl)), 24⟩),
  (21, ⟨.other, .int .i32, 4⟩),
  (22, ⟨.slice 49, .sl (.sl (.int .i64)), 24⟩),
  (29, ⟨.slice 74, .sl (.pr (.int .i64) (.pr (.int .i64) (.pr (.int .i64) (.pr (.int .i64) (.nl))))), 24⟩),
  (32, ⟨.slice 72, .sl (.pr (.int .i64) (.pr (.int .i64) (.pr (.int .i64) (.pr (.int .i64) (.nl))))), 24⟩),
  (38, ⟨.slice 101, .sl (.pr (.sl (.pr (.int .i64) (.pr (.int .i64) (.nl)))) (.nl)), 24⟩),
  (39, ⟨.strct [(0, 2), (0, 2), (0, 38)], .pr (.int .i64) (.pr (.int .i64) (.pr (.sl (.pr (.sl (.pr (.int .i64) (.pr (.int .i64) (.nl)))) (.nl))) (.nl))), 40⟩),
  (40, ⟨.strct [(0, 2), (0, 2), (0, 38)], .pr (.int .i64) (.pr (.int .i64) (.pr (.sl (.pr (.sl (.pr (.int .i64) (.pr (.int .i64) (.nl)))) (.nl))) (.nl))), 40⟩),
  (43, ⟨.slice 82, .sl (.pr (.sl (.pr (.int .i64) (.pr (.int .i64) (.nl)))) (.nl)), 24⟩),
  (44, ⟨.strct [(0, 2), (0, 2), (0, 43)], .pr (.int .i64) (.pr (.int .i64) (.pr (.sl (.pr (.sl (.pr (.int .i64) (.pr (.int .i64) (.nl)))) (.nl))) (.nl))), 40⟩),
  (45, ⟨.strct [(0, 2), (0, 2), (0, 43)], .pr (.int .i64) (.pr (.int .i64) (.pr (.sl (.pr (.sl (.pr (.int .i64) (.pr (.int .i64) (.nl)))) (.nl))) (.nl))), 40⟩),
  (49, ⟨.slice 2, .sl (.int .i64), 24⟩),
  (59, ⟨.slice 32, .sl (.sl (.pr (.int .i64) (.pr (.int .i64) (.pr (.int .i64) (.pr (.int .i64) (.nl)))))), 24⟩),
  (71, ⟨.strct [(0, 2), (0, 2), (0, 2), (0, 2)], .pr (.int .i64) (.pr (.int .i64) (.pr (.int .i64) (.pr (.int .i64) (.nl)))), 32⟩),
  (72, ⟨.strct [(0, 2), (0, 2), (0, 2), (0, 2)], .pr (.int .i64) (.pr (.int .i64) (.pr (.int .i64) (.pr (.int .i64) (.nl)))), 32⟩),
  (74, ⟨.strct [(0, 2), (0, 2), (0, 2), (0, 2)], .pr (.int .i64) (.pr (.int .i64) (.pr (.int .i64) (.pr (.int .i64) (.nl)))), 32⟩),
  (80, ⟨.slice 84, .sl (.pr (.int .i64) (.pr (.int .i64) (.nl))), 24⟩),
  (81, ⟨.strct [(0, 80)], .pr (.sl (.pr (.int .i64) (.pr (.int .i64) (.nl)))) (.nl), 24⟩),
  (82, ⟨.strct [(0, 80)], .pr (.sl (.pr (.int .i64) (.pr (.int .i64) (.nl)))) (.nl), 24⟩),
  (83, ⟨.strct [(0, 2), (0, 2)], .pr (.int .i64) (.pr (.int .i64) (.nl)), 16⟩),
  (84, ⟨.strct [(0, 2), (0, 2)], .pr (.int .i64) (.pr (.int .i64) (.nl)), 16⟩),
  (99, ⟨.slice 118, .sl (.pr (.int .i64) (.pr (.int .i64) (.nl))), 24⟩),
  (100, ⟨.strct [(0, 99)], .pr (.sl (.pr (.int .i64) (.pr (.int .i64) (.nl)))) (.nl), 24⟩),
  (101, ⟨.strct [(0, 99)], .pr (.sl (.pr (.int .i64) (.pr (.int .i64) (.nl)))) (.nl), 24⟩),
  (105, ⟨.strct [(0, 2), (0, 2), (0, 2), (0, 2)], .pr (.int .i64) (.pr (.int .i64) (.pr (.int .i64) (.pr (.int .i64) (.nl)))), 32⟩),
  (106, ⟨.strct [(0, 2), (0, 2), (0, 2), (0, 2)], .pr (.int .i64) (.pr (.int .i64) (.pr (.int .i64) (.pr (.int .i64) (.nl)))), 32⟩),
  (118, ⟨.strct [(0, 2), (0, 2)], .pr (.int .i64) (.pr (.int .i64) (.nl)), 16⟩),
  (127, ⟨.other, .int .u32, 4⟩),
  (128, ⟨.other, .int .u8, 1⟩),
  (129, ⟨.other, .int .u8, 1⟩),
  (131, ⟨.other, .bx (.int .u8), 8⟩),
  (132, ⟨.other, .int .i32, 4⟩),
  (133, ⟨.other, .int .i32, 4⟩)]

def Go.Pf.FUEL : Nat := 18446744073709551616
theorem Go.Rex.S.tiOK : ∀ t row, lk S.ti t = some row → RowOK Go.Proofs.Try.prog t row := tiB_ok (by kernel_rfl)
theorem Go.Rex.S.mixedOK : Go.Proofs.Try.prog.follows .mixedOrders = true := by kernel_rfl
/-! laws_szInt64S: function 58, [.rd (.sl (.int .i64)), .rd (.int .i64)] -/
def Go.Rex.S.laws_szInt64S.G : Go.Rex.Cfg := (Go.Rex.Cfg.mk Go.Rex.S.ti [] : Go.Rex.Cfg)
def Go.Pf.laws_szInt64S.f (a0 : List Int) (a1 : Int) : Option Int :=
  bif Decidable.decide (Go.IntKind.wrap Go.IntKind.i64 (a1 - (↑(List.length a0) : Int)) < 0) then Option.some (-1)
  else Option.some (Go.IntKind.wrap Go.IntKind.i64 (a1 - (↑(List.length a0) : Int)))
@[reducible] def Go.Rex.S.laws_szInt64S.s : Go.Rex.Summ := ⟨[.rd (.sl (.int .i64)), .rd (.int .i64)], .int .i64, .no, 1, Int, fun x => Go.Pf.laws_szInt64S.f x.1 x.2.1, fun y => y, fun _ => ()⟩
@[reducible] def Go.Rex.S.laws_szInt64S.T : List (Nat × Go.Rex.LSum) := []
theorem Go.Rex.S.laws_szInt64S.GOK : CfgOK Go.Proofs.Try.prog Go.Rex.S.laws_szInt64S.G := ⟨S.tiOK, TOK.fns (l := []) trivial, S.mixedOK⟩
theorem Go.Rex.S.laws_szInt64S.from0 : From Go.Proofs.Try.prog Go.Rex.S.laws_szInt64S.T (Go.Rex.bodyOf Go.Proofs.Try.f58) 0 := from_end (by kernel_rfl)
theorem Go.Rex.S.laws_szInt64S.ok : SummC Go.Proofs.Try.prog 58 Go.Rex.S.laws_szInt64S.s := summ_c Go.Rex.S.laws_szInt64S.GOK Go.Proofs.Try.func58 (by kernel_rfl) (body := (Go.Rex.bodyOf Go.Proofs.Try.f58)) (by kernel_rfl) (from_all Go.Rex.S.laws_szInt64S.from0) (rts := [.tm 4]) (by kernel_rfl) Go.Rex.S.laws_szInt64S.s (by kernel_rfl) (of_decide_eq_true (by kernel_rfl)) rfl (fun p _ => p) (fun _ _ => ⟨rfl, rfl⟩) (fun x => by kernel_rfl)

/-! laws_szInt64SS: function 15, [.rd (.sl (.sl (.int .i64))), .rd (.int .i64)] -/
def Go.Rex.S.laws_szInt64SS.G : Go.Rex.Cfg := (Go.Rex.Cfg.mk Go.Rex.S.ti [(58, Go.Rex.S.laws_szInt64S.s)] : Go.Rex.Cfg)
def Go.Pf.laws_szInt64SS.l0 : Nat → List (List Int) → Int → Int → Option ((Int × Unit) ⊕ (Int × Unit))
  | 0, _, _, _ => none
  | k + 1, x0, x1, x5 =>
    bif Decidable.decide (x5 < (↑(List.length x0) : Int)) then
      bif Go.Rex.inb x5 (List.length x0) then
        Option.bind
          (Go.Pf.laws_szInt64S.f
            (List.getD x0 (Go.Rex.natOf x5) (Go.Rex.Ty.dflt (Go.Rex.Ty.sl (Go.Rex.Ty.int Go.IntKind.i64)))) x1)
          fun y =>
          bif Decidable.decide (y < 0) then Option.some (Sum.inl (-1, ()))
          else Go.Pf.laws_szInt64SS.l0 k x0 y (Go.IntKind.wrap Go.IntKind.i64 (x5 + 1))
      else Option.none
    else Option.some (Sum.inr (x1, ()))
def Go.Rex.S.laws_szInt64SS.L0 : Go.Rex.LSum := ⟨⟨27, []⟩, [.dt 0 (.sl (.sl (.int .i64))), .dt 1 (.int .i64), .dt 5 (.int .i64)], [(0, [.dt 4 (.int .i64)]), (1, [.dt 1 (.int .i64)])], fun x => Go.Pf.laws_szInt64SS.l0 Go.Pf.FUEL x.1 x.2.1 x.2.2.1⟩
def Go.Pf.laws_szInt64SS.f (a0 : List (List Int)) (a1 : Int) : Option Int :=
  bif Decidable.decide (Go.IntKind.wrap Go.IntKind.i64 (a1 - (↑(List.length a0) : Int)) < 0) then Option.some (-1)
  else
    Option.bind
      (Go.Pf.laws_szInt64SS.l0 Go.Pf.FUEL a0 (Go.IntKind.wrap Go.IntKind.i64 (a1 - (↑(List.length a0) : Int))) 0)
      fun out =>
      match out with
      | Sum.inl a => Option.some (Prod.fst a)
      | Sum.inr b => Option.some (Prod.fst b)
@[reducible] def Go.Rex.S.laws_szInt64SS.s : Go.Rex.Summ := ⟨[.rd (.sl (.sl (.int .i64))), .rd (.int .i64)], .int .i64, .no, 1, Int, fun x => Go.Pf.laws_szInt64SS.f x.1 x.2.1, fun y => y, fun _ => ()⟩
@[reducible] def Go.Rex.S.laws_szInt64SS.T : List (Nat × Go.Rex.LSum) := [(0, Go.Rex.S.laws_szInt64SS.L0)]
theorem Go.Rex.S.laws_szInt64SS.GOK : CfgOK Go.Proofs.Try.prog Go.Rex.S.laws_szInt64SS.G := ⟨S.tiOK, TOK.fns (l := [(58, Go.Rex.S.laws_szInt64S.s)]) ⟨Go.Rex.S.laws_szInt64S.ok.ok, trivial⟩, S.mixedOK⟩
theorem Go.Rex.S.laws_szInt64SS.from1 : From Go.Proofs.Try.prog Go.Rex.S.laws_szInt64SS.T (Go.Rex.bodyOf Go.Proofs.Try.f15) 1 := from_end (by kernel_rfl)
theorem Go.Rex.S.laws_szInt64SS.from0 : From Go.Proofs.Try.prog Go.Rex.S.laws_szInt64SS.T (Go.Rex.bodyOf Go.Proofs.Try.f15) 0 := from_step Go.Rex.S.laws_szInt64SS.GOK Go.Rex.S.laws_szInt64SS.from1 Go.Rex.S.laws_szInt64SS.L0 rfl (fun k x => Go.Pf.laws_szInt64SS.l0 k x.1 x.2.1 x.2.2.1) (fun _ => rfl) (fun k x => by kernel_rfl) Go.Pf.FUEL (fun _ => rfl)
theorem Go.Rex.S.laws_szInt64SS.ok : SummC Go.Proofs.Try.prog 15 Go.Rex.S.laws_szInt64SS.s := summ_c Go.Rex.S.laws_szInt64SS.GOK Go.Proofs.Try.func15 (by kernel_rfl) (body := (Go.Rex.bodyOf Go.Proofs.Try.f15)) (by kernel_rfl) (from_all Go.Rex.S.laws_szInt64SS.from0) (rts := [.tm 4]) (by kernel_rfl) Go.Rex.S.laws_szInt64SS.s (by kernel_rfl) (of_decide_eq_true (by kernel_rfl)) rfl (fun p _ => p) (fun _ _ => ⟨rfl, rfl⟩) (fun x => by kernel_rfl)

/-! laws_toInt64S: function 60, [.rd (.sl (.int .i64))] -/
def Go.Rex.S.laws_toInt64S.G : Go.Rex.Cfg := (Go.Rex.Cfg.mk Go.Rex.S.ti [] : Go.Rex.Cfg)
def Go.Pf.laws_toInt64S.l0 : Nat → List Int → List Int → Int → Option (List Int × Unit)
  | 0, _, _, _ => none
  | k + 1, x0, x3, x4 =>
    bif Decidable.decide (x4 < (↑(List.length x0) : Int)) then
      bif Go.Rex.inb x4 (List.length x0) then
        bif Go.Rex.inb x4 (List.length x3) then
          Go.Pf.laws_toInt64S.l0 k x0
            (List.set x3 (Go.Rex.natOf x4) (List.getD x0 (Go.Rex.natOf x4) (Go.Rex.Ty.dflt (Go.Rex.Ty.int Go.IntKind.i64))))
            (Go.IntKind.wrap Go.IntKind.i64 (x4 + 1))
        else Option.none
      else Option.none
    else Option.some (x3, ())
def Go.Rex.S.laws_toInt64S.L0 : Go.Rex.LSum := ⟨⟨22, []⟩, [.dt 0 (.sl (.int .i64)), .own 3 200003 [] (.sl (.int .i64)) (.sl (.no)), .dt 4 (.int .i64)], [(1, [.own 3 200003 [] (.sl (.int .i64)) (.sl (.no))])], fun x => Go.Pf.laws_toInt64S.l0 Go.Pf.FUEL x.1 x.2.1 x.2.2.1⟩
def Go.Pf.laws_toInt64S.f (a0 : List Int) : Option (List Int) :=
  bif Go.Rex.mkOK (↑(List.length a0) : Int) (↑(List.length a0) : Int) then
    Option.bind
      (Go.Pf.laws_toInt64S.l0 Go.Pf.FUEL a0
        (List.replicate (Int.toNat (↑(List.length a0) : Int)) (Go.Rex.Ty.dflt (Go.Rex.Ty.int Go.IntKind.i64))) 0)
      fun out => Option.some (Prod.fst out)
  else Option.none
@[reducible] def Go.Rex.S.laws_toInt64S.s : Go.Rex.Summ := ⟨[.rd (.sl (.int .i64))], .sl (.int .i64), .sl (.no), 1, List Int, fun x => Go.Pf.laws_toInt64S.f x.1, fun y => y, fun _ => ()⟩
@[reducible] def Go.Rex.S.laws_toInt64S.T : List (Nat × Go.Rex.LSum) := [(0, Go.Rex.S.laws_toInt64S.L0)]
theorem Go.Rex.S.laws_toInt64S.GOK : CfgOK Go.Proofs.Try.prog Go.Rex.S.laws_toInt64S.G := ⟨S.tiOK, TOK.fns (l := []) trivial, S.mixedOK⟩
theorem Go.Rex.S.laws_toInt64S.from1 : From Go.Proofs.Try.prog Go.Rex.S.laws_toInt64S.T (Go.Rex.bodyOf Go.Proofs.Try.f60) 1 := from_end (by kernel_rfl)
theorem Go.Rex.S.laws_toInt64S.from0 : From Go.Proofs.Try.prog Go.Rex.S.laws_toInt64S.T (Go.Rex.bodyOf Go.Proofs.Try.f60) 0 := from_step Go.Rex.S.laws_toInt64S.GOK Go.Rex.S.laws_toInt64S.from1 Go.Rex.S.laws_toInt64S.L0 rfl (fun k x => Go.Pf.laws_toInt64S.l0 k x.1 x.2.1 x.2.2.1) (fun _ => rfl) (fun k x => by kernel_rfl) Go.Pf.FUEL (fun _ => rfl)
theorem Go.Rex.S.laws_toInt64S.ok : SummC Go.Proofs.Try.prog 60 Go.Rex.S.laws_toInt64S.s := summ_c Go.Rex.S.laws_toInt64S.GOK Go.Proofs.Try.func60 (by kernel_rfl) (body := (Go.Rex.bodyOf Go.Proofs.Try.f60)) (by kernel_rfl) (from_all Go.Rex.S.laws_toInt64S.from0) (rts := [.tm 2]) (by kernel_rfl) Go.Rex.S.laws_toInt64S.s (by kernel_rfl) (of_decide_eq_true (by kernel_rfl)) rfl (fun p _ => p) (fun _ _ => ⟨rfl, rfl⟩) (fun x => by kernel_rfl)

/-! laws_toInt64SS: function 17, [.rd (.sl (.sl (.int .i64)))] -/
def Go.Rex.S.laws_toInt64SS.G : Go.Rex.Cfg := (Go.Rex.Cfg.mk Go.Rex.S.ti [(60, Go.Rex.S.laws_toInt64S.s)] : Go.Rex.Cfg)
def Go.Pf.laws_toInt64SS.l0 : Nat → List (List Int) → List (List Int) → Int → Option (List (List Int) × Unit)
  | 0, _, _, _ => none
  | k + 1, x0, x3, x4 =>
    bif Decidable.decide (x4 < (↑(List.length x0) : Int)) then
      bif Go.Rex.inb x4 (List.length x0) then
        Option.bind
          (Go.Pf.laws_toInt64S.f
            (List.getD x0 (Go.Rex.natOf x4) (Go.Rex.Ty.dflt (Go.Rex.Ty.sl (Go.Rex.Ty.int Go.IntKind.i64)))))
          fun y =>
          bif Go.Rex.inb x4 (List.length x3) then
            Go.Pf.laws_toInt64SS.l0 k x0 (List.set x3 (Go.Rex.natOf x4) y) (Go.IntKind.wrap Go.IntKind.i64 (x4 + 1))
          else Option.none
      else Option.none
    else Option.some (x3, ())
def Go.Rex.S.laws_toInt64SS.L0 : Go.Rex.LSum := ⟨⟨23, []⟩, [.dt 0 (.sl (.sl (.int .i64))), .own 3 200003 [] (.sl (.sl (.int .i64))) (.sl (.sl (.no))), .dt 4 (.int .i64)], [(1, [.own 3 200003 [] (.sl (.sl (.int .i64))) (.sl (.sl (.no)))])], fun x => Go.Pf.laws_toInt64SS.l0 Go.Pf.FUEL x.1 x.2.1 x.2.2.1⟩
def Go.Pf.laws_toInt64SS.f (a0 : List (List Int)) : Option (List (List Int)) :=
  bif Go.Rex.mkOK (↑(List.length a0) : Int) (↑(List.length a0) : Int) then
    Option.bind
      (Go.Pf.laws_toInt64SS.l0 Go.Pf.FUEL a0
        (List.replicate (Int.toNat (↑(List.length a0) : Int))
          (Go.Rex.Ty.dflt (Go.Rex.Ty.sl (Go.Rex.Ty.int Go.IntKind.i64))))
        0)
      fun out => Option.some (Prod.fst out)
  else Option.none
@[reducible] def Go.Rex.S.laws_toInt64SS.s : Go.Rex.Summ := ⟨[.rd (.sl (.sl (.int .i64)))], .sl (.sl (.int .i64)), .sl (.sl (.no)), 1, List (List Int), fun x => Go.Pf.laws_toInt64SS.f x.1, fun y => y, fun _ => ()⟩
@[reducible] def Go.Rex.S.laws_toInt64SS.T : List (Nat × Go.Rex.LSum) := [(0, Go.Rex.S.laws_toInt64SS.L0)]
theorem Go.Rex.S.laws_toInt64SS.GOK : CfgOK Go.Proofs.Try.prog Go.Rex.S.laws_toInt64SS.G := ⟨S.tiOK, TOK.fns (l := [(60, Go.Rex.S.laws_toInt64S.s)]) ⟨Go.Rex.S.laws_toInt64S.ok.ok, trivial⟩, S.mixedOK⟩
theorem Go.Rex.S.laws_toInt64SS.from1 : From Go.Proofs.Try.prog Go.Rex.S.laws_toInt64SS.T (Go.Rex.bodyOf Go.Proofs.Try.f17) 1 := from_end (by kernel_rfl)
theorem Go.Rex.S.laws_toInt64SS.from0 : From Go.Proofs.Try.prog Go.Rex.S.laws_toInt64SS.T (Go.Rex.bodyOf Go.Proofs.Try.f17) 0 := from_step Go.Rex.S.laws_toInt64SS.GOK Go.Rex.S.laws_toInt64SS.from1 Go.Rex.S.laws_toInt64SS.L0 rfl (fun k x => Go.Pf.laws_toInt64SS.l0 k x.1 x.2.1 x.2.2.1) (fun _ => rfl) (fun k x => by kernel_rfl) Go.Pf.FUEL (fun _ => rfl)
theorem Go.Rex.S.laws_toInt64SS.ok : SummC Go.Proofs.Try.prog 17 Go.Rex.S.laws_toInt64SS.s := summ_c Go.Rex.S.laws_toInt64SS.GOK Go.Proofs.Try.func17 (by kernel_rfl) (body := (Go.Rex.bodyOf Go.Proofs.Try.f17)) (by kernel_rfl) (from_all Go.Rex.S.laws_toInt64SS.from0) (rts := [.tm 2]) (by kernel_rfl) Go.Rex.S.laws_toInt64SS.s (by kernel_rfl) (of_decide_eq_true (by kernel_rfl)) rfl (fun p _ => p) (fun _ _ => ⟨rfl, rfl⟩) (fun x => by kernel_rfl)

/-! spec_l15In: function 59, [.rd (.int .i64), .rd (.int .i64), .rd (.int .i64)] -/
def Go.Rex.S.spec_l15In.G : Go.Rex.Cfg := (Go.Rex.Cfg.mk Go.Rex.S.ti [] : Go.Rex.Cfg)
def Go.Pf.spec_l15In.f (a0 : Int) (a1 : Int) (a2 : Int) : Option Bool :=
  bif Decidable.decide (a0 ≥ a1) then Option.some (Decidable.decide (a0 ≤ a2)) else Option.some Bool.false
@[reducible] def Go.Rex.S.spec_l15In.s : Go.Rex.Summ := ⟨[.rd (.int .i64), .rd (.int .i64), .rd (.int .i64)], .bool, .no, 1, Bool, fun x => Go.Pf.spec_l15In.f x.1 x.2.1 x.2.2.1, fun y => y, fun _ => ()⟩
@[reducible] def Go.Rex.S.spec_l15In.T : List (Nat × Go.Rex.LSum) := []
theorem Go.Rex.S.spec_l15In.GOK : CfgOK Go.Proofs.Try.prog Go.Rex.S.spec_l15In.G := ⟨S.tiOK, TOK.fns (l := []) trivial, S.mixedOK⟩
theorem Go.Rex.S.spec_l15In.from0 : From Go.Proofs.Try.prog Go.Rex.S.spec_l15In.T (Go.Rex.bodyOf Go.Proofs.Try.f59) 0 := from_end (by kernel_rfl)
theorem Go.Rex.S.spec_l15In.ok : SummC Go.Proofs.Try.prog 59 Go.Rex.S.spec_l15In.s := summ_c Go.Rex.S.spec_l15In.GOK Go.Proofs.Try.func59 (by kernel_rfl) (body := (Go.Rex.bodyOf Go.Proofs.Try.f59)) (by kernel_rfl) (from_all Go.Rex.S.spec_l15In.from0) (rts := [.tm 6]) (by kernel_rfl) Go.Rex.S.spec_l15In.s (by kernel_rfl) (of_decide_eq_true (by kernel_rfl)) rfl (fun p _ => p) (fun _ _ => ⟨rfl, rfl⟩) (fun x => by kernel_rfl)

/-! spec_IsTable: function 16, [.rd (.sl (.sl (.int .i64))), .rd (.int .i64)] -/
def Go.Rex.S.spec_IsTable.G : Go.Rex.Cfg := (Go.Rex.Cfg.mk Go.Rex.S.ti [(59, Go.Rex.S.spec_l15In.s)] : Go.Rex.Cfg)
def Go.Pf.spec_IsTable.l1 : Nat → List (List Int) → Int → Int → Int → Option ((Bool × Unit) ⊕ (List (List Int) × Int × Int × Unit))
  | 0, _, _, _, _ => none
  | k + 1, x0, x1, x5, x6 =>
    bif Decidable.decide (x6 < 4) then
      bif Go.Rex.inb x5 (List.length x0) then
        bif
            Go.Rex.inb x6
              (List.length
                (List.getD x0 (Go.Rex.natOf x5) (Go.Rex.Ty.dflt (Go.Rex.Ty.sl (Go.Rex.Ty.int Go.IntKind.i64))))) then
          Option.bind
            (Go.Pf.spec_l15In.f
              (List.getD (List.getD x0 (Go.Rex.natOf x5) (Go.Rex.Ty.dflt (Go.Rex.Ty.sl (Go.Rex.Ty.int Go.IntKind.i64))))
                (Go.Rex.natOf x6) (Go.Rex.Ty.dflt (Go.Rex.Ty.int Go.IntKind.i64)))
              0 x1)
            fun y =>
            bif !y then Option.some (Sum.inl (Bool.false, ())) else Go.Pf.spec_IsTable.l1 k x0 x1 x5 (Go.IntKind.wrap Go.IntKind.i64 (x6 + 1))
        else Option.none
      else Option.none
    else Option.some (Sum.inr (x0, x1, x5, ()))
def Go.Rex.S.spec_IsTable.L1 : Go.Rex.LSum := ⟨⟨39, []⟩, [.dt 0 (.sl (.sl (.int .i64))), .dt 1 (.int .i64), .dt 5 (.int .i64), .dt 6 (.int .i64)], [(0, [.dt 4 (.bool)]), (3, [.dt 0 (.sl (.sl (.int .i64))), .dt 1 (.int .i64), .dt 5 (.int .i64)])], fun x => Go.Pf.spec_IsTable.l1 Go.Pf.FUEL x.1 x.2.1 x.2.2.1 x.2.2.2.1⟩
def Go.Pf.spec_IsTable.l0 : Nat → List (List Int) → Int → Int → Option ((Bool × Unit) ⊕ (Unit))
  | 0, _, _, _ => none
  | k + 1, x0, x1, x5 =>
    bif Decidable.decide (x5 < 5) then
      bif Go.Rex.inb x5 (List.length x0) then
        bif
            (↑(List.length
                    (List.getD x0 (Go.Rex.natOf x5) (Go.Rex.Ty.dflt (Go.Rex.Ty.sl (Go.Rex.Ty.int Go.IntKind.i64))))) :
                Int) !=
              4 then
          Option.some (Sum.inl (Bool.false, ()))
        else
          Option.bind (Go.Pf.spec_IsTable.l1 Go.Pf.FUEL x0 x1 x5 0) fun out =>
            match out with
            | Sum.inl a => Option.some (Sum.inl (Prod.fst a, ()))
            | Sum.inr b =>
              Go.Pf.spec_IsTable.l0 k (Prod.fst b) (Prod.fst (Prod.snd b))
                (Go.IntKind.wrap Go.IntKind.i64 (Prod.fst (Prod.snd (Prod.snd b)) + 1))
      else Option.none
    else Option.some (Sum.inr ())
def Go.Rex.S.spec_IsTable.L0 : Go.Rex.LSum := ⟨⟨39, []⟩, [.dt 0 (.sl (.sl (.int .i64))), .dt 1 (.int .i64), .dt 5 (.int .i64)], [(0, [.dt 4 (.bool)]), (1, [])], fun x => Go.Pf.spec_IsTable.l0 Go.Pf.FUEL x.1 x.2.1 x.2.2.1⟩
def Go.Pf.spec_IsTable.f (a0 : List (List Int)) (a1 : Int) : Option Bool :=
  Option.bind (Go.Pf.spec_l15In.f a1 0 13) fun y =>
    bif !y then Option.some Bool.false
    else
      bif (↑(List.length a0) : Int) != 5 then Option.some Bool.false
      else
        Option.bind (Go.Pf.spec_IsTable.l0 Go.Pf.FUEL a0 a1 0) fun out =>
          match out with
          | Sum.inl a => Option.some (Prod.fst a)
          | Sum.inr b => Option.some Bool.true
@[reducible] def Go.Rex.S.spec_IsTable.s : Go.Rex.Summ := ⟨[.rd (.sl (.sl (.int .i64))), .rd (.int .i64)], .bool, .no, 1, Bool, fun x => Go.Pf.spec_IsTable.f x.1 x.2.1, fun y => y, fun _ => ()⟩
@[reducible] def Go.Rex.S.spec_IsTable.T : List (Nat × Go.Rex.LSum) := [(0, Go.Rex.S.spec_IsTable.L0), (1, Go.Rex.S.spec_IsTable.L1)]
theorem Go.Rex.S.spec_IsTable.GOK : CfgOK Go.Proofs.Try.prog Go.Rex.S.spec_IsTable.G := ⟨S.tiOK, TOK.fns (l := [(59, Go.Rex.S.spec_l15In.s)]) ⟨Go.Rex.S.spec_l15In.ok.ok, trivial⟩, S.mixedOK⟩
theorem Go.Rex.S.spec_IsTable.from2 : From Go.Proofs.Try.prog Go.Rex.S.spec_IsTable.T (Go.Rex.bodyOf Go.Proofs.Try.f16) 2 := from_end (by kernel_rfl)
theorem Go.Rex.S.spec_IsTable.from1 : From Go.Proofs.Try.prog Go.Rex.S.spec_IsTable.T (Go.Rex.bodyOf Go.Proofs.Try.f16) 1 := from_step Go.Rex.S.spec_IsTable.GOK Go.Rex.S.spec_IsTable.from2 Go.Rex.S.spec_IsTable.L1 rfl (fun k x => Go.Pf.spec_IsTable.l1 k x.1 x.2.1 x.2.2.1 x.2.2.2.1) (fun _ => rfl) (fun k x => by kernel_rfl) Go.Pf.FUEL (fun _ => rfl)
theorem Go.Rex.S.spec_IsTable.from0 : From Go.Proofs.Try.prog Go.Rex.S.spec_IsTable.T (Go.Rex.bodyOf Go.Proofs.Try.f16) 0 := from_step Go.Rex.S.spec_IsTable.GOK Go.Rex.S.spec_IsTable.from1 Go.Rex.S.spec_IsTable.L0 rfl (fun k x => Go.Pf.spec_IsTable.l0 k x.1 x.2.1 x.2.2.1) (fun _ => rfl) (fun k x => by kernel_rfl) Go.Pf.FUEL (fun _ => rfl)
theorem Go.Rex.S.spec_IsTable.ok : SummC Go.Proofs.Try.prog 16 Go.Rex.S.spec_IsTable.s := summ_c Go.Rex.S.spec_IsTable.GOK Go.Proofs.Try.func16 (by kernel_rfl) (body := (Go.Rex.bodyOf Go.Proofs.Try.f16)) (by kernel_rfl) (from_all Go.Rex.S.spec_IsTable.from0) (rts := [.tm 4]) (by kernel_rfl) Go.Rex.S.spec_IsTable.s (by kernel_rfl) (of_decide_eq_true (by kernel_rfl)) rfl (fun p _ => p) (fun _ _ => ⟨rfl, rfl⟩) (fun x => by kernel_rfl)

/-! spec_SideTricks: function 20, [.rd (.sl (.sl (.int .i64))), .rd (.int .i64), .rd (.int .i64)] -/
def Go.Rex.S.spec_SideTricks.G : Go.Rex.Cfg := (Go.Rex.Cfg.mk Go.Rex.S.ti [(16, Go.Rex.S.spec_IsTable.s), (59, Go.Rex.S.spec_l15In.s)] : Go.Rex.Cfg)
def Go.Pf.spec_SideTricks.f (a0 : List (List Int)) (a1 : Int) (a2 : Int) : Option Int :=
  Option.bind (Go.Pf.spec_IsTable.f a0 13) fun y =>
    bif !y then Option.some (-1)
    else
      Option.bind (Go.Pf.spec_l15In.f a1 0 4) fun y =>
        bif !y then Option.some (-1)
        else
          Option.bind (Go.Pf.spec_l15In.f a2 0 1) fun y =>
            bif !y then Option.some (-1)
            else
              bif Go.Rex.inb a1 (List.length a0) then
                bif
                    Go.Rex.inb a2
                      (List.length
                        (List.getD a0 (Go.Rex.natOf a1)
                          (Go.Rex.Ty.dflt (Go.Rex.Ty.sl (Go.Rex.Ty.int Go.IntKind.i64))))) then
                  bif Go.Rex.inb a1 (List.length a0) then
                    bif
                        Go.Rex.inb (Go.IntKind.wrap Go.IntKind.i64 (a2 + 2))
                          (List.length
                            (List.getD a0 (Go.Rex.natOf a1)
                              (Go.Rex.Ty.dflt (Go.Rex.Ty.sl (Go.Rex.Ty.int Go.IntKind.i64))))) then
                      Option.some
                        (Go.Rex.mxI
                          (List.getD
                            (List.getD a0 (Go.Rex.natOf a1)
                              (Go.Rex.Ty.dflt (Go.Rex.Ty.sl (Go.Rex.Ty.int Go.IntKind.i64))))
                            (Go.Rex.natOf (Go.IntKind.wrap Go.IntKind.i64 (a2 + 2)))
                            (Go.Rex.Ty.dflt (Go.Rex.Ty.int Go.IntKind.i64)))
                          (List.getD
                            (List.getD a0 (Go.Rex.natOf a1)
                              (Go.Rex.Ty.dflt (Go.Rex.Ty.sl (Go.Rex.Ty.int Go.IntKind.i64))))
                            (Go.Rex.natOf a2) (Go.Rex.Ty.dflt (Go.Rex.Ty.int Go.IntKind.i64))))
                    else Option.none
                  else Option.none
                else Option.none
              else Option.none
@[reducible] def Go.Rex.S.spec_SideTricks.s : Go.Rex.Summ := ⟨[.rd (.sl (.sl (.int .i64))), .rd (.int .i64), .rd (.int .i64)], .int .i64, .no, 1, Int, fun x => Go.Pf.spec_SideTricks.f x.1 x.2.1 x.2.2.1, fun y => y, fun _ => ()⟩
@[reducible] def Go.Rex.S.spec_SideTricks.T : List (Nat × Go.Rex.LSum) := []
theorem Go.Rex.S.spec_SideTricks.GOK : CfgOK Go.Proofs.Try.prog Go.Rex.S.spec_SideTricks.G := ⟨S.tiOK, TOK.fns (l := [(16, Go.Rex.S.spec_IsTable.s), (59, Go.Rex.S.spec_l15In.s)]) ⟨Go.Rex.S.spec_IsTable.ok.ok, Go.Rex.S.spec_l15In.ok.ok, trivial⟩, S.mixedOK⟩
theorem Go.Rex.S.spec_SideTricks.from0 : From Go.Proofs.Try.prog Go.Rex.S.spec_SideTricks.T (Go.Rex.bodyOf Go.Proofs.Try.f20) 0 := from_end (by kernel_rfl)
theorem Go.Rex.S.spec_SideTricks.ok : SummC Go.Proofs.Try.prog 20 Go.Rex.S.spec_SideTricks.s := summ_c Go.Rex.S.spec_SideTricks.GOK Go.Proofs.Try.func20 (by kernel_rfl) (body := (Go.Rex.bodyOf Go.Proofs.Try.f20)) (by kernel_rfl) (from_all Go.Rex.S.spec_SideTricks.from0) (rts := [.tm 6]) (by kernel_rfl) Go.Rex.S.spec_SideTricks.s (by kernel_rfl) (of_decide_eq_true (by kernel_rfl)) rfl (fun p _ => p) (fun _ _ => ⟨rfl, rfl⟩) (fun x => by kernel_rfl)

/-! impl_within: function 61, [.rd (.int .i64), .rd (.int .i64), .rd (.int .i64)] -/
def Go.Rex.S.impl_within.G : Go.Rex.Cfg := (Go.Rex.Cfg.mk Go.Rex.S.ti [] : Go.Rex.Cfg)
def Go.Pf.impl_within.f (a0 : Int) (a1 : Int) (a2 : Int) : Option Bool :=
  bif Decidable.decide (a1 ≤ a0) then Option.some (Decidable.decide (a0 ≤ a2)) else Option.some Bool.false
@[reducible] def Go.Rex.S.impl_within.s : Go.Rex.Summ := ⟨[.rd (.int .i64), .rd (.int .i64), .rd (.int .i64)], .bool, .no, 1, Bool, fun x => Go.Pf.impl_within.f x.1 x.2.1 x.2.2.1, fun y => y, fun _ => ()⟩
@[reducible] def Go.Rex.S.impl_within.T : List (Nat × Go.Rex.LSum) := []
theorem Go.Rex.S.impl_within.GOK : CfgOK Go.Proofs.Try.prog Go.Rex.S.impl_within.G := ⟨S.tiOK, TOK.fns (l := []) trivial, S.mixedOK⟩
theorem Go.Rex.S.impl_within.from0 : From Go.Proofs.Try.prog Go.Rex.S.impl_within.T (Go.Rex.bodyOf Go.Proofs.Try.f61) 0 := from_end (by kernel_rfl)
theorem Go.Rex.S.impl_within.ok : SummC Go.Proofs.Try.prog 61 Go.Rex.S.impl_within.s := summ_c Go.Rex.S.impl_within.GOK Go.Proofs.Try.func61 (by kernel_rfl) (body := (Go.Rex.bodyOf Go.Proofs.Try.f61)) (by kernel_rfl) (from_all Go.Rex.S.impl_within.from0) (rts := [.tm 6]) (by kernel_rfl) Go.Rex.S.impl_within.s (by kernel_rfl) (of_decide_eq_true (by kernel_rfl)) rfl (fun p _ => p) (fun _ _ => ⟨rfl, rfl⟩) (fun x => by kernel_rfl)

/-! impl_IsTable_1_1: function 65, [.rd (.int .i64), .ln (.bx (.int .i64)) (.bx (.no))] -/
def Go.Rex.S.impl_IsTable_1_1.G : Go.Rex.Cfg := (Go.Rex.Cfg.mk Go.Rex.S.ti [(61, Go.Rex.S.impl_within.s)] : Go.Rex.Cfg)
def Go.Pf.impl_IsTable_1_1.f (a0 : Int) (a1 : Int) : Option ((Bool × (Int × Unit))) :=
  Option.bind (Go.Pf.impl_within.f a0 0 a1) fun y => Option.some (!y, a1, ())
@[reducible] def Go.Rex.S.impl_IsTable_1_1.s : Go.Rex.Summ := ⟨[.rd (.int .i64), .ln (.bx (.int .i64)) (.bx (.no))], .bool, .no, 1, (Bool × (Int × Unit)), fun x => Go.Pf.impl_IsTable_1_1.f x.1 x.2.1, fun y => y.1, fun y => y.2⟩
@[reducible] def Go.Rex.S.impl_IsTable_1_1.T : List (Nat × Go.Rex.LSum) := []
theorem Go.Rex.S.impl_IsTable_1_1.GOK : CfgOK Go.Proofs.Try.prog Go.Rex.S.impl_IsTable_1_1.G := ⟨S.tiOK, TOK.fns (l := [(61, Go.Rex.S.impl_within.s)]) ⟨Go.Rex.S.impl_within.ok.ok, trivial⟩, S.mixedOK⟩
theorem Go.Rex.S.impl_IsTable_1_1.from0 : From Go.Proofs.Try.prog Go.Rex.S.impl_IsTable_1_1.T (Go.Rex.bodyOf Go.Proofs.Try.f65) 0 := from_end (by kernel_rfl)
theorem Go.Rex.S.impl_IsTable_1_1.ok : SummC Go.Proofs.Try.prog 65 Go.Rex.S.impl_IsTable_1_1.s := summ_c Go.Rex.S.impl_IsTable_1_1.GOK Go.Proofs.Try.func65 (by kernel_rfl) (body := (Go.Rex.bodyOf Go.Proofs.Try.f65)) (by kernel_rfl) (from_all Go.Rex.S.impl_IsTable_1_1.from0) (rts := [.tm 3]) (by kernel_rfl) Go.Rex.S.impl_IsTable_1_1.s (by kernel_rfl) (of_decide_eq_true (by kernel_rfl)) rfl (fun p q => (p, q)) (fun _ _ => ⟨rfl, rfl⟩) (fun x => by kernel_rfl)

/-! impl_IsTable_1_1_bn: function 65, [.rd (.int .i64), .bn (.pr (.bx (.int .i64)) (.nl)) (.pr (.bx (.no)) (.no))] -/
@[reducible] def Go.Rex.S.impl_IsTable_1_1_bn.s : Go.Rex.Summ := Go.Rex.bnSumm [.rd (.int .i64), .bn (.pr (.bx (.int .i64)) (.nl)) (.pr (.bx (.no)) (.no))] Go.Rex.S.impl_IsTable_1_1.s.rt Go.Rex.S.impl_IsTable_1_1.s.ro Go.Rex.S.impl_IsTable_1_1.s.nres Go.Rex.S.impl_IsTable_1_1.s.σ Go.Rex.S.impl_IsTable_1_1.s.fn Go.Rex.S.impl_IsTable_1_1.s.res Go.Rex.S.impl_IsTable_1_1.s.fin
theorem Go.Rex.S.impl_IsTable_1_1_bn.ok : SummC Go.Proofs.Try.prog 65 Go.Rex.S.impl_IsTable_1_1_bn.s := Go.Rex.bn_ok (by kernel_rfl) Go.Rex.S.impl_IsTable_1_1.ok

/-! slices_IndexFunc_f97: function 97, [.rd (.sl (.int .i64)), .ln (.fn 65 (.pr (.bx (.int .i64)) (.nl))) (.fn (.pr (.bx (.no)) (.no)))] -/
def Go.Rex.S.slices_IndexFunc_f97.G : Go.Rex.Cfg := (Go.Rex.Cfg.mk Go.Rex.S.ti [(65, Go.Rex.S.impl_IsTable_1_1_bn.s)] : Go.Rex.Cfg)
def Go.Pf.slices_IndexFunc_f97.l0 : Nat → (Int × Unit) → List Int → Int → Int → Option (((Int × Unit) × Int × Unit) ⊕ ((Int × Unit) × Unit))
  | 0, _, _, _, _ => none
  | k + 1, h1, x0, x7, x8 =>
    bif Decidable.decide (x8 < x7) then
      bif Go.Rex.inb x8 (List.length x0) then
        Option.bind
          (Go.Pf.impl_IsTable_1_1.f (List.getD x0 (Go.Rex.natOf x8) (Go.Rex.Ty.dflt (Go.Rex.Ty.int Go.IntKind.i64)))
            (Prod.fst h1))
          fun y =>
          bif Prod.fst y then Option.some (Sum.inl ((Prod.fst (Prod.snd y), ()), x8, ()))
          else Go.Pf.slices_IndexFunc_f97.l0 k (Prod.fst (Prod.snd y), ()) x0 x7 (Go.IntKind.wrap Go.IntKind.i64 (x8 + 1))
      else Option.none
    else Option.some (Sum.inr (h1, ()))
def Go.Rex.S.slices_IndexFunc_f97.L0 : Go.Rex.LSum := ⟨⟨19, [1]⟩, [.hid 100001 (.fn 65 (.pr (.bx (.int .i64)) (.nl))) (.fn (.pr (.bx (.no)) (.no))), .dt 0 (.sl (.int .i64)), .ref 1 100001 [], .dt 7 (.int .i64), .dt 8 (.int .i64)], [(0, [.hid 100001 (.fn 65 (.pr (.bx (.int .i64)) (.nl))) (.fn (.pr (.bx (.no)) (.no))), .ref 1 100001 [], .dt 4 (.int .i64)]), (1, [.hid 100001 (.fn 65 (.pr (.bx (.int .i64)) (.nl))) (.fn (.pr (.bx (.no)) (.no))), .ref 1 100001 []])], fun x => Go.Pf.slices_IndexFunc_f97.l0 Go.Pf.FUEL x.1 x.2.1 x.2.2.1 x.2.2.2.1⟩
def Go.Pf.slices_IndexFunc_f97.f (a0 : List Int) (a1 : (Int × Unit)) : Option ((Int × ((Int × Unit) × Unit))) :=
  Option.bind (Go.Pf.slices_IndexFunc_f97.l0 Go.Pf.FUEL a1 a0 (↑(List.length a0) : Int) 0) fun out =>
    match out with
    | Sum.inl a => Option.some (Prod.fst (Prod.snd a), Prod.fst a, ())
    | Sum.inr b => Option.some (-1, Prod.fst b, ())
@[reducible] def Go.Rex.S.slices_IndexFunc_f97.s : Go.Rex.Summ := ⟨[.rd (.sl (.int .i64)), .ln (.fn 65 (.pr (.bx (.int .i64)) (.nl))) (.fn (.pr (.bx (.no)) (.no)))], .int .i64, .no, 1, (Int × ((Int × Unit) × Unit)), fun x => Go.Pf.slices_IndexFunc_f97.f x.1 x.2.1, fun y => y.1, fun y => y.2⟩
@[reducible] def Go.Rex.S.slices_IndexFunc_f97.T : List (Nat × Go.Rex.LSum) := [(0, Go.Rex.S.slices_IndexFunc_f97.L0)]
theorem Go.Rex.S.slices_IndexFunc_f97.GOK : CfgOK Go.Proofs.Try.prog Go.Rex.S.slices_IndexFunc_f97.G := ⟨S.tiOK, TOK.fns (l := [(65, Go.Rex.S.impl_IsTable_1_1_bn.s)]) ⟨Go.Rex.S.impl_IsTable_1_1_bn.ok.ok, trivial⟩, S.mixedOK⟩
theorem Go.Rex.S.slices_IndexFunc_f97.from1 : From Go.Proofs.Try.prog Go.Rex.S.slices_IndexFunc_f97.T (Go.Rex.bodyOf Go.Proofs.Try.f97) 1 := from_end (by kernel_rfl)
theorem Go.Rex.S.slices_IndexFunc_f97.from0 : From Go.Proofs.Try.prog Go.Rex.S.slices_IndexFunc_f97.T (Go.Rex.bodyOf Go.Proofs.Try.f97) 0 := from_step Go.Rex.S.slices_IndexFunc_f97.GOK Go.Rex.S.slices_IndexFunc_f97.from1 Go.Rex.S.slices_IndexFunc_f97.L0 rfl (fun k x => Go.Pf.slices_IndexFunc_f97.l0 k x.1 x.2.1 x.2.2.1 x.2.2.2.1) (fun _ => rfl) (fun k x => by kernel_rfl) Go.Pf.FUEL (fun _ => rfl)
theorem Go.Rex.S.slices_IndexFunc_f97.ok : SummC Go.Proofs.Try.prog 97 Go.Rex.S.slices_IndexFunc_f97.s := summ_c Go.Rex.S.slices_IndexFunc_f97.GOK Go.Proofs.Try.func97 (by kernel_rfl) (body := (Go.Rex.bodyOf Go.Proofs.Try.f97)) (by kernel_rfl) (from_all Go.Rex.S.slices_IndexFunc_f97.from0) (rts := [.tm 4]) (by kernel_rfl) Go.Rex.S.slices_IndexFunc_f97.s (by kernel_rfl) (of_decide_eq_true (by kernel_rfl)) rfl (fun p q => (p, q)) (fun _ _ => ⟨rfl, rfl⟩) (fun x => by kernel_rfl)

/-! slices_ContainsFunc_f64: function 64, [.rd (.sl (.int .i64)), .ln (.fn 65 (.pr (.bx (.int .i64)) (.nl))) (.fn (.pr (.bx (.no)) (.no)))] -/
def Go.Rex.S.slices_ContainsFunc_f64.G : Go.Rex.Cfg := (Go.Rex.Cfg.mk Go.Rex.S.ti [(97, Go.Rex.S.slices_IndexFunc_f97.s)] : Go.Rex.Cfg)
def Go.Pf.slices_ContainsFunc_f64.f (a0 : List Int) (a1 : (Int × Unit)) : Option ((Bool × ((Int × Unit) × Unit))) :=
  Option.bind (Go.Pf.slices_IndexFunc_f97.f a0 a1) fun y =>
    Option.some (Decidable.decide (Prod.fst y ≥ 0), Prod.fst (Prod.snd y), ())
@[reducible] def Go.Rex.S.slices_ContainsFunc_f64.s : Go.Rex.Summ := ⟨[.rd (.sl (.int .i64)), .ln (.fn 65 (.pr (.bx (.int .i64)) (.nl))) (.fn (.pr (.bx (.no)) (.no)))], .bool, .no, 1, (Bool × ((Int × Unit) × Unit)), fun x => Go.Pf.slices_ContainsFunc_f64.f x.1 x.2.1, fun y => y.1, fun y => y.2⟩
@[reducible] def Go.Rex.S.slices_ContainsFunc_f64.T : List (Nat × Go.Rex.LSum) := []
theorem Go.Rex.S.slices_ContainsFunc_f64.GOK : CfgOK Go.Proofs.Try.prog Go.Rex.S.slices_ContainsFunc_f64.G := ⟨S.tiOK, TOK.fns (l := [(97, Go.Rex.S.slices_IndexFunc_f97.s)]) ⟨Go.Rex.S.slices_IndexFunc_f97.ok.ok, trivial⟩, S.mixedOK⟩
theorem Go.Rex.S.slices_ContainsFunc_f64.from0 : From Go.Proofs.Try.prog Go.Rex.S.slices_ContainsFunc_f64.T (Go.Rex.bodyOf Go.Proofs.Try.f64) 0 := from_end (by kernel_rfl)
theorem Go.Rex.S.slices_ContainsFunc_f64.ok : SummC Go.Proofs.Try.prog 64 Go.Rex.S.slices_ContainsFunc_f64.s := summ_c Go.Rex.S.slices_ContainsFunc_f64.GOK Go.Proofs.Try.func64 (by kernel_rfl) (body := (Go.Rex.bodyOf Go.Proofs.Try.f64)) (by kernel_rfl) (from_all Go.Rex.S.slices_ContainsFunc_f64.from0) (rts := [.tm 4]) (by kernel_rfl) Go.Rex.S.slices_ContainsFunc_f64.s (by kernel_rfl) (of_decide_eq_true (by kernel_rfl)) rfl (fun p q => (p, q)) (fun _ _ => ⟨rfl, rfl⟩) (fun x => by kernel_rfl)

/-! impl_IsTable_1: function 63, [.rd (.sl (.int .i64)), .ln (.bx (.int .i64)) (.bx (.no))] -/
def Go.Rex.S.impl_IsTable_1.G : Go.Rex.Cfg := (Go.Rex.Cfg.mk Go.Rex.S.ti [(64, Go.Rex.S.slices_ContainsFunc_f64.s)] : Go.Rex.Cfg)
def Go.Pf.impl_IsTable_1.f (a0 : List Int) (a1 : Int) : Option ((Bool × (Int × Unit))) :=
  bif (↑(List.length a0) : Int) != 4 then Option.some (Bool.true, a1, ())
  else
    Option.bind (Go.Pf.slices_ContainsFunc_f64.f a0 (a1, ())) fun y =>
      Option.some (Prod.fst y, Prod.fst (Prod.fst (Prod.snd y)), ())
@[reducible] def Go.Rex.S.impl_IsTable_1.s : Go.Rex.Summ := ⟨[.rd (.sl (.int .i64)), .ln (.bx (.int .i64)) (.bx (.no))], .bool, .no, 1, (Bool × (Int × Unit)), fun x => Go.Pf.impl_IsTable_1.f x.1 x.2.1, fun y => y.1, fun y => y.2⟩
@[reducible] def Go.Rex.S.impl_IsTable_1.T : List (Nat × Go.Rex.LSum) := []
theorem Go.Rex.S.impl_IsTable_1.GOK : CfgOK Go.Proofs.Try.prog Go.Rex.S.impl_IsTable_1.G := ⟨S.tiOK, TOK.fns (l := [(64, Go.Rex.S.slices_ContainsFunc_f64.s)]) ⟨Go.Rex.S.slices_ContainsFunc_f64.ok.ok, trivial⟩, S.mixedOK⟩
theorem Go.Rex.S.impl_IsTable_1.from0 : From Go.Proofs.Try.prog Go.Rex.S.impl_IsTable_1.T (Go.Rex.bodyOf Go.Proofs.Try.f63) 0 := from_end (by kernel_rfl)
theorem Go.Rex.S.impl_IsTable_1.ok : SummC Go.Proofs.Try.prog 63 Go.Rex.S.impl_IsTable_1.s := summ_c Go.Rex.S.impl_IsTable_1.GOK Go.Proofs.Try.func63 (by kernel_rfl) (body := (Go.Rex.bodyOf Go.Proofs.Try.f63)) (by kernel_rfl) (from_all Go.Rex.S.impl_IsTable_1.from0) (rts := [.tm 3]) (by kernel_rfl) Go.Rex.S.impl_IsTable_1.s (by kernel_rfl) (of_decide_eq_true (by kernel_rfl)) rfl (fun p q => (p, q)) (fun _ _ => ⟨rfl, rfl⟩) (fun x => by kernel_rfl)

/-! impl_IsTable_1_bn: function 63, [.rd (.sl (.int .i64)), .bn (.pr (.bx (.int .i64)) (.nl)) (.pr (.bx (.no)) (.no))] -/
@[reducible] def Go.Rex.S.impl_IsTable_1_bn.s : Go.Rex.Summ := Go.Rex.bnSumm [.rd (.sl (.int .i64)), .bn (.pr (.bx (.int .i64)) (.nl)) (.pr (.bx (.no)) (.no))] Go.Rex.S.impl_IsTable_1.s.rt Go.Rex.S.impl_IsTable_1.s.ro Go.Rex.S.impl_IsTable_1.s.nres Go.Rex.S.impl_IsTable_1.s.σ Go.Rex.S.impl_IsTable_1.s.fn Go.Rex.S.impl_IsTable_1.s.res Go.Rex.S.impl_IsTable_1.s.fin
theorem Go.Rex.S.impl_IsTable_1_bn.ok : SummC Go.Proofs.Try.prog 63 Go.Rex.S.impl_IsTable_1_bn.s := Go.Rex.bn_ok (by kernel_rfl) Go.Rex.S.impl_IsTable_1.ok

/-! slices_IndexFunc: function 96, [.rd (.sl (.sl (.int .i64))), .ln (.fn 63 (.pr (.bx (.int .i64)) (.nl))) (.fn (.pr (.bx (.no)) (.no)))] -/
def Go.Rex.S.slices_IndexFunc.G : Go.Rex.Cfg := (Go.Rex.Cfg.mk Go.Rex.S.ti [(63, Go.Rex.S.impl_IsTable_1_bn.s)] : Go.Rex.Cfg)
def Go.Pf.slices_IndexFunc.l0 : Nat → (Int × Unit) → List (List Int) → Int → Int → Option (((Int × Unit) × Int × Unit) ⊕ ((Int × Unit) × Unit))
  | 0, _, _, _, _ => none
  | k + 1, h1, x0, x7, x8 =>
    bif Decidable.decide (x8 < x7) then
      bif Go.Rex.inb x8 (List.length x0) then
        Option.bind
          (Go.Pf.impl_IsTable_1.f
            (List.getD x0 (Go.Rex.natOf x8) (Go.Rex.Ty.dflt (Go.Rex.Ty.sl (Go.Rex.Ty.int Go.IntKind.i64)))) (Prod.fst h1))
          fun y =>
          bif Prod.fst y then Option.some (Sum.inl ((Prod.fst (Prod.snd y), ()), x8, ()))
          else Go.Pf.slices_IndexFunc.l0 k (Prod.fst (Prod.snd y), ()) x0 x7 (Go.IntKind.wrap Go.IntKind.i64 (x8 + 1))
      else Option.none
    else Option.some (Sum.inr (h1, ()))
def Go.Rex.S.slices_IndexFunc.L0 : Go.Rex.LSum := ⟨⟨19, [1]⟩, [.hid 100001 (.fn 63 (.pr (.bx (.int .i64)) (.nl))) (.fn (.pr (.bx (.no)) (.no))), .dt 0 (.sl (.sl (.int .i64))), .ref 1 100001 [], .dt 7 (.int .i64), .dt 8 (.int .i64)], [(0, [.hid 100001 (.fn 63 (.pr (.bx (.int .i64)) (.nl))) (.fn (.pr (.bx (.no)) (.no))), .ref 1 100001 [], .dt 4 (.int .i64)]), (1, [.hid 100001 (.fn 63 (.pr (.bx (.int .i64)) (.nl))) (.fn (.pr (.bx (.no)) (.no))), .ref 1 100001 []])], fun x => Go.Pf.slices_IndexFunc.l0 Go.Pf.FUEL x.1 x.2.1 x.2.2.1 x.2.2.2.1⟩
def Go.Pf.slices_IndexFunc.f (a0 : List (List Int)) (a1 : (Int × Unit)) : Option ((Int × ((Int × Unit) × Unit))) :=
  Option.bind (Go.Pf.slices_IndexFunc.l0 Go.Pf.FUEL a1 a0 (↑(List.length a0) : Int) 0) fun out =>
    match out with
    | Sum.inl a => Option.some (Prod.fst (Prod.snd a), Prod.fst a, ())
    | Sum.inr b => Option.some (-1, Prod.fst b, ())
@[reducible] def Go.Rex.S.slices_IndexFunc.s : Go.Rex.Summ := ⟨[.rd (.sl (.sl (.int .i64))), .ln (.fn 63 (.pr (.bx (.int .i64)) (.nl))) (.fn (.pr (.bx (.no)) (.no)))], .int .i64, .no, 1, (Int × ((Int × Unit) × Unit)), fun x => Go.Pf.slices_IndexFunc.f x.1 x.2.1, fun y => y.1, fun y => y.2⟩
@[reducible] def Go.Rex.S.slices_IndexFunc.T : List (Nat × Go.Rex.LSum) := [(0, Go.Rex.S.slices_IndexFunc.L0)]
theorem Go.Rex.S.slices_IndexFunc.GOK : CfgOK Go.Proofs.Try.prog Go.Rex.S.slices_IndexFunc.G := ⟨S.tiOK, TOK.fns (l := [(63, Go.Rex.S.impl_IsTable_1_bn.s)]) ⟨Go.Rex.S.impl_IsTable_1_bn.ok.ok, trivial⟩, S.mixedOK⟩
theorem Go.Rex.S.slices_IndexFunc.from1 : From Go.Proofs.Try.prog Go.Rex.S.slices_IndexFunc.T (Go.Rex.bodyOf Go.Proofs.Try.f96) 1 := from_end (by kernel_rfl)
theorem Go.Rex.S.slices_IndexFunc.from0 : From Go.Proofs.Try.prog Go.Rex.S.slices_IndexFunc.T (Go.Rex.bodyOf Go.Proofs.Try.f96) 0 := from_step Go.Rex.S.slices_IndexFunc.GOK Go.Rex.S.slices_IndexFunc.from1 Go.Rex.S.slices_IndexFunc.L0 rfl (fun k x => Go.Pf.slices_IndexFunc.l0 k x.1 x.2.1 x.2.2.1 x.2.2.2.1) (fun _ => rfl) (fun k x => by kernel_rfl) Go.Pf.FUEL (fun _ => rfl)
theorem Go.Rex.S.slices_IndexFunc.ok : SummC Go.Proofs.Try.prog 96 Go.Rex.S.slices_IndexFunc.s := summ_c Go.Rex.S.slices_IndexFunc.GOK Go.Proofs.Try.func96 (by kernel_rfl) (body := (Go.Rex.bodyOf Go.Proofs.Try.f96)) (by kernel_rfl) (from_all Go.Rex.S.slices_IndexFunc.from0) (rts := [.tm 4]) (by kernel_rfl) Go.Rex.S.slices_IndexFunc.s (by kernel_rfl) (of_decide_eq_true (by kernel_rfl)) rfl (fun p q => (p, q)) (fun _ _ => ⟨rfl, rfl⟩) (fun x => by kernel_rfl)

/-! slices_ContainsFunc: function 62, [.rd (.sl (.sl (.int .i64))), .ln (.fn 63 (.pr (.bx (.int .i64)) (.nl))) (.fn (.pr (.bx (.no)) (.no)))] -/
def Go.Rex.S.slices_ContainsFunc.G : Go.Rex.Cfg := (Go.Rex.Cfg.mk Go.Rex.S.ti [(96, Go.Rex.S.slices_IndexFunc.s)] : Go.Rex.Cfg)
def Go.Pf.slices_ContainsFunc.f (a0 : List (List Int)) (a1 : (Int × Unit)) : Option ((Bool × ((Int × Unit) × Unit))) :=
  Option.bind (Go.Pf.slices_IndexFunc.f a0 a1) fun y =>
    Option.some (Decidable.decide (Prod.fst y ≥ 0), Prod.fst (Prod.snd y), ())
@[reducible] def Go.Rex.S.slices_ContainsFunc.s : Go.Rex.Summ := ⟨[.rd (.sl (.sl (.int .i64))), .ln (.fn 63 (.pr (.bx (.int .i64)) (.nl))) (.fn (.pr (.bx (.no)) (.no)))], .bool, .no, 1, (Bool × ((Int × Unit) × Unit)), fun x => Go.Pf.slices_ContainsFunc.f x.1 x.2.1, fun y => y.1, fun y => y.2⟩
@[reducible] def Go.Rex.S.slices_ContainsFunc.T : List (Nat × Go.Rex.LSum) := []
theorem Go.Rex.S.slices_ContainsFunc.GOK : CfgOK Go.Proofs.Try.prog Go.Rex.S.slices_ContainsFunc.G := ⟨S.tiOK, TOK.fns (l := [(96, Go.Rex.S.slices_IndexFunc.s)]) ⟨Go.Rex.S.slices_IndexFunc.ok.ok, trivial⟩, S.mixedOK⟩
theorem Go.Rex.S.slices_ContainsFunc.from0 : From Go.Proofs.Try.prog Go.Rex.S.slices_ContainsFunc.T (Go.Rex.bodyOf Go.Proofs.Try.f62) 0 := from_end (by kernel_rfl)
theorem Go.Rex.S.slices_ContainsFunc.ok : SummC Go.Proofs.Try.prog 62 Go.Rex.S.slices_ContainsFunc.s := summ_c Go.Rex.S.slices_ContainsFunc.GOK Go.Proofs.Try.func62 (by kernel_rfl) (body := (Go.Rex.bodyOf Go.Proofs.Try.f62)) (by kernel_rfl) (from_all Go.Rex.S.slices_ContainsFunc.from0) (rts := [.tm 4]) (by kernel_rfl) Go.Rex.S.slices_ContainsFunc.s (by kernel_rfl) (of_decide_eq_true (by kernel_rfl)) rfl (fun p q => (p, q)) (fun _ _ => ⟨rfl, rfl⟩) (fun x => by kernel_rfl)

/-! impl_IsTable: function 18, [.rd (.sl (.sl (.int .i64))), .rd (.int .i64)] -/
def Go.Rex.S.impl_IsTable.G : Go.Rex.Cfg := (Go.Rex.Cfg.mk Go.Rex.S.ti [(61, Go.Rex.S.impl_within.s), (62, Go.Rex.S.slices_ContainsFunc.s)] : Go.Rex.Cfg)
def Go.Pf.impl_IsTable.f (a0 : List (List Int)) (a1 : Int) : Option Bool :=
  Option.bind (Go.Pf.impl_within.f a1 0 13) fun y =>
    bif y then
      bif (↑(List.length a0) : Int) == 5 then
        Option.bind (Go.Pf.slices_ContainsFunc.f a0 (a1, ())) fun y => Option.some !Prod.fst y
      else Option.some Bool.false
    else Option.some Bool.false
@[reducible] def Go.Rex.S.impl_IsTable.s : Go.Rex.Summ := ⟨[.rd (.sl (.sl (.int .i64))), .rd (.int .i64)], .bool, .no, 1, Bool, fun x => Go.Pf.impl_IsTable.f x.1 x.2.1, fun y => y, fun _ => ()⟩
@[reducible] def Go.Rex.S.impl_IsTable.T : List (Nat × Go.Rex.LSum) := []
theorem Go.Rex.S.impl_IsTable.GOK : CfgOK Go.Proofs.Try.prog Go.Rex.S.impl_IsTable.G := ⟨S.tiOK, TOK.fns (l := [(61, Go.Rex.S.impl_within.s), (62, Go.Rex.S.slices_ContainsFunc.s)]) ⟨Go.Rex.S.impl_within.ok.ok, Go.Rex.S.slices_ContainsFunc.ok.ok, trivial⟩, S.mixedOK⟩
theorem Go.Rex.S.impl_IsTable.from0 : From Go.Proofs.Try.prog Go.Rex.S.impl_IsTable.T (Go.Rex.bodyOf Go.Proofs.Try.f18) 0 := from_end (by kernel_rfl)
theorem Go.Rex.S.impl_IsTable.ok : SummC Go.Proofs.Try.prog 18 Go.Rex.S.impl_IsTable.s := summ_c Go.Rex.S.impl_IsTable.GOK Go.Proofs.Try.func18 (by kernel_rfl) (body := (Go.Rex.bodyOf Go.Proofs.Try.f18)) (by kernel_rfl) (from_all Go.Rex.S.impl_IsTable.from0) (rts := [.tm 4]) (by kernel_rfl) Go.Rex.S.impl_IsTable.s (by kernel_rfl) (of_decide_eq_true (by kernel_rfl)) rfl (fun p _ => p) (fun _ _ => ⟨rfl, rfl⟩) (fun x => by kernel_rfl)

/-! impl_isFull: function 66, [.rd (.sl (.sl (.int .i64)))] -/
def Go.Rex.S.impl_isFull.G : Go.Rex.Cfg := (Go.Rex.Cfg.mk Go.Rex.S.ti [(18, Go.Rex.S.impl_IsTable.s)] : Go.Rex.Cfg)
def Go.Pf.impl_isFull.f (a0 : List (List Int)) : Option Bool :=
  Option.bind (Go.Pf.impl_IsTable.f a0 13) fun y => Option.some y
@[reducible] def Go.Rex.S.impl_isFull.s : Go.Rex.Summ := ⟨[.rd (.sl (.sl (.int .i64)))], .bool, .no, 1, Bool, fun x => Go.Pf.impl_isFull.f x.1, fun y => y, fun _ => ()⟩
@[reducible] def Go.Rex.S.impl_isFull.T : List (Nat × Go.Rex.LSum) := []
theorem Go.Rex.S.impl_isFull.GOK : CfgOK Go.Proofs.Try.prog Go.Rex.S.impl_isFull.G := ⟨S.tiOK, TOK.fns (l := [(18, Go.Rex.S.impl_IsTable.s)]) ⟨Go.Rex.S.impl_IsTable.ok.ok, trivial⟩, S.mixedOK⟩
theorem Go.Rex.S.impl_isFull.from0 : From Go.Proofs.Try.prog Go.Rex.S.impl_isFull.T (Go.Rex.bodyOf Go.Proofs.Try.f66) 0 := from_end (by kernel_rfl)
theorem Go.Rex.S.impl_isFull.ok : SummC Go.Proofs.Try.prog 66 Go.Rex.S.impl_isFull.s := summ_c Go.Rex.S.impl_isFull.GOK Go.Proofs.Try.func66 (by kernel_rfl) (body := (Go.Rex.bodyOf Go.Proofs.Try.f66)) (by kernel_rfl) (from_all Go.Rex.S.impl_isFull.from0) (rts := [.tm 2]) (by kernel_rfl) Go.Rex.S.impl_isFull.s (by kernel_rfl) (of_decide_eq_true (by kernel_rfl)) rfl (fun p _ => p) (fun _ _ => ⟨rfl, rfl⟩) (fun x => by kernel_rfl)

/-! impl_isStrain: function 67, [.rd (.int .i64)] -/
def Go.Rex.S.impl_isStrain.G : Go.Rex.Cfg := (Go.Rex.Cfg.mk Go.Rex.S.ti [(61, Go.Rex.S.impl_within.s)] : Go.Rex.Cfg)
def Go.Pf.impl_isStrain.f (a0 : Int) : Option Bool :=
  Option.bind (Go.Pf.impl_within.f a0 0 4) fun y => Option.some y
@[reducible] def Go.Rex.S.impl_isStrain.s : Go.Rex.Summ := ⟨[.rd (.int .i64)], .bool, .no, 1, Bool, fun x => Go.Pf.impl_isStrain.f x.1, fun y => y, fun _ => ()⟩
@[reducible] def Go.Rex.S.impl_isStrain.T : List (Nat × Go.Rex.LSum) := []
theorem Go.Rex.S.impl_isStrain.GOK : CfgOK Go.Proofs.Try.prog Go.Rex.S.impl_isStrain.G := ⟨S.tiOK, TOK.fns (l := [(61, Go.Rex.S.impl_within.s)]) ⟨Go.Rex.S.impl_within.ok.ok, trivial⟩, S.mixedOK⟩
theorem Go.Rex.S.impl_isStrain.from0 : From Go.Proofs.Try.prog Go.Rex.S.impl_isStrain.T (Go.Rex.bodyOf Go.Proofs.Try.f67) 0 := from_end (by kernel_rfl)
theorem Go.Rex.S.impl_isStrain.ok : SummC Go.Proofs.Try.prog 67 Go.Rex.S.impl_isStrain.s := summ_c Go.Rex.S.impl_isStrain.GOK Go.Proofs.Try.func67 (by kernel_rfl) (body := (Go.Rex.bodyOf Go.Proofs.Try.f67)) (by kernel_rfl) (from_all Go.Rex.S.impl_isStrain.from0) (rts := [.tm 2]) (by kernel_rfl) Go.Rex.S.impl_isStrain.s (by kernel_rfl) (of_decide_eq_true (by kernel_rfl)) rfl (fun p _ => p) (fun _ _ => ⟨rfl, rfl⟩) (fun x => by kernel_rfl)

/-! impl_isSide: function 68, [.rd (.int .i64)] -/
def Go.Rex.S.impl_isSide.G : Go.Rex.Cfg := (Go.Rex.Cfg.mk Go.Rex.S.ti [(61, Go.Rex.S.impl_within.s)] : Go.Rex.Cfg)
def Go.Pf.impl_isSide.f (a0 : Int) : Option Bool :=
  Option.bind (Go.Pf.impl_within.f a0 0 1) fun y => Option.some y
@[reducible] def Go.Rex.S.impl_isSide.s : Go.Rex.Summ := ⟨[.rd (.int .i64)], .bool, .no, 1, Bool, fun x => Go.Pf.impl_isSide.f x.1, fun y => y, fun _ => ()⟩
@[reducible] def Go.Rex.S.impl_isSide.T : List (Nat × Go.Rex.LSum) := []
theorem Go.Rex.S.impl_isSide.GOK : CfgOK Go.Proofs.Try.prog Go.Rex.S.impl_isSide.G := ⟨S.tiOK, TOK.fns (l := [(61, Go.Rex.S.impl_within.s)]) ⟨Go.Rex.S.impl_within.ok.ok, trivial⟩, S.mixedOK⟩
theorem Go.Rex.S.impl_isSide.from0 : From Go.Proofs.Try.prog Go.Rex.S.impl_isSide.T (Go.Rex.bodyOf Go.Proofs.Try.f68) 0 := from_end (by kernel_rfl)
theorem Go.Rex.S.impl_isSide.ok : SummC Go.Proofs.Try.prog 68 Go.Rex.S.impl_isSide.s := summ_c Go.Rex.S.impl_isSide.GOK Go.Proofs.Try.func68 (by kernel_rfl) (body := (Go.Rex.bodyOf Go.Proofs.Try.f68)) (by kernel_rfl) (from_all Go.Rex.S.impl_isSide.from0) (rts := [.tm 2]) (by kernel_rfl) Go.Rex.S.impl_isSide.s (by kernel_rfl) (of_decide_eq_true (by kernel_rfl)) rfl (fun p _ => p) (fun _ _ => ⟨rfl, rfl⟩) (fun x => by kernel_rfl)

/-! impl_SideTricks: function 21, [.rd (.sl (.sl (.int .i64))), .rd (.int .i64), .rd (.int .i64)] -/
def Go.Rex.S.impl_SideTricks.G : Go.Rex.Cfg := (Go.Rex.Cfg.mk Go.Rex.S.ti [(66, Go.Rex.S.impl_isFull.s), (67, Go.Rex.S.impl_isStrain.s), (68, Go.Rex.S.impl_isSide.s)] : Go.Rex.Cfg)
def Go.Pf.impl_SideTricks.f (a0 : List (List Int)) (a1 : Int) (a2 : Int) : Option Int :=
  Option.bind (Go.Pf.impl_isFull.f a0) fun y =>
    bif !y then Option.some (-1)
    else
      Option.bind (Go.Pf.impl_isStrain.f a1) fun y =>
        bif !y then Option.some (-1)
        else
          Option.bind (Go.Pf.impl_isSide.f a2) fun y =>
            bif !y then Option.some (-1)
            else
              bif Go.Rex.inb a1 (List.length a0) then
                bif
                    Go.Rex.inb a2
                      (List.length
                        (List.getD a0 (Go.Rex.natOf a1)
                          (Go.Rex.Ty.dflt (Go.Rex.Ty.sl (Go.Rex.Ty.int Go.IntKind.i64))))) then
                  bif Go.Rex.inb a1 (List.length a0) then
                    bif
                        Go.Rex.inb (Go.IntKind.wrap Go.IntKind.i64 (a2 + 2))
                          (List.length
                            (List.getD a0 (Go.Rex.natOf a1)
                              (Go.Rex.Ty.dflt (Go.Rex.Ty.sl (Go.Rex.Ty.int Go.IntKind.i64))))) then
                      Option.some
                        (Go.Rex.mxI
                          (List.getD
                            (List.getD a0 (Go.Rex.natOf a1)
                              (Go.Rex.Ty.dflt (Go.Rex.Ty.sl (Go.Rex.Ty.int Go.IntKind.i64))))
                            (Go.Rex.natOf (Go.IntKind.wrap Go.IntKind.i64 (a2 + 2)))
                            (Go.Rex.Ty.dflt (Go.Rex.Ty.int Go.IntKind.i64)))
                          (List.getD
                            (List.getD a0 (Go.Rex.natOf a1)
                              (Go.Rex.Ty.dflt (Go.Rex.Ty.sl (Go.Rex.Ty.int Go.IntKind.i64))))
                            (Go.Rex.natOf a2) (Go.Rex.Ty.dflt (Go.Rex.Ty.int Go.IntKind.i64))))
                    else Option.none
                  else Option.none
                else Option.none
              else Option.none
@[reducible] def Go.Rex.S.impl_SideTricks.s : Go.Rex.Summ := ⟨[.rd (.sl (.sl (.int .i64))), .rd (.int .i64), .rd (.int .i64)], .int .i64, .no, 1, Int, fun x => Go.Pf.impl_SideTricks.f x.1 x.2.1 x.2.2.1, fun y => y, fun _ => ()⟩
@[reducible] def Go.Rex.S.impl_SideTricks.T : List (Nat × Go.Rex.LSum) := []
theorem Go.Rex.S.impl_SideTricks.GOK : CfgOK Go.Proofs.Try.prog Go.Rex.S.impl_SideTricks.G := ⟨S.tiOK, TOK.fns (l := [(66, Go.Rex.S.impl_isFull.s), (67, Go.Rex.S.impl_isStrain.s), (68, Go.Rex.S.impl_isSide.s)]) ⟨Go.Rex.S.impl_isFull.ok.ok, Go.Rex.S.impl_isStrain.ok.ok, Go.Rex.S.impl_isSide.ok.ok, trivial⟩, S.mixedOK⟩
theorem Go.Rex.S.impl_SideTricks.from0 : From Go.Proofs.Try.prog Go.Rex.S.impl_SideTricks.T (Go.Rex.bodyOf Go.Proofs.Try.f21) 0 := from_end (by kernel_rfl)
theorem Go.Rex.S.impl_SideTricks.ok : SummC Go.Proofs.Try.prog 21 Go.Rex.S.impl_SideTricks.s := summ_c Go.Rex.S.impl_SideTricks.GOK Go.Proofs.Try.func21 (by kernel_rfl) (body := (Go.Rex.bodyOf Go.Proofs.Try.f21)) (by kernel_rfl) (from_all Go.Rex.S.impl_SideTricks.from0) (rts := [.tm 6]) (by kernel_rfl) Go.Rex.S.impl_SideTricks.s (by kernel_rfl) (of_decide_eq_true (by kernel_rfl)) rfl (fun p _ => p) (fun _ _ => ⟨rfl, rfl⟩) (fun x => by kernel_rfl)

/-! laws_eqInt64S: function 40, [.rd (.sl (.int .i64)), .rd (.sl (.int .i64))] -/
def Go.Rex.S.laws_eqInt64S.G : Go.Rex.Cfg := (Go.Rex.Cfg.mk Go.Rex.S.ti [] : Go.Rex.Cfg)
def Go.Pf.laws_eqInt64S.l0 : Nat → List Int → List Int → Int → Option ((Bool × Unit) ⊕ (Unit))
  | 0, _, _, _ => none
  | k + 1, x0, x1, x5 =>
    bif Decidable.decide (x5 < (↑(List.length x0) : Int)) then
      bif Go.Rex.inb x5 (List.length x0) then
        bif Go.Rex.inb x5 (List.length x1) then
          bif
              List.getD x0 (Go.Rex.natOf x5) (Go.Rex.Ty.dflt (Go.Rex.Ty.int Go.IntKind.i64)) !=
                List.getD x1 (Go.Rex.natOf x5) (Go.Rex.Ty.dflt (Go.Rex.Ty.int Go.IntKind.i64)) then
            Option.some (Sum.inl (Bool.false, ()))
          else Go.Pf.laws_eqInt64S.l0 k x0 x1 (Go.IntKind.wrap Go.IntKind.i64 (x5 + 1))
        else Option.none
      else Option.none
    else Option.some (Sum.inr ())
def Go.Rex.S.laws_eqInt64S.L0 : Go.Rex.LSum := ⟨⟨26, []⟩, [.dt 0 (.sl (.int .i64)), .dt 1 (.sl (.int .i64)), .dt 5 (.int .i64)], [(0, [.dt 4 (.bool)]), (1, [])], fun x => Go.Pf.laws_eqInt64S.l0 Go.Pf.FUEL x.1 x.2.1 x.2.2.1⟩
def Go.Pf.laws_eqInt64S.f (a0 : List Int) (a1 : List Int) : Option Bool :=
  bif (↑(List.length a0) : Int) != (↑(List.length a1) : Int) then Option.some Bool.false
  else
    Option.bind (Go.Pf.laws_eqInt64S.l0 Go.Pf.FUEL a0 a1 0) fun out =>
      match out with
      | Sum.inl a => Option.some (Prod.fst a)
      | Sum.inr b => Option.some Bool.true
@[reducible] def Go.Rex.S.laws_eqInt64S.s : Go.Rex.Summ := ⟨[.rd (.sl (.int .i64)), .rd (.sl (.int .i64))], .bool, .no, 1, Bool, fun x => Go.Pf.laws_eqInt64S.f x.1 x.2.1, fun y => y, fun _ => ()⟩
@[reducible] def Go.Rex.S.laws_eqInt64S.T : List (Nat × Go.Rex.LSum) := [(0, Go.Rex.S.laws_eqInt64S.L0)]
theorem Go.Rex.S.laws_eqInt64S.GOK : CfgOK Go.Proofs.Try.prog Go.Rex.S.laws_eqInt64S.G := ⟨S.tiOK, TOK.fns (l := []) trivial, S.mixedOK⟩
theorem Go.Rex.S.laws_eqInt64S.from1 : From Go.Proofs.Try.prog Go.Rex.S.laws_eqInt64S.T (Go.Rex.bodyOf Go.Proofs.Try.f40) 1 := from_end (by kernel_rfl)
theorem Go.Rex.S.laws_eqInt64S.from0 : From Go.Proofs.Try.prog Go.Rex.S.laws_eqInt64S.T (Go.Rex.bodyOf Go.Proofs.Try.f40) 0 := from_step Go.Rex.S.laws_eqInt64S.GOK Go.Rex.S.laws_eqInt64S.from1 Go.Rex.S.laws_eqInt64S.L0 rfl (fun k x => Go.Pf.laws_eqInt64S.l0 k x.1 x.2.1 x.2.2.1) (fun _ => rfl) (fun k x => by kernel_rfl) Go.Pf.FUEL (fun _ => rfl)
theorem Go.Rex.S.laws_eqInt64S.ok : SummC Go.Proofs.Try.prog 40 Go.Rex.S.laws_eqInt64S.s := summ_c Go.Rex.S.laws_eqInt64S.GOK Go.Proofs.Try.func40 (by kernel_rfl) (body := (Go.Rex.bodyOf Go.Proofs.Try.f40)) (by kernel_rfl) (from_all Go.Rex.S.laws_eqInt64S.from0) (rts := [.tm 4]) (by kernel_rfl) Go.Rex.S.laws_eqInt64S.s (by kernel_rfl) (of_decide_eq_true (by kernel_rfl)) rfl (fun p _ => p) (fun _ _ => ⟨rfl, rfl⟩) (fun x => by kernel_rfl)

/-! laws_eqInt64SS: function 19, [.rd (.sl (.sl (.int .i64))), .rd (.sl (.sl (.int .i64)))] -/
def Go.Rex.S.laws_eqInt64SS.G : Go.Rex.Cfg := (Go.Rex.Cfg.mk Go.Rex.S.ti [(40, Go.Rex.S.laws_eqInt64S.s)] : Go.Rex.Cfg)
def Go.Pf.laws_eqInt64SS.l0 : Nat → List (List Int) → List (List Int) → Int → Option ((Bool × Unit) ⊕ (Unit))
  | 0, _, _, _ => none
  | k + 1, x0, x1, x5 =>
    bif Decidable.decide (x5 < (↑(List.length x0) : Int)) then
      bif Go.Rex.inb x5 (List.length x0) then
        bif Go.Rex.inb x5 (List.length x1) then
          Option.bind
            (Go.Pf.laws_eqInt64S.f
              (List.getD x0 (Go.Rex.natOf x5) (Go.Rex.Ty.dflt (Go.Rex.Ty.sl (Go.Rex.Ty.int Go.IntKind.i64))))
              (List.getD x1 (Go.Rex.natOf x5) (Go.Rex.Ty.dflt (Go.Rex.Ty.sl (Go.Rex.Ty.int Go.IntKind.i64)))))
            fun y =>
            bif !y then Option.some (Sum.inl (Bool.false, ())) else Go.Pf.laws_eqInt64SS.l0 k x0 x1 (Go.IntKind.wrap Go.IntKind.i64 (x5 + 1))
        else Option.none
      else Option.none
    else Option.some (Sum.inr ())
def Go.Rex.S.laws_eqInt64SS.L0 : Go.Rex.LSum := ⟨⟨27, []⟩, [.dt 0 (.sl (.sl (.int .i64))), .dt 1 (.sl (.sl (.int .i64))), .dt 5 (.int .i64)], [(0, [.dt 4 (.bool)]), (1, [])], fun x => Go.Pf.laws_eqInt64SS.l0 Go.Pf.FUEL x.1 x.2.1 x.2.2.1⟩
def Go.Pf.laws_eqInt64SS.f (a0 : List (List Int)) (a1 : List (List Int)) : Option Bool :=
  bif (↑(List.length a0) : Int) != (↑(List.length a1) : Int) then Option.some Bool.false
  else
    Option.bind (Go.Pf.laws_eqInt64SS.l0 Go.Pf.FUEL a0 a1 0) fun out =>
      match out with
      | Sum.inl a => Option.some (Prod.fst a)
      | Sum.inr b => Option.some Bool.true
@[reducible] def Go.Rex.S.laws_eqInt64SS.s : Go.Rex.Summ := ⟨[.rd (.sl (.sl (.int .i64))), .rd (.sl (.sl (.int .i64)))], .bool, .no, 1, Bool, fun x => Go.Pf.laws_eqInt64SS.f x.1 x.2.1, fun y => y, fun _ => ()⟩
@[reducible] def Go.Rex.S.laws_eqInt64SS.T : List (Nat × Go.Rex.LSum) := [(0, Go.Rex.S.laws_eqInt64SS.L0)]
theorem Go.Rex.S.laws_eqInt64SS.GOK : CfgOK Go.Proofs.Try.prog Go.Rex.S.laws_eqInt64SS.G := ⟨S.tiOK, TOK.fns (l := [(40, Go.Rex.S.laws_eqInt64S.s)]) ⟨Go.Rex.S.laws_eqInt64S.ok.ok, trivial⟩, S.mixedOK⟩
theorem Go.Rex.S.laws_eqInt64SS.from1 : From Go.Proofs.Try.prog Go.Rex.S.laws_eqInt64SS.T (Go.Rex.bodyOf Go.Proofs.Try.f19) 1 := from_end (by kernel_rfl)
theorem Go.Rex.S.laws_eqInt64SS.from0 : From Go.Proofs.Try.prog Go.Rex.S.laws_eqInt64SS.T (Go.Rex.bodyOf Go.Proofs.Try.f19) 0 := from_step Go.Rex.S.laws_eqInt64SS.GOK Go.Rex.S.laws_eqInt64SS.from1 Go.Rex.S.laws_eqInt64SS.L0 rfl (fun k x => Go.Pf.laws_eqInt64SS.l0 k x.1 x.2.1 x.2.2.1) (fun _ => rfl) (fun k x => by kernel_rfl) Go.Pf.FUEL (fun _ => rfl)
theorem Go.Rex.S.laws_eqInt64SS.ok : SummC Go.Proofs.Try.prog 19 Go.Rex.S.laws_eqInt64SS.s := summ_c Go.Rex.S.laws_eqInt64SS.GOK Go.Proofs.Try.func19 (by kernel_rfl) (body := (Go.Rex.bodyOf Go.Proofs.Try.f19)) (by kernel_rfl) (from_all Go.Rex.S.laws_eqInt64SS.from0) (rts := [.tm 4]) (by kernel_rfl) Go.Rex.S.laws_eqInt64SS.s (by kernel_rfl) (of_decide_eq_true (by kernel_rfl)) rfl (fun p _ => p) (fun _ _ => ⟨rfl, rfl⟩) (fun x => by kernel_rfl)

/-! laws_FnExactSideTricks: function 4, [.rd (.sl (.sl (.int .i64))), .rd (.int .i64), .rd (.int .i64)] -/
def Go.Rex.S.laws_FnExactSideTricks.G : Go.Rex.Cfg := (Go.Rex.Cfg.mk Go.Rex.S.ti [(15, Go.Rex.S.laws_szInt64SS.s), (17, Go.Rex.S.laws_toInt64SS.s), (20, Go.Rex.S.spec_SideTricks.s), (21, Go.Rex.S.impl_SideTricks.s), (19, Go.Rex.S.laws_eqInt64SS.s)] : Go.Rex.Cfg)
def Go.Pf.laws_FnExactSideTricks.f (a0 : List (List Int)) (a1 : Int) (a2 : Int) : Option Bool :=
  Option.bind (Go.Pf.laws_szInt64SS.f a0 1048576) fun y =>
    bif Decidable.decide (y < 0) then Option.some Bool.true
    else
      Option.bind (Go.Pf.laws_toInt64SS.f a0) fun y =>
        Option.bind (Go.Pf.spec_SideTricks.f y a1 a2) fun y =>
          Option.bind (Go.Pf.laws_toInt64SS.f a0) fun y_1 =>
            Option.bind (Go.Pf.impl_SideTricks.f y_1 a1 a2) fun y_2 =>
              bif y_2 != y then Option.some Bool.false
              else
                Option.bind (Go.Pf.laws_toInt64SS.f a0) fun y =>
                  Option.bind (Go.Pf.laws_eqInt64SS.f y_1 y) fun y =>
                    bif !y then Option.some Bool.false else Option.some Bool.true
@[reducible] def Go.Rex.S.laws_FnExactSideTricks.s : Go.Rex.Summ := ⟨[.rd (.sl (.sl (.int .i64))), .rd (.int .i64), .rd (.int .i64)], .bool, .no, 1, Bool, fun x => Go.Pf.laws_FnExactSideTricks.f x.1 x.2.1 x.2.2.1, fun y => y, fun _ => ()⟩
@[reducible] def Go.Rex.S.laws_FnExactSideTricks.T : List (Nat × Go.Rex.LSum) := []
theorem Go.Rex.S.laws_FnExactSideTricks.GOK : CfgOK Go.Proofs.Try.prog Go.Rex.S.laws_FnExactSideTricks.G := ⟨S.tiOK, TOK.fns (l := [(15, Go.Rex.S.laws_szInt64SS.s), (17, Go.Rex.S.laws_toInt64SS.s), (20, Go.Rex.S.spec_SideTricks.s), (21, Go.Rex.S.impl_SideTricks.s), (19, Go.Rex.S.laws_eqInt64SS.s)]) ⟨Go.Rex.S.laws_szInt64SS.ok.ok, Go.Rex.S.laws_toInt64SS.ok.ok, Go.Rex.S.spec_SideTricks.ok.ok, Go.Rex.S.impl_SideTricks.ok.ok, Go.Rex.S.laws_eqInt64SS.ok.ok, trivial⟩, S.mixedOK⟩
theorem Go.Rex.S.laws_FnExactSideTricks.from0 : From Go.Proofs.Try.prog Go.Rex.S.laws_FnExactSideTricks.T (Go.Rex.bodyOf Go.Proofs.Try.f4) 0 := from_end (by kernel_rfl)
theorem Go.Rex.S.laws_FnExactSideTricks.ok : SummC Go.Proofs.Try.prog 4 Go.Rex.S.laws_FnExactSideTricks.s := summ_c Go.Rex.S.laws_FnExactSideTricks.GOK Go.Proofs.Try.func4 (by kernel_rfl) (body := (Go.Rex.bodyOf Go.Proofs.Try.f4)) (by kernel_rfl) (from_all Go.Rex.S.laws_FnExactSideTricks.from0) (rts := [.tm 6]) (by kernel_rfl) Go.Rex.S.laws_FnExactSideTricks.s (by kernel_rfl) (of_decide_eq_true (by kernel_rfl)) rfl (fun p _ => p) (fun _ _ => ⟨rfl, rfl⟩) (fun x => by kernel_rfl)

