/- Printed by a program: the contracts of Go functions. -/
import Derived.Test.YtnfbcofieobkkaaGreatDoorPL13
import Derived.Test.YtnfbcofieobkkaaGreatDoorAD
namespace Go.Proofs.YtnfbcofieobkkaaGreatDoor
open Go Go.Proofs Ev
set_option linter.unusedVariables false
set_option linter.unusedSimpArgs false
noncomputable section

def law13_alive.cfg (_N : Nat) : Cfg := { T := tys, EQ := eqs, C := [(35, div_Div.ct)], lp := [], un := [], ks := [], keep := [0, 1, 2, 3] }
theorem law13_alive.ev (N : Nat)  : evFunc (law13_alive.cfg N) N Tryz.f37 [] [] 0 dB.dec = law13_alive.g  := by kernel_rfl
theorem law13_alive.hl (N : Nat) : ∀ body, Tryz.f37.body = some body → ∀ b ∈ loopsOf body, ∀ lc, lkL (firstReg b) (law13_alive.cfg N).lp = some lc → LCOk (law13_alive.cfg N) N b lc := HL_nil rfl
theorem law13_alive.cfg_ok (N : Nat) : CfgOk Tryz.prog (law13_alive.cfg N) := mkCfg (.cons div_Div.ok .nil) _ _ _ _
theorem law13_alive.ok : CTok Tryz.prog 37 law13_alive.ct := CTok.of0 Tryz.call37 mix Tryz.func37 (Nat.le_of_ble_eq_true (by kernel_rfl)) (fun  res hres  => ⟨law13_alive.cfg fuel, fuel, law13_alive.cfg_ok fuel, law13_alive.hl fuel, (law13_alive.ev fuel ).trans hres⟩)

def law13_DivQuotients.cfg (_N : Nat) : Cfg := { T := tys, EQ := eqs, C := [(35, div_Div.ct), (36, ref13_Div.ct), (37, law13_alive.ct)], lp := [], un := [], ks := [], keep := [0, 1, 2, 3, 6, 7, 8, 9, 10, 11, 12, 13, 14] }
theorem law13_DivQuotients.ev (N : Nat) (f : Int) (m_ : Int) (a : B2) (b : B2) : evFunc (law13_DivQuotients.cfg N) N Tryz.f9 [.v ((dI .u8).enc f), .v ((dI .u8).enc m_), .v (dBits.enc a), .v (dBits.enc b)] [] 0 dB.dec = law13_DivQuotients.g f m_ a b := by kernel_rfl
theorem law13_DivQuotients.hl (N : Nat) : ∀ body, Tryz.f9.body = some body → ∀ b ∈ loopsOf body, ∀ lc, lkL (firstReg b) (law13_DivQuotients.cfg N).lp = some lc → LCOk (law13_DivQuotients.cfg N) N b lc := HL_nil rfl
theorem law13_DivQuotients.cfg_ok (N : Nat) : CfgOk Tryz.prog (law13_DivQuotients.cfg N) := mkCfg (.cons div_Div.ok (.cons ref13_Div.ok (.cons law13_alive.ok .nil))) _ _ _ _
theorem law13_DivQuotients.ok : CTok Tryz.prog 9 law13_DivQuotients.ct := CTok.of4 Tryz.call9 mix Tryz.func9 (Nat.le_of_ble_eq_true (by kernel_rfl)) (fun f m_ a b res hres _ _ _ _ => ⟨law13_DivQuotients.cfg fuel, fuel, law13_DivQuotients.cfg_ok fuel, law13_DivQuotients.hl fuel, (law13_DivQuotients.ev fuel f m_ a b).trans hres⟩)

end
end Go.Proofs.YtnfbcofieobkkaaGreatDoor
