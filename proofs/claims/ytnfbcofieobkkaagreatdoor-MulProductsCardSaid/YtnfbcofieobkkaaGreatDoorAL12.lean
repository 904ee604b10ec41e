/- Printed by a program: the contracts of Go functions. -/
import Derived.Test.YtnfbcofieobkkaaGreatDoorPL12
import Derived.Test.YtnfbcofieobkkaaGreatDoorAM
namespace Go.Proofs.YtnfbcofieobkkaaGreatDoor
open Go Go.Proofs Ev
set_option linter.unusedVariables false
set_option linter.unusedSimpArgs false
noncomputable section

def law12_alive.cfg (_N : Nat) : Cfg := { T := tys, EQ := eqs, C := [(29, mul_Mul.ct)], lp := [], un := [], ks := [], keep := [0, 1, 2, 3] }
theorem law12_alive.ev (N : Nat)  : evFunc (law12_alive.cfg N) N Tryz.f31 [] [] 0 dB.dec = law12_alive.g  := by kernel_rfl
theorem law12_alive.hl (N : Nat) : ∀ body, Tryz.f31.body = some body → ∀ b ∈ loopsOf body, ∀ lc, lkL (firstReg b) (law12_alive.cfg N).lp = some lc → LCOk (law12_alive.cfg N) N b lc := HL_nil rfl
theorem law12_alive.cfg_ok (N : Nat) : CfgOk Tryz.prog (law12_alive.cfg N) := mkCfg (.cons mul_Mul.ok .nil) _ _ _ _
theorem law12_alive.ok : CTok Tryz.prog 31 law12_alive.ct := CTok.of0 Tryz.call31 mix Tryz.func31 (Nat.le_of_ble_eq_true (by kernel_rfl)) (fun  res hres  => ⟨law12_alive.cfg fuel, fuel, law12_alive.cfg_ok fuel, law12_alive.hl fuel, (law12_alive.ev fuel ).trans hres⟩)

def law12_MulProducts.cfg (_N : Nat) : Cfg := { T := tys, EQ := eqs, C := [(29, mul_Mul.ct), (30, ref12_Mul.ct), (31, law12_alive.ct)], lp := [], un := [], ks := [], keep := [0, 1, 2, 3, 6, 7, 8, 9, 10, 11, 12, 13, 14] }
theorem law12_MulProducts.ev (N : Nat) (f : Int) (m_ : Int) (a : B2) (b : B2) : evFunc (law12_MulProducts.cfg N) N Tryz.f7 [.v ((dI .u8).enc f), .v ((dI .u8).enc m_), .v (dBits.enc a), .v (dBits.enc b)] [] 0 dB.dec = law12_MulProducts.g f m_ a b := by kernel_rfl
theorem law12_MulProducts.hl (N : Nat) : ∀ body, Tryz.f7.body = some body → ∀ b ∈ loopsOf body, ∀ lc, lkL (firstReg b) (law12_MulProducts.cfg N).lp = some lc → LCOk (law12_MulProducts.cfg N) N b lc := HL_nil rfl
theorem law12_MulProducts.cfg_ok (N : Nat) : CfgOk Tryz.prog (law12_MulProducts.cfg N) := mkCfg (.cons mul_Mul.ok (.cons ref12_Mul.ok (.cons law12_alive.ok .nil))) _ _ _ _
theorem law12_MulProducts.ok : CTok Tryz.prog 7 law12_MulProducts.ct := CTok.of4 Tryz.call7 mix Tryz.func7 (Nat.le_of_ble_eq_true (by kernel_rfl)) (fun f m_ a b res hres _ _ _ _ => ⟨law12_MulProducts.cfg fuel, fuel, law12_MulProducts.cfg_ok fuel, law12_MulProducts.hl fuel, (law12_MulProducts.ev fuel f m_ a b).trans hres⟩)

end
end Go.Proofs.YtnfbcofieobkkaaGreatDoor
