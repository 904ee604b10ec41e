/- The library's facts at this translation, in plain words; the three contracts. (Laid by a program.) -/
import Derived.Shelf.Strconv.Itoa0
import Derived.Shelf.Bits.Mul64
import Derived.Shelf.Spec.TrailingZeros
import Derived.Test.YtnfbcofieobkkaaGreatDoorTy
import Derived.Test.YtnfbcofieobkkaaGreatDoorK
namespace Go.Proofs
open Go.Shelf
def Tryz.lays129_ren : Go.Shelf.Ren := ⟨fun | 129 => 244 | n => n, fun | 53 => 25 | 3 => 3 | 4 => 4 | 46 => 109 | 5 => 5 | 9 => 9 | n => n, fun | n => n⟩
theorem Tryz.lays129 : Go.Proofs.Lays.n129 Tryz.prog Tryz.lays129_ren := {
  mixed := by kernel_rfl
  f129 := Tryz.func244.trans (congrArg some (by kernel_rfl))
  t3 := Tryz.underlying3
  a3 := Tryz.isAgg3
  z3 := Tryz.sizeOf3
  v3 := Tryz.zeroValue3
  t4 := Tryz.underlying4
  a4 := Tryz.isAgg4
  z4 := Tryz.sizeOf4
  v4 := Tryz.zeroValue4
  t5 := Tryz.underlying5
  a5 := Tryz.isAgg5
  z5 := Tryz.sizeOf5
  v5 := Tryz.zeroValue5
  t9 := Tryz.underlying9
  a9 := Tryz.isAgg9
  z9 := Tryz.sizeOf9
  v9 := Tryz.zeroValue9
  t46 := Tryz.underlying109
  a46 := Tryz.isAgg109
  z46 := Tryz.sizeOf109
  v46 := Tryz.zeroValue109
  t53 := Tryz.underlying25
  a53 := Tryz.isAgg25
  z53 := Tryz.sizeOf25
  v53 := Tryz.zeroValue25 }
def Tryz.lays264_ren : Go.Shelf.Ren := ⟨fun | 264 => 242 | n => n, fun | 53 => 25 | 46 => 109 | n => n, fun | n => n⟩
theorem Tryz.lays264 : Go.Proofs.Lays.n264 Tryz.prog Tryz.lays264_ren := {
  mixed := by kernel_rfl
  f264 := Tryz.func242.trans (congrArg some (by kernel_rfl))
  t46 := Tryz.underlying109
  a46 := Tryz.isAgg109
  z46 := Tryz.sizeOf109
  v46 := Tryz.zeroValue109
  t53 := Tryz.underlying25
  a53 := Tryz.isAgg25
  z53 := Tryz.sizeOf25
  v53 := Tryz.zeroValue25 }
def Tryz.lays29_ren : Go.Shelf.Ren := ⟨fun | 29 => 255 | n => n, fun | 22 => 25 | 3 => 3 | 4 => 4 | 25 => 109 | 54 => 223 | 0 => 0 | 5 => 5 | n => n, fun | 1 => 0 | n => n⟩
theorem Tryz.lays29 : Go.Proofs.Lays7.n29 Tryz.prog Tryz.lays29_ren := {
  mixed := by kernel_rfl
  f29 := Tryz.func255.trans (congrArg some (by kernel_rfl))
  t0 := Tryz.underlying0
  a0 := Tryz.isAgg0
  z0 := Tryz.sizeOf0
  v0 := Tryz.zeroValue0
  i0 := by kernel_rfl
  t3 := Tryz.underlying3
  a3 := Tryz.isAgg3
  z3 := Tryz.sizeOf3
  v3 := Tryz.zeroValue3
  i3 := by kernel_rfl
  t4 := Tryz.underlying4
  a4 := Tryz.isAgg4
  z4 := Tryz.sizeOf4
  v4 := Tryz.zeroValue4
  i4 := by kernel_rfl
  t5 := Tryz.underlying5
  a5 := Tryz.isAgg5
  z5 := Tryz.sizeOf5
  v5 := Tryz.zeroValue5
  i5 := by kernel_rfl
  t22 := Tryz.underlying25
  a22 := Tryz.isAgg25
  z22 := Tryz.sizeOf25
  v22 := Tryz.zeroValue25
  i22 := by kernel_rfl
  t25 := Tryz.underlying109
  a25 := Tryz.isAgg109
  z25 := Tryz.sizeOf109
  v25 := Tryz.zeroValue109
  i25 := by kernel_rfl
  t54 := Tryz.underlying223
  a54 := Tryz.isAgg223
  z54 := Tryz.sizeOf223
  g1 := by kernel_rfl }
end Go.Proofs

namespace Go.Proofs.YtnfbcofieobkkaaGreatDoor
open Go Go.Proofs Ev

theorem u64_of {x : Int} (h : wf2 ((dI .u64).enc x)) : ∃ n : Nat, x = n ∧ n < 18446744073709551616 := by
  have h : IntKind.u64.min ≤ x ∧ x ≤ IntKind.u64.max := h
  simp [IntKind.min, IntKind.max, IntKind.bits, IntKind.signed] at h
  exact ⟨x.toNat, by omega, by omega⟩

theorem ok_i64 {n : Nat} (h : n ≤ 1000) : wf2 ((dI .i64).enc (n : Int)) := by
  show IntKind.i64.min ≤ (n : Int) ∧ (n : Int) ≤ IntKind.i64.max
  simp [IntKind.min, IntKind.max, IntKind.bits, IntKind.signed]
  omega

theorem ok_u64 {n : Nat} (h : n < 18446744073709551616) : wf0 (.int .u64 (n : Int)) := by
  show IntKind.u64.min ≤ (n : Int) ∧ (n : Int) ≤ IntKind.u64.max
  simp [IntKind.min, IntKind.max, IntKind.bits, IntKind.signed]
  omega

def math_bits_Len64.g (x : Int) : Option Int := some (Lib.bitLen x.toNat : Nat)
def math_bits_Len64.ct : CT := CT.of1 (dI .u64) (dI .i64) math_bits_Len64.g
theorem math_bits_Len64.ok : CTok Tryz.prog 244 math_bits_Len64.ct := CTok.lib1 Tryz.call244 fun a r hr ha => by
  obtain ⟨n, rfl, hn⟩ := u64_of ha
  cases hr
  refine ⟨ok_i64 ?_, fun w _ => Any.bits_Len64 Tryz.lays129 (n : Int) w (by omega) (by omega)⟩
  have := Lib.bitLen_le n 64 (Nat.le_refl _) hn
  rw [Int.toNat_natCast]
  omega

def math_bits_Mul64.g (x y : Int) : Option (Int × Int) := some (((x.toNat * y.toNat / 18446744073709551616 : Nat) : Int), ((x.toNat * y.toNat % 18446744073709551616 : Nat) : Int))
def math_bits_Mul64.ct : CT := CT.of2 (dI .u64) (dI .u64) (dT2 (dI .u64) (dI .u64)) math_bits_Mul64.g
theorem math_bits_Mul64.ok : CTok Tryz.prog 242 math_bits_Mul64.ct := CTok.lib2 Tryz.call242 fun a b r hr ha hb => by
  obtain ⟨n, rfl, hn⟩ := u64_of ha
  obtain ⟨m, rfl, hm⟩ := u64_of hb
  cases hr
  refine ⟨fun v hv => ?_, fun w _ => Any.bits_Mul64 Tryz.lays264 n m hn hm w⟩
  simp only [List.mem_cons, List.not_mem_nil, or_false] at hv
  rcases hv with rfl | rfl
  · refine ok_u64 (Nat.div_lt_of_lt_mul ?_)
    exact Nat.mul_lt_mul'' hn hm
  · exact ok_u64 (Nat.mod_lt _ (by decide))

def math_bits_TrailingZeros64.g (x : Int) : Option Int := some (Lib.ctz 64 x.toNat : Nat)
def math_bits_TrailingZeros64.ct : CT := CT.of1 (dI .u64) (dI .i64) math_bits_TrailingZeros64.g
theorem math_bits_TrailingZeros64.ok : CTok Tryz.prog 255 math_bits_TrailingZeros64.ct := CTok.lib1 Tryz.call255 fun a r hr ha => by
  obtain ⟨n, rfl, hn⟩ := u64_of ha
  cases hr
  refine ⟨ok_i64 ?_, fun w hWI => Any7.bits_TrailingZeros64 Tryz.lays29 n hn w fun _ j hj => hWI j hj⟩
  rw [Int.toNat_natCast]
  by_cases h0 : n = 0
  · subst h0; decide
  · have := (Lib.lowest_bit 64 n h0 hn).2
    omega

end Go.Proofs.YtnfbcofieobkkaaGreatDoor
