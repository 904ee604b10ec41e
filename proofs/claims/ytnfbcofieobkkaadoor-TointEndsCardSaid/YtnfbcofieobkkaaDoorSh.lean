/- The library's facts at this translation, in plain words; the three contracts. (Laid by a program.) -/
import Derived.Shelf.Strconv.Itoa0
import Derived.Shelf.Bits.Mul64
import Derived.Shelf.Spec.TrailingZeros
import Derived.Test.YtnfbcofieobkkaaDoorTy
import Derived.Test.YtnfbcofieobkkaaDoorK
namespace Go.Proofs
open Go.Shelf
def Tryd.lays129_ren : Go.Shelf.Ren := ⟨fun | 129 => 155 | n => n, fun | 53 => 25 | 3 => 3 | 4 => 4 | 46 => 101 | 5 => 5 | 9 => 9 | n => n, fun | n => n⟩
theorem Tryd.lays129 : Go.Proofs.Lays.n129 Tryd.prog Tryd.lays129_ren := {
  mixed := by kernel_rfl
  f129 := Tryd.func155.trans (congrArg some (by kernel_rfl))
  t3 := Tryd.underlying3
  a3 := Tryd.isAgg3
  z3 := Tryd.sizeOf3
  v3 := Tryd.zeroValue3
  t4 := Tryd.underlying4
  a4 := Tryd.isAgg4
  z4 := Tryd.sizeOf4
  v4 := Tryd.zeroValue4
  t5 := Tryd.underlying5
  a5 := Tryd.isAgg5
  z5 := Tryd.sizeOf5
  v5 := Tryd.zeroValue5
  t9 := Tryd.underlying9
  a9 := Tryd.isAgg9
  z9 := Tryd.sizeOf9
  v9 := Tryd.zeroValue9
  t46 := Tryd.underlying101
  a46 := Tryd.isAgg101
  z46 := Tryd.sizeOf101
  v46 := Tryd.zeroValue101
  t53 := Tryd.underlying25
  a53 := Tryd.isAgg25
  z53 := Tryd.sizeOf25
  v53 := Tryd.zeroValue25 }
def Tryd.lays264_ren : Go.Shelf.Ren := ⟨fun | 264 => 154 | n => n, fun | 53 => 25 | 46 => 101 | n => n, fun | n => n⟩
theorem Tryd.lays264 : Go.Proofs.Lays.n264 Tryd.prog Tryd.lays264_ren := {
  mixed := by kernel_rfl
  f264 := Tryd.func154.trans (congrArg some (by kernel_rfl))
  t46 := Tryd.underlying101
  a46 := Tryd.isAgg101
  z46 := Tryd.sizeOf101
  v46 := Tryd.zeroValue101
  t53 := Tryd.underlying25
  a53 := Tryd.isAgg25
  z53 := Tryd.sizeOf25
  v53 := Tryd.zeroValue25 }
def Tryd.lays29_ren : Go.Shelf.Ren := ⟨fun | 29 => 172 | n => n, fun | 22 => 25 | 3 => 3 | 4 => 4 | 25 => 101 | 54 => 170 | 0 => 0 | 5 => 5 | n => n, fun | 1 => 0 | n => n⟩
theorem Tryd.lays29 : Go.Proofs.Lays7.n29 Tryd.prog Tryd.lays29_ren := {
  mixed := by kernel_rfl
  f29 := Tryd.func172.trans (congrArg some (by kernel_rfl))
  t0 := Tryd.underlying0
  a0 := Tryd.isAgg0
  z0 := Tryd.sizeOf0
  v0 := Tryd.zeroValue0
  i0 := by kernel_rfl
  t3 := Tryd.underlying3
  a3 := Tryd.isAgg3
  z3 := Tryd.sizeOf3
  v3 := Tryd.zeroValue3
  i3 := by kernel_rfl
  t4 := Tryd.underlying4
  a4 := Tryd.isAgg4
  z4 := Tryd.sizeOf4
  v4 := Tryd.zeroValue4
  i4 := by kernel_rfl
  t5 := Tryd.underlying5
  a5 := Tryd.isAgg5
  z5 := Tryd.sizeOf5
  v5 := Tryd.zeroValue5
  i5 := by kernel_rfl
  t22 := Tryd.underlying25
  a22 := Tryd.isAgg25
  z22 := Tryd.sizeOf25
  v22 := Tryd.zeroValue25
  i22 := by kernel_rfl
  t25 := Tryd.underlying101
  a25 := Tryd.isAgg101
  z25 := Tryd.sizeOf101
  v25 := Tryd.zeroValue101
  i25 := by kernel_rfl
  t54 := Tryd.underlying170
  a54 := Tryd.isAgg170
  z54 := Tryd.sizeOf170
  g1 := by kernel_rfl }
end Go.Proofs

namespace Go.Proofs.YtnfbcofieobkkaaDoor
open Go Go.Proofs Ev

theorem u64_of {x : Int} (h : wf2 ((dI .u64).enc x)) : ∃ n : Nat, x = n ∧ n < 18446744073709551616 := by
  have h : IntKind.u64.min ≤ x ∧ x ≤ IntKind.u64.max := h
  simp [IntKind.min, IntKind.max, IntKind.bits, IntKind.signed] at h
  exact ⟨x.toNat, by omega, by omega⟩

theorem ok_i64 {n : Nat} (h : n ≤ 1000) : wf2 ((dI .i64).enc (n : Int)) := by
  show IntKind.i64.min ≤ (n : Int) ∧ (n : Int) ≤ IntKind.i64.max
  simp [IntKind.min, IntKind.max, IntKind.bits, IntKind.signed]
  omega

theorem ok_u64 {n : Nat} (h : n < 18446744073709551616) : wf0 (.int .u64 (n : Int)) := by
  show IntKind.u64.min ≤ (n : Int) ∧ (n : Int) ≤ IntKind.u64.max
  simp [IntKind.min, IntKind.max, IntKind.bits, IntKind.signed]
  omega

def math_bits_Len64.g (x : Int) : Option Int := some (Lib.bitLen x.toNat : Nat)
def math_bits_Len64.ct : CT := CT.of1 (dI .u64) (dI .i64) math_bits_Len64.g
theorem math_bits_Len64.ok : CTok Tryd.prog 155 math_bits_Len64.ct := CTok.lib1 Tryd.call155 fun a r hr ha => by
  obtain ⟨n, rfl, hn⟩ := u64_of ha
  cases hr
  refine ⟨ok_i64 ?_, fun w _ => Any.bits_Len64 Tryd.lays129 (n : Int) w (by omega) (by omega)⟩
  have := Lib.bitLen_le n 64 (Nat.le_refl _) hn
  rw [Int.toNat_natCast]
  omega

def math_bits_Mul64.g (x y : Int) : Option (Int × Int) := some (((x.toNat * y.toNat / 18446744073709551616 : Nat) : Int), ((x.toNat * y.toNat % 18446744073709551616 : Nat) : Int))
def math_bits_Mul64.ct : CT := CT.of2 (dI .u64) (dI .u64) (dT2 (dI .u64) (dI .u64)) math_bits_Mul64.g
theorem math_bits_Mul64.ok : CTok Tryd.prog 154 math_bits_Mul64.ct := CTok.lib2 Tryd.call154 fun a b r hr ha hb => by
  obtain ⟨n, rfl, hn⟩ := u64_of ha
  obtain ⟨m, rfl, hm⟩ := u64_of hb
  cases hr
  refine ⟨fun v hv => ?_, fun w _ => Any.bits_Mul64 Tryd.lays264 n m hn hm w⟩
  simp only [List.mem_cons, List.not_mem_nil, or_false] at hv
  rcases hv with rfl | rfl
  · refine ok_u64 (Nat.div_lt_of_lt_mul ?_)
    exact Nat.mul_lt_mul'' hn hm
  · exact ok_u64 (Nat.mod_lt _ (by decide))

def math_bits_TrailingZeros64.g (x : Int) : Option Int := some (Lib.ctz 64 x.toNat : Nat)
def math_bits_TrailingZeros64.ct : CT := CT.of1 (dI .u64) (dI .i64) math_bits_TrailingZeros64.g
theorem math_bits_TrailingZeros64.ok : CTok Tryd.prog 172 math_bits_TrailingZeros64.ct := CTok.lib1 Tryd.call172 fun a r hr ha => by
  obtain ⟨n, rfl, hn⟩ := u64_of ha
  cases hr
  refine ⟨ok_i64 ?_, fun w hWI => Any7.bits_TrailingZeros64 Tryd.lays29 n hn w fun _ j hj => hWI j hj⟩
  rw [Int.toNat_natCast]
  by_cases h0 : n = 0
  · subst h0; decide
  · have := (Lib.lowest_bit 64 n h0 hn).2
    omega

end Go.Proofs.YtnfbcofieobkkaaDoor
