/- Shifts of numbers of 384 bits, word by word. -/
import Derived.Test.YtnfbcofieobkkaaDoorM1
namespace Go.Proofs.YtnfbcofieobkkaaDoor
open Go Go.Proofs Ev
set_option linter.unusedVariables false
set_option exponentiation.threshold 512
set_option linter.unusedSimpArgs false

theorem divI (k : Nat) (h : k ≤ 1000000) : IntKind.i64.wrap (((k : Nat) : Int).tdiv (64 : Int)) = ((k / 64 : Nat) : Int) := by
  rw [show (64 : Int) = ((64 : Nat) : Int) from rfl, div_nat, wrap_i64 (by omega) (by omega)]
theorem modU (k : Nat) (h : k ≤ 1000000) : IntKind.u64.wrap (((k : Nat) : Int).tmod (64 : Int)) = ((k % 64 : Nat) : Int) := by
  rw [show (64 : Int) = ((64 : Nat) : Int) from rfl, mod_nat, wrap_u64 (by omega) (by omega)]
theorem rest64 {s : Nat} (hs : s < 64) : IntKind.u64.wrap ((64 : Int) - (s : Int)) = ((64 - s : Nat) : Int) := by
  rw [wrap_u64 (by omega) (by omega)]; omega

theorem left_l0 {R : Type} (N : Nat) (x : Bool) (s : Int) (m : W6) (k : Int → W6 → Option R) (n : Nat) : wide_Left.l0 N x (0 : Int) s m k (n + 7) (5 : Int) { w0 := (0 : Int), w1 := (0 : Int), w2 := (0 : Int), w3 := (0 : Int), w4 := (0 : Int), w5 := (0 : Int) : W6 } = k (-1 : Int) ⟨shlI .u64 m.w0 s, orI .u64 (shlI .u64 m.w1 s) (shrI .u64 m.w0 (IntKind.u64.wrap ((64 : Int) - s))), orI .u64 (shlI .u64 m.w2 s) (shrI .u64 m.w1 (IntKind.u64.wrap ((64 : Int) - s))), orI .u64 (shlI .u64 m.w3 s) (shrI .u64 m.w2 (IntKind.u64.wrap ((64 : Int) - s))), orI .u64 (shlI .u64 m.w4 s) (shrI .u64 m.w3 (IntKind.u64.wrap ((64 : Int) - s))), orI .u64 (shlI .u64 m.w5 s) (shrI .u64 m.w4 (IntKind.u64.wrap ((64 : Int) - s)))⟩ := by kernel_rfl
theorem left_l1 {R : Type} (N : Nat) (x : Bool) (s : Int) (m : W6) (k : Int → W6 → Option R) (n : Nat) : wide_Left.l0 N x (1 : Int) s m k (n + 7) (5 : Int) { w0 := (0 : Int), w1 := (0 : Int), w2 := (0 : Int), w3 := (0 : Int), w4 := (0 : Int), w5 := (0 : Int) : W6 } = k (0 : Int) ⟨(0 : Int), shlI .u64 m.w0 s, orI .u64 (shlI .u64 m.w1 s) (shrI .u64 m.w0 (IntKind.u64.wrap ((64 : Int) - s))), orI .u64 (shlI .u64 m.w2 s) (shrI .u64 m.w1 (IntKind.u64.wrap ((64 : Int) - s))), orI .u64 (shlI .u64 m.w3 s) (shrI .u64 m.w2 (IntKind.u64.wrap ((64 : Int) - s))), orI .u64 (shlI .u64 m.w4 s) (shrI .u64 m.w3 (IntKind.u64.wrap ((64 : Int) - s)))⟩ := by kernel_rfl
theorem left_l2 {R : Type} (N : Nat) (x : Bool) (s : Int) (m : W6) (k : Int → W6 → Option R) (n : Nat) : wide_Left.l0 N x (2 : Int) s m k (n + 7) (5 : Int) { w0 := (0 : Int), w1 := (0 : Int), w2 := (0 : Int), w3 := (0 : Int), w4 := (0 : Int), w5 := (0 : Int) : W6 } = k (1 : Int) ⟨(0 : Int), (0 : Int), shlI .u64 m.w0 s, orI .u64 (shlI .u64 m.w1 s) (shrI .u64 m.w0 (IntKind.u64.wrap ((64 : Int) - s))), orI .u64 (shlI .u64 m.w2 s) (shrI .u64 m.w1 (IntKind.u64.wrap ((64 : Int) - s))), orI .u64 (shlI .u64 m.w3 s) (shrI .u64 m.w2 (IntKind.u64.wrap ((64 : Int) - s)))⟩ := by kernel_rfl
theorem left_l3 {R : Type} (N : Nat) (x : Bool) (s : Int) (m : W6) (k : Int → W6 → Option R) (n : Nat) : wide_Left.l0 N x (3 : Int) s m k (n + 7) (5 : Int) { w0 := (0 : Int), w1 := (0 : Int), w2 := (0 : Int), w3 := (0 : Int), w4 := (0 : Int), w5 := (0 : Int) : W6 } = k (2 : Int) ⟨(0 : Int), (0 : Int), (0 : Int), shlI .u64 m.w0 s, orI .u64 (shlI .u64 m.w1 s) (shrI .u64 m.w0 (IntKind.u64.wrap ((64 : Int) - s))), orI .u64 (shlI .u64 m.w2 s) (shrI .u64 m.w1 (IntKind.u64.wrap ((64 : Int) - s)))⟩ := by kernel_rfl
theorem left_l4 {R : Type} (N : Nat) (x : Bool) (s : Int) (m : W6) (k : Int → W6 → Option R) (n : Nat) : wide_Left.l0 N x (4 : Int) s m k (n + 7) (5 : Int) { w0 := (0 : Int), w1 := (0 : Int), w2 := (0 : Int), w3 := (0 : Int), w4 := (0 : Int), w5 := (0 : Int) : W6 } = k (3 : Int) ⟨(0 : Int), (0 : Int), (0 : Int), (0 : Int), shlI .u64 m.w0 s, orI .u64 (shlI .u64 m.w1 s) (shrI .u64 m.w0 (IntKind.u64.wrap ((64 : Int) - s)))⟩ := by kernel_rfl
theorem left_l5 {R : Type} (N : Nat) (x : Bool) (s : Int) (m : W6) (k : Int → W6 → Option R) (n : Nat) : wide_Left.l0 N x (5 : Int) s m k (n + 7) (5 : Int) { w0 := (0 : Int), w1 := (0 : Int), w2 := (0 : Int), w3 := (0 : Int), w4 := (0 : Int), w5 := (0 : Int) : W6 } = k (4 : Int) ⟨(0 : Int), (0 : Int), (0 : Int), (0 : Int), (0 : Int), shlI .u64 m.w0 s⟩ := by kernel_rfl
theorem left_l6 {R : Type} (N : Nat) (x : Bool) (s : Int) (m : W6) (k : Int → W6 → Option R) (n : Nat) : wide_Left.l0 N x (6 : Int) s m k (n + 7) (5 : Int) { w0 := (0 : Int), w1 := (0 : Int), w2 := (0 : Int), w3 := (0 : Int), w4 := (0 : Int), w5 := (0 : Int) : W6 } = k (5 : Int) ⟨(0 : Int), (0 : Int), (0 : Int), (0 : Int), (0 : Int), (0 : Int)⟩ := by kernel_rfl
theorem right_l0 {R : Type} (N : Nat) (x : Bool) (s : Int) (m : W6) (k : Int → W6 → Option R) (n : Nat) : wide_Right.l0 N x (0 : Int) s m k (n + 7) (0 : Int) { w0 := (0 : Int), w1 := (0 : Int), w2 := (0 : Int), w3 := (0 : Int), w4 := (0 : Int), w5 := (0 : Int) : W6 } = k (6 : Int) ⟨orI .u64 (shrI .u64 m.w0 s) (shlI .u64 m.w1 (IntKind.u64.wrap ((64 : Int) - s))), orI .u64 (shrI .u64 m.w1 s) (shlI .u64 m.w2 (IntKind.u64.wrap ((64 : Int) - s))), orI .u64 (shrI .u64 m.w2 s) (shlI .u64 m.w3 (IntKind.u64.wrap ((64 : Int) - s))), orI .u64 (shrI .u64 m.w3 s) (shlI .u64 m.w4 (IntKind.u64.wrap ((64 : Int) - s))), orI .u64 (shrI .u64 m.w4 s) (shlI .u64 m.w5 (IntKind.u64.wrap ((64 : Int) - s))), shrI .u64 m.w5 s⟩ := by kernel_rfl
theorem right_l1 {R : Type} (N : Nat) (x : Bool) (s : Int) (m : W6) (k : Int → W6 → Option R) (n : Nat) : wide_Right.l0 N x (1 : Int) s m k (n + 7) (0 : Int) { w0 := (0 : Int), w1 := (0 : Int), w2 := (0 : Int), w3 := (0 : Int), w4 := (0 : Int), w5 := (0 : Int) : W6 } = k (5 : Int) ⟨orI .u64 (shrI .u64 m.w1 s) (shlI .u64 m.w2 (IntKind.u64.wrap ((64 : Int) - s))), orI .u64 (shrI .u64 m.w2 s) (shlI .u64 m.w3 (IntKind.u64.wrap ((64 : Int) - s))), orI .u64 (shrI .u64 m.w3 s) (shlI .u64 m.w4 (IntKind.u64.wrap ((64 : Int) - s))), orI .u64 (shrI .u64 m.w4 s) (shlI .u64 m.w5 (IntKind.u64.wrap ((64 : Int) - s))), shrI .u64 m.w5 s, (0 : Int)⟩ := by kernel_rfl
theorem right_l2 {R : Type} (N : Nat) (x : Bool) (s : Int) (m : W6) (k : Int → W6 → Option R) (n : Nat) : wide_Right.l0 N x (2 : Int) s m k (n + 7) (0 : Int) { w0 := (0 : Int), w1 := (0 : Int), w2 := (0 : Int), w3 := (0 : Int), w4 := (0 : Int), w5 := (0 : Int) : W6 } = k (4 : Int) ⟨orI .u64 (shrI .u64 m.w2 s) (shlI .u64 m.w3 (IntKind.u64.wrap ((64 : Int) - s))), orI .u64 (shrI .u64 m.w3 s) (shlI .u64 m.w4 (IntKind.u64.wrap ((64 : Int) - s))), orI .u64 (shrI .u64 m.w4 s) (shlI .u64 m.w5 (IntKind.u64.wrap ((64 : Int) - s))), shrI .u64 m.w5 s, (0 : Int), (0 : Int)⟩ := by kernel_rfl
theorem right_l3 {R : Type} (N : Nat) (x : Bool) (s : Int) (m : W6) (k : Int → W6 → Option R) (n : Nat) : wide_Right.l0 N x (3 : Int) s m k (n + 7) (0 : Int) { w0 := (0 : Int), w1 := (0 : Int), w2 := (0 : Int), w3 := (0 : Int), w4 := (0 : Int), w5 := (0 : Int) : W6 } = k (3 : Int) ⟨orI .u64 (shrI .u64 m.w3 s) (shlI .u64 m.w4 (IntKind.u64.wrap ((64 : Int) - s))), orI .u64 (shrI .u64 m.w4 s) (shlI .u64 m.w5 (IntKind.u64.wrap ((64 : Int) - s))), shrI .u64 m.w5 s, (0 : Int), (0 : Int), (0 : Int)⟩ := by kernel_rfl
theorem right_l4 {R : Type} (N : Nat) (x : Bool) (s : Int) (m : W6) (k : Int → W6 → Option R) (n : Nat) : wide_Right.l0 N x (4 : Int) s m k (n + 7) (0 : Int) { w0 := (0 : Int), w1 := (0 : Int), w2 := (0 : Int), w3 := (0 : Int), w4 := (0 : Int), w5 := (0 : Int) : W6 } = k (2 : Int) ⟨orI .u64 (shrI .u64 m.w4 s) (shlI .u64 m.w5 (IntKind.u64.wrap ((64 : Int) - s))), shrI .u64 m.w5 s, (0 : Int), (0 : Int), (0 : Int), (0 : Int)⟩ := by kernel_rfl
theorem right_l5 {R : Type} (N : Nat) (x : Bool) (s : Int) (m : W6) (k : Int → W6 → Option R) (n : Nat) : wide_Right.l0 N x (5 : Int) s m k (n + 7) (0 : Int) { w0 := (0 : Int), w1 := (0 : Int), w2 := (0 : Int), w3 := (0 : Int), w4 := (0 : Int), w5 := (0 : Int) : W6 } = k (1 : Int) ⟨shrI .u64 m.w5 s, (0 : Int), (0 : Int), (0 : Int), (0 : Int), (0 : Int)⟩ := by kernel_rfl
theorem right_l6 {R : Type} (N : Nat) (x : Bool) (s : Int) (m : W6) (k : Int → W6 → Option R) (n : Nat) : wide_Right.l0 N x (6 : Int) s m k (n + 7) (0 : Int) { w0 := (0 : Int), w1 := (0 : Int), w2 := (0 : Int), w3 := (0 : Int), w4 := (0 : Int), w5 := (0 : Int) : W6 } = k (0 : Int) ⟨(0 : Int), (0 : Int), (0 : Int), (0 : Int), (0 : Int), (0 : Int)⟩ := by kernel_rfl

theorem shl_hi (a : Nat) {s : Nat} (hs : s < 64) (i : Nat) : orI .u64 (shlI .u64 ((wd a (i + 1) : Nat) : Int) (s : Int)) (shrI .u64 ((wd a i : Nat) : Int) ((64 - s : Nat) : Int)) = (((wd a (i + 1) * 2 ^ s % 18446744073709551616) ||| (wd a i / 2 ^ (64 - s)) : Nat) : Int) := by
  rw [shl_u64, shr_u64, Nat.min_eq_left (by omega), Nat.min_eq_left (by omega), or_u64 (Nat.mod_lt _ (by decide)) (Nat.lt_of_le_of_lt (Nat.div_le_self _ _) (wd_lt _ _))]
theorem shr_lo (a : Nat) {s : Nat} (hs : s < 64) (i : Nat) : orI .u64 (shrI .u64 ((wd a i : Nat) : Int) (s : Int)) (shlI .u64 ((wd a (i + 1) : Nat) : Int) ((64 - s : Nat) : Int)) = (((wd a i / 2 ^ s) ||| (wd a (i + 1) * 2 ^ (64 - s) % 18446744073709551616) : Nat) : Int) := by
  rw [shl_u64, shr_u64, Nat.min_eq_left (by omega), Nat.min_eq_left (by omega), or_u64 (Nat.lt_of_le_of_lt (Nat.div_le_self _ _) (wd_lt _ _)) (Nat.mod_lt _ (by decide))]
theorem shl_w0 (a : Nat) {s : Nat} (hs : s < 64) : shlI .u64 ((wd a 0 : Nat) : Int) (s : Int) = ((wd a 0 * 2 ^ s % 18446744073709551616 : Nat) : Int) := by
  rw [shl_u64, Nat.min_eq_left (by omega)]
theorem shr_w5 (a : Nat) {s : Nat} (hs : s < 64) (h6 : wd a 6 = 0) : shrI .u64 ((wd a 5 : Nat) : Int) (s : Int) = (((wd a 5 / 2 ^ s) ||| (wd a 6 * 2 ^ (64 - s) % 18446744073709551616) : Nat) : Int) := by
  rw [shr_u64, Nat.min_eq_left (by omega), h6]; simp

theorem left_of0 {R : Type} (N : Nat) (x : Bool) {s : Nat} (hs : s < 64) (a : Nat) (k : Int → W6 → Option R) (n : Nat) : wide_Left.l0 N x (0 : Int) (s : Int) (W6.of a) k (n + 7) (5 : Int) { w0 := (0 : Int), w1 := (0 : Int), w2 := (0 : Int), w3 := (0 : Int), w4 := (0 : Int), w5 := (0 : Int) : W6 } = k (-1 : Int) (W6.of (a * 2 ^ (64 * 0 + s))) := by
  rw [left_l0]
  simp only [of_w0, of_w1, of_w2, of_w3, of_w4, of_w5, rest64 hs, shl_hi a hs, shl_w0 a hs]
  simp only [W6.of, wd_shl a (w := 0) (i := 0) hs, wd_shl a (w := 0) (i := 1) hs, wd_shl a (w := 0) (i := 2) hs, wd_shl a (w := 0) (i := 3) hs, wd_shl a (w := 0) (i := 4) hs, wd_shl a (w := 0) (i := 5) hs]
  rfl
theorem left_of1 {R : Type} (N : Nat) (x : Bool) {s : Nat} (hs : s < 64) (a : Nat) (k : Int → W6 → Option R) (n : Nat) : wide_Left.l0 N x (1 : Int) (s : Int) (W6.of a) k (n + 7) (5 : Int) { w0 := (0 : Int), w1 := (0 : Int), w2 := (0 : Int), w3 := (0 : Int), w4 := (0 : Int), w5 := (0 : Int) : W6 } = k (0 : Int) (W6.of (a * 2 ^ (64 * 1 + s))) := by
  rw [left_l1]
  simp only [of_w0, of_w1, of_w2, of_w3, of_w4, of_w5, rest64 hs, shl_hi a hs, shl_w0 a hs]
  simp only [W6.of, wd_shl a (w := 1) (i := 0) hs, wd_shl a (w := 1) (i := 1) hs, wd_shl a (w := 1) (i := 2) hs, wd_shl a (w := 1) (i := 3) hs, wd_shl a (w := 1) (i := 4) hs, wd_shl a (w := 1) (i := 5) hs]
  rfl
theorem left_of2 {R : Type} (N : Nat) (x : Bool) {s : Nat} (hs : s < 64) (a : Nat) (k : Int → W6 → Option R) (n : Nat) : wide_Left.l0 N x (2 : Int) (s : Int) (W6.of a) k (n + 7) (5 : Int) { w0 := (0 : Int), w1 := (0 : Int), w2 := (0 : Int), w3 := (0 : Int), w4 := (0 : Int), w5 := (0 : Int) : W6 } = k (1 : Int) (W6.of (a * 2 ^ (64 * 2 + s))) := by
  rw [left_l2]
  simp only [of_w0, of_w1, of_w2, of_w3, of_w4, of_w5, rest64 hs, shl_hi a hs, shl_w0 a hs]
  simp only [W6.of, wd_shl a (w := 2) (i := 0) hs, wd_shl a (w := 2) (i := 1) hs, wd_shl a (w := 2) (i := 2) hs, wd_shl a (w := 2) (i := 3) hs, wd_shl a (w := 2) (i := 4) hs, wd_shl a (w := 2) (i := 5) hs]
  rfl
theorem left_of3 {R : Type} (N : Nat) (x : Bool) {s : Nat} (hs : s < 64) (a : Nat) (k : Int → W6 → Option R) (n : Nat) : wide_Left.l0 N x (3 : Int) (s : Int) (W6.of a) k (n + 7) (5 : Int) { w0 := (0 : Int), w1 := (0 : Int), w2 := (0 : Int), w3 := (0 : Int), w4 := (0 : Int), w5 := (0 : Int) : W6 } = k (2 : Int) (W6.of (a * 2 ^ (64 * 3 + s))) := by
  rw [left_l3]
  simp only [of_w0, of_w1, of_w2, of_w3, of_w4, of_w5, rest64 hs, shl_hi a hs, shl_w0 a hs]
  simp only [W6.of, wd_shl a (w := 3) (i := 0) hs, wd_shl a (w := 3) (i := 1) hs, wd_shl a (w := 3) (i := 2) hs, wd_shl a (w := 3) (i := 3) hs, wd_shl a (w := 3) (i := 4) hs, wd_shl a (w := 3) (i := 5) hs]
  rfl
theorem left_of4 {R : Type} (N : Nat) (x : Bool) {s : Nat} (hs : s < 64) (a : Nat) (k : Int → W6 → Option R) (n : Nat) : wide_Left.l0 N x (4 : Int) (s : Int) (W6.of a) k (n + 7) (5 : Int) { w0 := (0 : Int), w1 := (0 : Int), w2 := (0 : Int), w3 := (0 : Int), w4 := (0 : Int), w5 := (0 : Int) : W6 } = k (3 : Int) (W6.of (a * 2 ^ (64 * 4 + s))) := by
  rw [left_l4]
  simp only [of_w0, of_w1, of_w2, of_w3, of_w4, of_w5, rest64 hs, shl_hi a hs, shl_w0 a hs]
  simp only [W6.of, wd_shl a (w := 4) (i := 0) hs, wd_shl a (w := 4) (i := 1) hs, wd_shl a (w := 4) (i := 2) hs, wd_shl a (w := 4) (i := 3) hs, wd_shl a (w := 4) (i := 4) hs, wd_shl a (w := 4) (i := 5) hs]
  rfl
theorem left_of5 {R : Type} (N : Nat) (x : Bool) {s : Nat} (hs : s < 64) (a : Nat) (k : Int → W6 → Option R) (n : Nat) : wide_Left.l0 N x (5 : Int) (s : Int) (W6.of a) k (n + 7) (5 : Int) { w0 := (0 : Int), w1 := (0 : Int), w2 := (0 : Int), w3 := (0 : Int), w4 := (0 : Int), w5 := (0 : Int) : W6 } = k (4 : Int) (W6.of (a * 2 ^ (64 * 5 + s))) := by
  rw [left_l5]
  simp only [of_w0, of_w1, of_w2, of_w3, of_w4, of_w5, rest64 hs, shl_hi a hs, shl_w0 a hs]
  simp only [W6.of, wd_shl a (w := 5) (i := 0) hs, wd_shl a (w := 5) (i := 1) hs, wd_shl a (w := 5) (i := 2) hs, wd_shl a (w := 5) (i := 3) hs, wd_shl a (w := 5) (i := 4) hs, wd_shl a (w := 5) (i := 5) hs]
  rfl
theorem left_of6 {R : Type} (N : Nat) (x : Bool) {s : Nat} (hs : s < 64) (a : Nat) (k : Int → W6 → Option R) (n : Nat) : wide_Left.l0 N x (6 : Int) (s : Int) (W6.of a) k (n + 7) (5 : Int) { w0 := (0 : Int), w1 := (0 : Int), w2 := (0 : Int), w3 := (0 : Int), w4 := (0 : Int), w5 := (0 : Int) : W6 } = k (5 : Int) (W6.of (a * 2 ^ (64 * 6 + s))) := by
  rw [left_l6]
  simp only [W6.of, wd_shl a (w := 6) (i := 0) hs, wd_shl a (w := 6) (i := 1) hs, wd_shl a (w := 6) (i := 2) hs, wd_shl a (w := 6) (i := 3) hs, wd_shl a (w := 6) (i := 4) hs, wd_shl a (w := 6) (i := 5) hs]
  rfl
theorem right_of0 {R : Type} (N : Nat) (x : Bool) {s : Nat} (hs : s < 64) {a : Nat} (ha : a < 2 ^ 384) (k : Int → W6 → Option R) (n : Nat) : wide_Right.l0 N x (0 : Int) (s : Int) (W6.of a) k (n + 7) (0 : Int) { w0 := (0 : Int), w1 := (0 : Int), w2 := (0 : Int), w3 := (0 : Int), w4 := (0 : Int), w5 := (0 : Int) : W6 } = k (6 : Int) (W6.of (a / 2 ^ (64 * 0 + s))) := by
  have hz : ∀ i, 6 ≤ i → wd a i = 0 := fun i hi => wd_high (Nat.lt_of_lt_of_le ha (Nat.pow_le_pow_right (by decide) (by omega)))
  rw [right_l0]
  simp only [of_w0, of_w1, of_w2, of_w3, of_w4, of_w5, rest64 hs, shr_lo a hs, shr_w5 a hs (hz 6 (by decide))]
  have e : ∀ i, wd (a / 2 ^ (64 * 0 + s)) i = if i + 0 < 6 then (wd a (i + 0) / 2 ^ s) ||| (wd a (i + 0 + 1) * 2 ^ (64 - s) % 18446744073709551616) else 0 := by
    intro i
    rw [wd_shr a hs]
    split
    · rfl
    · rw [hz _ (by omega), hz _ (by omega)]; simp
  simp only [W6.of, e]
  rfl
theorem right_of1 {R : Type} (N : Nat) (x : Bool) {s : Nat} (hs : s < 64) {a : Nat} (ha : a < 2 ^ 384) (k : Int → W6 → Option R) (n : Nat) : wide_Right.l0 N x (1 : Int) (s : Int) (W6.of a) k (n + 7) (0 : Int) { w0 := (0 : Int), w1 := (0 : Int), w2 := (0 : Int), w3 := (0 : Int), w4 := (0 : Int), w5 := (0 : Int) : W6 } = k (5 : Int) (W6.of (a / 2 ^ (64 * 1 + s))) := by
  have hz : ∀ i, 6 ≤ i → wd a i = 0 := fun i hi => wd_high (Nat.lt_of_lt_of_le ha (Nat.pow_le_pow_right (by decide) (by omega)))
  rw [right_l1]
  simp only [of_w0, of_w1, of_w2, of_w3, of_w4, of_w5, rest64 hs, shr_lo a hs, shr_w5 a hs (hz 6 (by decide))]
  have e : ∀ i, wd (a / 2 ^ (64 * 1 + s)) i = if i + 1 < 6 then (wd a (i + 1) / 2 ^ s) ||| (wd a (i + 1 + 1) * 2 ^ (64 - s) % 18446744073709551616) else 0 := by
    intro i
    rw [wd_shr a hs]
    split
    · rfl
    · rw [hz _ (by omega), hz _ (by omega)]; simp
  simp only [W6.of, e]
  rfl
theorem right_of2 {R : Type} (N : Nat) (x : Bool) {s : Nat} (hs : s < 64) {a : Nat} (ha : a < 2 ^ 384) (k : Int → W6 → Option R) (n : Nat) : wide_Right.l0 N x (2 : Int) (s : Int) (W6.of a) k (n + 7) (0 : Int) { w0 := (0 : Int), w1 := (0 : Int), w2 := (0 : Int), w3 := (0 : Int), w4 := (0 : Int), w5 := (0 : Int) : W6 } = k (4 : Int) (W6.of (a / 2 ^ (64 * 2 + s))) := by
  have hz : ∀ i, 6 ≤ i → wd a i = 0 := fun i hi => wd_high (Nat.lt_of_lt_of_le ha (Nat.pow_le_pow_right (by decide) (by omega)))
  rw [right_l2]
  simp only [of_w0, of_w1, of_w2, of_w3, of_w4, of_w5, rest64 hs, shr_lo a hs, shr_w5 a hs (hz 6 (by decide))]
  have e : ∀ i, wd (a / 2 ^ (64 * 2 + s)) i = if i + 2 < 6 then (wd a (i + 2) / 2 ^ s) ||| (wd a (i + 2 + 1) * 2 ^ (64 - s) % 18446744073709551616) else 0 := by
    intro i
    rw [wd_shr a hs]
    split
    · rfl
    · rw [hz _ (by omega), hz _ (by omega)]; simp
  simp only [W6.of, e]
  rfl
theorem right_of3 {R : Type} (N : Nat) (x : Bool) {s : Nat} (hs : s < 64) {a : Nat} (ha : a < 2 ^ 384) (k : Int → W6 → Option R) (n : Nat) : wide_Right.l0 N x (3 : Int) (s : Int) (W6.of a) k (n + 7) (0 : Int) { w0 := (0 : Int), w1 := (0 : Int), w2 := (0 : Int), w3 := (0 : Int), w4 := (0 : Int), w5 := (0 : Int) : W6 } = k (3 : Int) (W6.of (a / 2 ^ (64 * 3 + s))) := by
  have hz : ∀ i, 6 ≤ i → wd a i = 0 := fun i hi => wd_high (Nat.lt_of_lt_of_le ha (Nat.pow_le_pow_right (by decide) (by omega)))
  rw [right_l3]
  simp only [of_w0, of_w1, of_w2, of_w3, of_w4, of_w5, rest64 hs, shr_lo a hs, shr_w5 a hs (hz 6 (by decide))]
  have e : ∀ i, wd (a / 2 ^ (64 * 3 + s)) i = if i + 3 < 6 then (wd a (i + 3) / 2 ^ s) ||| (wd a (i + 3 + 1) * 2 ^ (64 - s) % 18446744073709551616) else 0 := by
    intro i
    rw [wd_shr a hs]
    split
    · rfl
    · rw [hz _ (by omega), hz _ (by omega)]; simp
  simp only [W6.of, e]
  rfl
theorem right_of4 {R : Type} (N : Nat) (x : Bool) {s : Nat} (hs : s < 64) {a : Nat} (ha : a < 2 ^ 384) (k : Int → W6 → Option R) (n : Nat) : wide_Right.l0 N x (4 : Int) (s : Int) (W6.of a) k (n + 7) (0 : Int) { w0 := (0 : Int), w1 := (0 : Int), w2 := (0 : Int), w3 := (0 : Int), w4 := (0 : Int), w5 := (0 : Int) : W6 } = k (2 : Int) (W6.of (a / 2 ^ (64 * 4 + s))) := by
  have hz : ∀ i, 6 ≤ i → wd a i = 0 := fun i hi => wd_high (Nat.lt_of_lt_of_le ha (Nat.pow_le_pow_right (by decide) (by omega)))
  rw [right_l4]
  simp only [of_w0, of_w1, of_w2, of_w3, of_w4, of_w5, rest64 hs, shr_lo a hs, shr_w5 a hs (hz 6 (by decide))]
  have e : ∀ i, wd (a / 2 ^ (64 * 4 + s)) i = if i + 4 < 6 then (wd a (i + 4) / 2 ^ s) ||| (wd a (i + 4 + 1) * 2 ^ (64 - s) % 18446744073709551616) else 0 := by
    intro i
    rw [wd_shr a hs]
    split
    · rfl
    · rw [hz _ (by omega), hz _ (by omega)]; simp
  simp only [W6.of, e]
  rfl
theorem right_of5 {R : Type} (N : Nat) (x : Bool) {s : Nat} (hs : s < 64) {a : Nat} (ha : a < 2 ^ 384) (k : Int → W6 → Option R) (n : Nat) : wide_Right.l0 N x (5 : Int) (s : Int) (W6.of a) k (n + 7) (0 : Int) { w0 := (0 : Int), w1 := (0 : Int), w2 := (0 : Int), w3 := (0 : Int), w4 := (0 : Int), w5 := (0 : Int) : W6 } = k (1 : Int) (W6.of (a / 2 ^ (64 * 5 + s))) := by
  have hz : ∀ i, 6 ≤ i → wd a i = 0 := fun i hi => wd_high (Nat.lt_of_lt_of_le ha (Nat.pow_le_pow_right (by decide) (by omega)))
  rw [right_l5]
  simp only [of_w0, of_w1, of_w2, of_w3, of_w4, of_w5, rest64 hs, shr_lo a hs, shr_w5 a hs (hz 6 (by decide))]
  have e : ∀ i, wd (a / 2 ^ (64 * 5 + s)) i = if i + 5 < 6 then (wd a (i + 5) / 2 ^ s) ||| (wd a (i + 5 + 1) * 2 ^ (64 - s) % 18446744073709551616) else 0 := by
    intro i
    rw [wd_shr a hs]
    split
    · rfl
    · rw [hz _ (by omega), hz _ (by omega)]; simp
  simp only [W6.of, e]
  rfl
theorem right_of6 {R : Type} (N : Nat) (x : Bool) {s : Nat} (hs : s < 64) {a : Nat} (ha : a < 2 ^ 384) (k : Int → W6 → Option R) (n : Nat) : wide_Right.l0 N x (6 : Int) (s : Int) (W6.of a) k (n + 7) (0 : Int) { w0 := (0 : Int), w1 := (0 : Int), w2 := (0 : Int), w3 := (0 : Int), w4 := (0 : Int), w5 := (0 : Int) : W6 } = k (0 : Int) (W6.of (a / 2 ^ (64 * 6 + s))) := by
  have hz : ∀ i, 6 ≤ i → wd a i = 0 := fun i hi => wd_high (Nat.lt_of_lt_of_le ha (Nat.pow_le_pow_right (by decide) (by omega)))
  rw [right_l6]
  have e : ∀ i, wd (a / 2 ^ (64 * 6 + s)) i = if i + 6 < 6 then (wd a (i + 6) / 2 ^ s) ||| (wd a (i + 6 + 1) * 2 ^ (64 - s) % 18446744073709551616) else 0 := by
    intro i
    rw [wd_shr a hs]
    split
    · rfl
    · rw [hz _ (by omega), hz _ (by omega)]; simp
  simp only [W6.of, e]
  rfl

theorem wide_Left_g {a : Nat} (ha : a < 2 ^ 384) (n : Int) : wide_Left.g (W6.of a) n = some (W6.of (a * 2 ^ (min n.toNat 384)), decide (2 ^ 384 ≤ a * 2 ^ (min n.toNat 384))) := by
  unfold wide_Left.g wide_Left.f
  rw [wide_count_g, Option.bind_some, wide_Len_g ha, Option.bind_some]
  have hk : min n.toNat 384 ≤ 384 := Nat.min_le_right _ _
  generalize min n.toNat 384 = k at hk
  have hb : bl a ≤ 384 := bl_le_iff.2 ha
  rw [wrap_i64 (by omega) (by omega), divI k (by omega), modU k (by omega), isz ha]
  have hs : k % 64 < 64 := Nat.mod_lt _ (by decide)
  obtain ⟨n, hn⟩ : ∃ n, fuel = n + 7 := ⟨1048569, rfl⟩
  have L : ∀ (x : Bool) (b : Bool), wide_Left.l0 fuel x ((k / 64 : Nat) : Int) ((k % 64 : Nat) : Int) (W6.of a) (fun (x8 : Int) (m1 : W6) => some (m1, b)) fuel (5 : Int) { w0 := (0 : Int), w1 := (0 : Int), w2 := (0 : Int), w3 := (0 : Int), w4 := (0 : Int), w5 := (0 : Int) : W6 } = some (W6.of (a * 2 ^ k), b) := by
    intro x b
    rw (occs := .pos [2]) [hn]
    have hw : k / 64 < 7 := by omega
    have e : k = 64 * (k / 64) + k % 64 := by omega
    generalize k / 64 = w at *
    generalize k % 64 = s at *
    subst e
    match w, hw with
    | 0, _ => exact left_of0 _ _ hs _ _ _
    | 1, _ => exact left_of1 _ _ hs _ _ _
    | 2, _ => exact left_of2 _ _ hs _ _ _
    | 3, _ => exact left_of3 _ _ hs _ _ _
    | 4, _ => exact left_of4 _ _ hs _ _ _
    | 5, _ => exact left_of5 _ _ hs _ _ _
    | 6, _ => exact left_of6 _ _ hs _ _ _
  rw [Bool.cond_decide]
  have key : (384 < (bl a : Int) + (k : Int) ∧ a ≠ 0) ↔ 2 ^ 384 ≤ a * 2 ^ k := by
    by_cases h0 : a = 0
    · subst h0; simp
    · have := lt_bl_iff (n := a * 2 ^ k) (k := 384)
      rw [bl_mul_pow h0] at this
      rw [← this]
      constructor
      · rintro ⟨h, _⟩; omega
      · exact fun h => ⟨by omega, h0⟩
  split
  · rename_i h
    rw [L]
    congr 2
    rw [Bool.eq_iff_iff]
    simp only [Bool.not_eq_true', decide_eq_false_iff_not, decide_eq_true_eq]
    rw [← key]
    exact ⟨fun h2 => ⟨h, h2⟩, fun h2 => h2.2⟩
  · rename_i h
    rw [L]
    congr 2
    exact (decide_eq_false fun h2 => h (key.2 h2).1).symm

theorem wide_Right_g {a : Nat} (ha : a < 2 ^ 384) (n : Int) : wide_Right.g (W6.of a) n = some (W6.of (a / 2 ^ (min n.toNat 384)), decide (a % 2 ^ (min n.toNat 384) ≠ 0)) := by
  unfold wide_Right.g wide_Right.f
  rw [wide_count_g, Option.bind_some, wide_Low_g ha, Option.bind_some]
  have hk : min n.toNat 384 ≤ 384 := Nat.min_le_right _ _
  generalize min n.toNat 384 = k at hk
  rw [divI k (by omega), modU k (by omega), isz ha]
  have hs : k % 64 < 64 := Nat.mod_lt _ (by decide)
  obtain ⟨n, hn⟩ : ∃ n, fuel = n + 7 := ⟨1048569, rfl⟩
  have L : ∀ (x : Bool) (b : Bool), wide_Right.l0 fuel x ((k / 64 : Nat) : Int) ((k % 64 : Nat) : Int) (W6.of a) (fun (x8 : Int) (m1 : W6) => some (m1, b)) fuel (0 : Int) { w0 := (0 : Int), w1 := (0 : Int), w2 := (0 : Int), w3 := (0 : Int), w4 := (0 : Int), w5 := (0 : Int) : W6 } = some (W6.of (a / 2 ^ k), b) := by
    intro x b
    rw (occs := .pos [2]) [hn]
    have hw : k / 64 < 7 := by omega
    have e : k = 64 * (k / 64) + k % 64 := by omega
    generalize k / 64 = w at *
    generalize k % 64 = s at *
    subst e
    match w, hw with
    | 0, _ => exact right_of0 _ _ hs ha _ _
    | 1, _ => exact right_of1 _ _ hs ha _ _
    | 2, _ => exact right_of2 _ _ hs ha _ _
    | 3, _ => exact right_of3 _ _ hs ha _ _
    | 4, _ => exact right_of4 _ _ hs ha _ _
    | 5, _ => exact right_of5 _ _ hs ha _ _
    | 6, _ => exact right_of6 _ _ hs ha _ _
  by_cases h0 : a = 0
  · rw [decide_eq_true h0, Bool.not_true, cond_false, L]
    subst h0
    simp
  · rw [decide_eq_false h0, Bool.not_false, cond_true, L, if_neg h0]
    congr 2
    exact decide_eq_decide.2 (by
      rw [← tz_lt_iff h0]
      omega)

end Go.Proofs.YtnfbcofieobkkaaDoor
