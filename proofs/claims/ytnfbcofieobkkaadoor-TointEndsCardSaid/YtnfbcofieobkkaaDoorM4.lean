/- Natural numbers as strings of bytes; lists of digits. -/
import Derived.Test.YtnfbcofieobkkaaDoorM3
import Derived.Test.YtnfbcofieobkkaaDoorPN
namespace Go.Proofs.YtnfbcofieobkkaaDoor
open Go Go.Proofs Ev
set_option linter.unusedVariables false
set_option linter.unusedSimpArgs false

/-- The digits to the base 256, the lowest first. -/
def digs (n : Nat) : List Nat := if h : n = 0 then [] else n % 256 :: digs (n / 256)
termination_by n
decreasing_by omega

theorem digs_zero : digs 0 = [] := by unfold digs; rfl
theorem digs_pos {n : Nat} (h : n ≠ 0) : digs n = n % 256 :: digs (n / 256) := by
  rw (occs := .pos [1]) [digs]; rw [dif_neg h]

/-- How many bytes a number has. -/
def nb (n : Nat) : Nat := (digs n).length
theorem nb_zero : nb 0 = 0 := by unfold nb; rw [digs_zero]; rfl
theorem nb_pos {n : Nat} (h : n ≠ 0) : nb n = nb (n / 256) + 1 := by unfold nb; rw [digs_pos h]; rfl
theorem nb_le_iff {n : Nat} : ∀ {k : Nat}, nb n ≤ k ↔ n < 256 ^ k := by
  induction n using Nat.strongRecOn with
  | _ n ih =>
    intro k
    by_cases h : n = 0
    · subst h
      rw [nb_zero]
      exact ⟨fun _ => Nat.pow_pos (by decide), fun _ => Nat.zero_le _⟩
    · rw [nb_pos h]
      match k with
      | 0 => simp; omega
      | k + 1 =>
        have := ih (n / 256) (by omega) (k := k)
        rw [Nat.pow_succ, ← Nat.div_lt_iff_lt_mul (by decide), ← this]
        omega
theorem lt_nb (n : Nat) : n < 256 ^ nb n := nb_le_iff.1 (Nat.le_refl _)
theorem lt_nb_iff {n k : Nat} : k < nb n ↔ 256 ^ k ≤ n := by
  have := nb_le_iff (n := n) (k := k)
  omega
theorem p256 (k : Nat) : 256 ^ k = 2 ^ (8 * k) := by rw [Nat.pow_mul]
theorem nb_bl (n : Nat) : nb n = (bl n + 7) / 8 := by
  have h1 : nb n ≤ (bl n + 7) / 8 := by
    rw [nb_le_iff, p256]
    exact Nat.lt_of_lt_of_le (bl_lt n) (Nat.pow_le_pow_right (by decide) (by omega))
  have h2 : bl n ≤ 8 * nb n := by
    rw [bl_le_iff, ← p256]; exact lt_nb n
  omega
theorem nb_eq_zero {n : Nat} : nb n = 0 ↔ n = 0 := by
  constructor
  · intro h
    by_cases h0 : n = 0
    · exact h0
    · rw [nb_pos h0] at h; omega
  · rintro rfl; exact nb_zero
theorem nb_mono {a b : Nat} (h : a ≤ b) : nb a ≤ nb b := nb_le_iff.2 (Nat.lt_of_le_of_lt h (lt_nb b))

/-- The digit at a place. -/
def dg (n i : Nat) : Nat := n / 256 ^ i % 256
theorem dg_lt (n i : Nat) : dg n i < 256 := Nat.mod_lt _ (by decide)
theorem dg_zero (n : Nat) : dg n 0 = n % 256 := by unfold dg; simp
theorem dg_succ (n i : Nat) : dg n (i + 1) = dg (n / 256) i := by
  unfold dg; rw [Nat.pow_succ, Nat.mul_comm, ← Nat.div_div_eq_div_mul]
theorem dg_high {n i : Nat} (h : n < 256 ^ i) : dg n i = 0 := by
  unfold dg; rw [Nat.div_eq_of_lt h]

theorem digs_get (n : Nat) : ∀ i, (digs n)[i]? = if i < nb n then some (dg n i) else none := by
  induction n using Nat.strongRecOn with
  | _ n ih =>
    intro i
    by_cases h : n = 0
    · subst h
      rw [digs_zero, nb_zero]; rfl
    · rw [digs_pos h, nb_pos h]
      match i with
      | 0 => simp [dg_zero]
      | i + 1 =>
        rw [List.getElem?_cons_succ, ih (n / 256) (by omega), dg_succ]
        by_cases h2 : i < nb (n / 256)
        · rw [if_pos h2, if_pos (by omega)]
        · rw [if_neg h2, if_neg (by omega)]

/-- A number as a Nat's text. -/
def sOf (n : Nat) : ByteArray := ⟨((digs n).reverse.map UInt8.ofNat).toArray⟩

theorem emptyS : ({ data := { toList := [] : Array UInt8 } : ByteArray }) = sOf 0 := by
  unfold sOf; rw [digs_zero]; rfl
theorem oneS : ({ data := { toList := [(1 : UInt8)] : Array UInt8 } : ByteArray }) = sOf 1 := by
  unfold sOf; rw [digs_pos (by decide), show 1 / 256 = 0 from rfl, digs_zero]; rfl

theorem size_sOf (n : Nat) : (sOf n).size = nb n := by
  unfold sOf nb
  simp [ByteArray.size]
theorem list_sOf (n : Nat) : (sOf n).toList = (digs n).reverse.map UInt8.ofNat := by
  unfold sOf
  rw [Go.ByteArray.toList_mk]

/-- The number of digits, the lowest first. -/
def leV : List Nat → Nat
  | [] => 0
  | d :: l => d + 256 * leV l
theorem leV_digs (n : Nat) : leV (digs n) = n := by
  induction n using Nat.strongRecOn with
  | _ n ih =>
    by_cases h : n = 0
    · subst h; rw [digs_zero]; rfl
    · rw [digs_pos h, leV, ih (n / 256) (by omega)]; omega
theorem digs_lt {n d : Nat} (h : d ∈ digs n) : d < 256 := by
  obtain ⟨i, hi⟩ := List.mem_iff_getElem?.1 h
  rw [digs_get] at hi
  split at hi
  · cases hi; exact dg_lt n i
  · cases hi
theorem sOf_inj {a b : Nat} (h : (sOf a).toList = (sOf b).toList) : a = b := by
  rw [list_sOf, list_sOf] at h
  have e : ∀ n, (((digs n).reverse.map UInt8.ofNat).map UInt8.toNat).reverse = digs n := by
    intro n
    rw [List.map_map, ← List.map_reverse, List.reverse_reverse]
    rw (occs := .pos [2]) [← List.map_id (digs n)]
    apply List.map_congr_left
    intro d hd
    have := digs_lt hd
    simp only [Function.comp_apply, id_eq]
    rw [UInt8.toNat_ofNat']
    omega
  have := e a
  rw [h, e b] at this
  rw [← leV_digs a, ← leV_digs b, this]
theorem strEq_sOf (a b : Nat) : strEq (sOf a) (sOf b) = decide (a = b) := by
  unfold strEq
  by_cases h : a = b
  · subst h; simp
  · rw [decide_eq_false h]
    rw [beq_eq_false_iff_ne]
    exact fun hc => h (sOf_inj hc)

/-- The byte at a place from above. -/
theorem byte_sOf {n i : Nat} (h : i < nb n) : (sOf n).toList[nb n - 1 - i]? = some (UInt8.ofNat (dg n i)) := by
  rw [list_sOf, List.getElem?_map, List.getElem?_reverse (by show _ < nb n; omega), digs_get]
  have : (digs n).length - 1 - (nb n - 1 - i) = i := by
    show nb n - 1 - (nb n - 1 - i) = i
    omega
  rw [this, if_pos h]
  rfl
theorem u8_ofNat {d : Nat} (h : d < 256) : (UInt8.ofNat d).toNat = d := by
  rw [UInt8.toNat_ofNat']; omega

/-! ### order -/
def beV : List Nat → Nat
  | [] => 0
  | d :: l => d * 256 ^ l.length + beV l
theorem beV_append (l : List Nat) (d : Nat) : beV (l ++ [d]) = 256 * beV l + d := by
  induction l with
  | nil => simp [beV]
  | cons x l ih =>
    simp only [List.cons_append, beV, ih, List.length_append, List.length_cons, List.length_nil, Nat.pow_succ, Nat.mul_add]
    rw [show x * (256 ^ l.length * 256) = 256 * (x * 256 ^ l.length) by rw [← Nat.mul_assoc, Nat.mul_comm]]
    omega
theorem beV_rev (l : List Nat) : beV l.reverse = leV l := by
  induction l with
  | nil => rfl
  | cons x l ih => rw [List.reverse_cons, beV_append, ih, leV]; omega
theorem beV_lt {l : List Nat} (h : ∀ d ∈ l, d < 256) : beV l < 256 ^ l.length := by
  induction l with
  | nil => simp [beV]
  | cons x l ih =>
    have := ih fun d hd => h d (List.mem_cons_of_mem _ hd)
    have hx := h x (List.mem_cons_self ..)
    simp only [beV, List.length_cons, Nat.pow_succ]
    have : x * 256 ^ l.length + 256 ^ l.length ≤ 256 ^ l.length * 256 := by
      rw [← Nat.succ_mul, Nat.mul_comm]; exact Nat.mul_le_mul_left _ hx
    omega
theorem less_beV : ∀ (x y : List Nat), (∀ d ∈ x, d < 256) → (∀ d ∈ y, d < 256) → x.length = y.length → Op.bytesLess (x.map UInt8.ofNat) (y.map UInt8.ofNat) = decide (beV x < beV y)
  | [], [], _, _, _ => rfl
  | a :: x, b :: y, hx, hy, hl => by
    have hl' : x.length = y.length := by simpa using hl
    have ih := less_beV x y (fun d hd => hx d (List.mem_cons_of_mem _ hd)) (fun d hd => hy d (List.mem_cons_of_mem _ hd)) hl'
    have ha := hx a (List.mem_cons_self ..)
    have hb := hy b (List.mem_cons_self ..)
    have lx := beV_lt fun d hd => hx d (List.mem_cons_of_mem _ hd)
    have ly := beV_lt fun d hd => hy d (List.mem_cons_of_mem _ hd)
    rw [List.map_cons, List.map_cons, Op.bytesLess, ih]
    rw [hl'] at lx
    simp only [beV, hl']
    generalize 256 ^ y.length = M at lx ly ⊢
    have e1 : decide (UInt8.ofNat a < UInt8.ofNat b) = decide (a < b) := by
      refine decide_eq_decide.2 ?_
      rw [UInt8.lt_iff_toNat_lt, u8_ofNat ha, u8_ofNat hb]
    have e2 : (UInt8.ofNat a == UInt8.ofNat b) = decide (a = b) := by
      rw [Bool.eq_iff_iff, beq_iff_eq, decide_eq_true_eq, ← UInt8.toNat_inj, u8_ofNat ha, u8_ofNat hb]
    rw [e1, e2]
    rcases Nat.lt_trichotomy a b with h | h | h
    · have : a * M + M ≤ b * M := by
        rw [← Nat.succ_mul]; exact Nat.mul_le_mul_right _ h
      rw [decide_eq_true h, decide_eq_true (by omega : a * M + beV x < b * M + beV y)]; rfl
    · subst h
      rw [decide_eq_false (Nat.lt_irrefl a), decide_eq_true rfl, Bool.false_or, Bool.true_and]
      exact decide_eq_decide.2 (by omega)
    · have : b * M + M ≤ a * M := by
        rw [← Nat.succ_mul]; exact Nat.mul_le_mul_right _ h
      rw [decide_eq_false (by omega : ¬ a < b), decide_eq_false (by omega : ¬ a = b), decide_eq_false (by omega : ¬ a * M + beV x < b * M + beV y)]; rfl
theorem strLt_sOf {a b : Nat} (h : nb a = nb b) : strLt (sOf a) (sOf b) = decide (a < b) := by
  unfold strLt
  rw [list_sOf, list_sOf, less_beV _ _ (fun d hd => digs_lt (List.mem_reverse.1 hd)) (fun d hd => digs_lt (List.mem_reverse.1 hd)) (by rw [List.length_reverse, List.length_reverse]; exact h), beV_rev, beV_rev, leV_digs, leV_digs]

/-! ### lists of digits -/
/-- A list by its places. -/
def tab (k : Nat) (f : Nat → Nat) : List Int := (List.range k).map fun i => ((f i : Nat) : Int)
theorem tab_length (k : Nat) (f : Nat → Nat) : (tab k f).length = k := by simp [tab]
theorem tab_get {k i : Nat} (f : Nat → Nat) (h : i < k) : getI i (tab k f) = ((f i : Nat) : Int) := by
  rw [getI_eq, List.getD_eq_getElem?_getD, tab, List.getElem?_map, List.getElem?_range h]
  rfl
theorem tab_congr {k : Nat} {f g : Nat → Nat} (h : ∀ i, i < k → f i = g i) : tab k f = tab k g := by
  unfold tab
  apply List.map_congr_left
  intro i hi
  rw [h i (List.mem_range.1 hi)]
theorem tab_set {k i : Nat} (f g : Nat → Nat) (x : Nat) (h1 : g i = x) (h2 : ∀ j, j < k → j ≠ i → g j = f j) : setL 0 i (x : Int) (tab k f) = tab k g := by
  rw [setL_eq, if_pos (Nat.zero_le _), Nat.sub_zero]
  apply List.ext_getElem?
  intro j
  rw [List.getElem?_set]
  unfold tab
  simp only [List.getElem?_map, List.length_map, List.length_range]
  by_cases hj : j < k
  · by_cases e : i = j
    · subst e
      rw [if_pos rfl, if_pos hj, List.getElem?_range hj, ← h1]; rfl
    · rw [if_neg e, List.getElem?_range hj]
      simp only [Option.map_some]
      rw [h2 j hj (Ne.symm e)]
  · have hn : (List.range k)[j]? = none := by simp; omega
    rw [hn]
    simp only [Option.map_none]
    split
    · split
      · omega
      · rfl
    · rfl

/-- The digits of a number, as many as there is room. -/
def dl (k v : Nat) : List Int := tab k (dg v)
theorem dl_length (k v : Nat) : (dl k v).length = k := tab_length _ _
theorem dl_get {k i : Nat} (v : Nat) (h : i < k) : getI i (dl k v) = ((dg v i : Nat) : Int) := tab_get _ h
theorem dl_zero (k : Nat) : List.replicate k (0 : Int) = dl k 0 := by
  unfold dl tab
  apply List.ext_getElem?
  intro j
  rw [List.getElem?_replicate, List.getElem?_map]
  by_cases hj : j < k
  · rw [if_pos hj, List.getElem?_range hj]
    simp [dg]
  · rw [if_neg hj]
    have hn : (List.range k)[j]? = none := by simp; omega
    rw [hn]; rfl
theorem dg_add_low {v d i j : Nat} (hv : v < 256 ^ i) (hd : d < 256) : dg (v + d * 256 ^ i) j = if j = i then d else dg v j := by
  unfold dg
  rcases Nat.lt_trichotomy j i with h | h | h
  · rw [if_neg (by omega)]
    have e : d * 256 ^ i = 256 ^ j * (256 * (256 ^ (i - j - 1) * d)) := by
      rw [show i = j + (1 + (i - j - 1)) by omega, Nat.pow_add, Nat.pow_add, show j + (1 + (i - j - 1)) - j - 1 = i - j - 1 by omega, Nat.pow_one, Nat.mul_comm d, Nat.mul_assoc, Nat.mul_assoc]
    rw [e, Nat.add_mul_div_left _ _ (Nat.pow_pos (by decide)), Nat.add_mul_mod_self_left]
  · subst h
    rw [if_pos rfl, Nat.add_mul_div_right _ _ (Nat.pow_pos (by decide)), Nat.div_eq_of_lt hv, Nat.zero_add, Nat.mod_eq_of_lt hd]
  · rw [if_neg (by omega)]
    have h2 : v + d * 256 ^ i < 256 ^ (i + 1) := by
      rw [Nat.pow_succ]
      have : d * 256 ^ i ≤ 255 * 256 ^ i := Nat.mul_le_mul_right _ (by omega)
      omega
    have h3 : (256 : Nat) ^ (i + 1) ≤ 256 ^ j := Nat.pow_le_pow_right (by decide) h
    have h4 : (256 : Nat) ^ i ≤ 256 ^ j := Nat.pow_le_pow_right (by decide) (by omega)
    rw [Nat.div_eq_of_lt (by omega), Nat.div_eq_of_lt (by omega)]
theorem dl_set_low {k v d i : Nat} (hv : v < 256 ^ i) (hd : d < 256) : setL 0 i (d : Int) (dl k v) = dl k (v + d * 256 ^ i) := by
  refine tab_set _ _ _ ?_ fun j _ hne => ?_
  · rw [dg_add_low hv hd, if_pos rfl]
  · rw [dg_add_low hv hd, if_neg hne]
/-- A number, its digits below and above a place. -/
theorem dg_split (v i : Nat) : v = v % 256 ^ i + dg v i * 256 ^ i + v / 256 ^ (i + 1) * 256 ^ (i + 1) := by
  have h1 := Nat.mod_add_div v (256 ^ (i + 1))
  have h2 : v % 256 ^ (i + 1) = v % 256 ^ i + 256 ^ i * (v / 256 ^ i % 256) := by rw [Nat.pow_succ, Nat.mod_mul]
  unfold dg
  rw [Nat.mul_comm (v / 256 ^ i % 256), Nat.mul_comm (v / 256 ^ (i + 1))]
  omega
theorem dg_put {l d h i j : Nat} (hl : l < 256 ^ i) (hd : d < 256) : dg (l + d * 256 ^ i + h * 256 ^ (i + 1)) j = if j < i then dg l j else if j = i then d else dg h (j - i - 1) := by
  have h2 : l + d * 256 ^ i < 256 ^ (i + 1) := by
    rw [Nat.pow_succ]
    have : d * 256 ^ i ≤ 255 * 256 ^ i := Nat.mul_le_mul_right _ (by omega)
    omega
  by_cases hj : j < i + 1
  · have e : dg (l + d * 256 ^ i + h * 256 ^ (i + 1)) j = dg (l + d * 256 ^ i) j := by
      unfold dg
      have e : h * 256 ^ (i + 1) = 256 ^ j * (256 * (256 ^ (i - j) * h)) := by
        rw [show i + 1 = j + (1 + (i - j)) by omega, Nat.pow_add, Nat.pow_add, Nat.pow_one, Nat.mul_comm h, Nat.mul_assoc, Nat.mul_assoc]
      rw [e, Nat.add_mul_div_left _ _ (Nat.pow_pos (by decide)), Nat.add_mul_mod_self_left]
    rw [e, dg_add_low hl hd]
    by_cases h3 : j = i
    · rw [if_pos h3, if_neg (by omega), if_pos h3]
    · rw [if_neg h3, if_pos (by omega)]
  · rw [if_neg (by omega), if_neg (by omega)]
    obtain ⟨e, rfl⟩ : ∃ e, j = i + 1 + e := ⟨j - i - 1, by omega⟩
    unfold dg
    rw [show i + 1 + e - i - 1 = e by omega, Nat.pow_add 256 (i + 1) e, ← Nat.div_div_eq_div_mul, Nat.add_mul_div_right _ _ (Nat.pow_pos (by decide)), Nat.div_eq_of_lt h2, Nat.zero_add]
/-- A digit is put in the place of another one. -/
theorem dl_set {k v w d i : Nat} (hd : d < 256) (hw : v + d * 256 ^ i = w + dg v i * 256 ^ i) : setL 0 i (d : Int) (dl k v) = dl k w := by
  have hs := dg_split v i
  have e : w = v % 256 ^ i + d * 256 ^ i + v / 256 ^ (i + 1) * 256 ^ (i + 1) := by omega
  have hl : v % 256 ^ i < 256 ^ i := Nat.mod_lt _ (Nat.pow_pos (by decide))
  refine tab_set _ _ _ ?_ fun j _ hne => ?_
  · rw [e, dg_put hl hd, if_neg (by omega), if_pos rfl]
  · rw [e, dg_put hl hd]
    have q := dg_put (h := v / 256 ^ (i + 1)) (j := j) hl (dg_lt v i)
    rw [← hs] at q
    rw [q, if_neg hne, if_neg hne]

theorem mk_ok {L : Nat} (h : L ≤ 1000000000) : (decide ((L : Int) = (L : Int)) && decide ((0 : Int) ≤ (L : Int)) && decide ((1 : Int) * (L : Int) ≤ (281474976710656 : Int)) && decide ((L : Int) ≤ (9223372036854775807 : Int))) = true := by
  simp
  omega

theorem mk_okT {L : Nat} (h : L ≤ 1000000000) : (decide True && decide ((0 : Int) ≤ (L : Int)) && decide ((1 : Int) * (L : Int) ≤ (281474976710656 : Int)) && decide ((L : Int) ≤ (9223372036854775807 : Int))) = true := by
  simp
  omega

/-! ### fit -/
theorem fit_l0 {R : Type} (N n0 c0 : Nat) (x2 : ByteArray) {L v : Nat} (hv : v < 256 ^ L) (hL : L ≤ n0) (hn0 : n0 ≤ 1000000) (k0 : Int → Option R) : ∀ (d n : Nat), nb v + d ≤ L → nb v + d < n →
    ref05_fit.l0 N n0 c0 x2 (dl L v) k0 n ((nb v + d : Nat) : Int) = k0 ((nb v : Nat) : Int)
  | 0, n + 1, hd, hn => by
    unfold ref05_fit.l0 ref05_fit.b0
    dsimp only
    by_cases h0 : nb v = 0
    · rw [h0, decide_eq_false (by decide), cond_false]
    · have hv0 : v ≠ 0 := fun h => h0 (nb_eq_zero.2 h)
      have h2 : (256 : Nat) ^ (nb v - 1) ≤ v := lt_nb_iff.1 (by omega)
      have h3 := lt_nb v
      rw [decide_eq_true (by omega), cond_true, wrap_i64 (by omega) (by omega), decide_eq_true (by omega), decide_eq_true (by omega), show (((nb v + 0 : Nat) : Int) - 1).toNat = nb v - 1 by omega, dl_length, nblt, decide_eq_true (by omega), dl_get v (by omega)]
      simp only [Bool.and_self, cond_true]
      have e : dg v (nb v - 1) ≠ 0 := by
        unfold dg
        rw [Nat.mod_eq_of_lt]
        · have := Nat.div_pos h2 (Nat.pow_pos (by decide)); omega
        · rw [Nat.div_lt_iff_lt_mul (Nat.pow_pos (by decide)), Nat.mul_comm, ← Nat.pow_succ]
          rwa [show (nb v - 1).succ = nb v by omega]
      rw [show (((dg v (nb v - 1) : Nat) : Int) == (0 : Int)) = false by rw [beq_eq_false_iff_ne]; omega, cond_false]
      rfl
  | d + 1, n + 1, hd, hn => by
    have ih := fit_l0 N n0 c0 x2 hv hL hn0 k0 d n (by omega) (by omega)
    unfold ref05_fit.l0 ref05_fit.b0
    dsimp only
    rw [decide_eq_true (by omega), cond_true, show ((nb v + (d + 1) : Nat) : Int) - 1 = ((nb v + d : Nat) : Int) by omega, wrap_i64 (by omega) (by omega), decide_eq_true (by omega), decide_eq_true (by omega), Int.toNat_natCast, dl_length, nblt, decide_eq_true (by omega), dl_get v (by omega)]
    simp only [Bool.and_self, cond_true]
    rw [dg_high (Nat.lt_of_lt_of_le (lt_nb v) (Nat.pow_le_pow_right (by decide) (by omega)))]
    exact ih

theorem fit_l1 {R : Type} (N n0 c0 c4 : Nat) (x2 : ByteArray) {L v k : Nat} (hk : k ≤ L) (hL : L ≤ n0) (hn0 : n0 ≤ 1000000) (k0 : Int → List Int → Option R) : ∀ (d i n : Nat), d + i = k → d < n →
    ref05_fit.l1 N n0 c0 x2 (k : Int) k c4 (dl L v) k0 n (i : Int) (tab k fun t => if k - 1 - t < i then dg v (k - 1 - t) else 0) = k0 (k : Int) (tab k fun t => dg v (k - 1 - t))
  | 0, i, n + 1, hd, _ => by
    obtain rfl : i = k := by omega
    unfold ref05_fit.l1 ref05_fit.b1
    dsimp only
    rw [decide_eq_false (by omega), cond_false]
    congr 1
    apply tab_congr
    intro t ht
    rw [if_pos (by omega)]
  | d + 1, i, n + 1, hd, hn => by
    have ih := fit_l1 (v := v) N n0 c0 c4 x2 hk hL hn0 k0 d (i + 1) n (by omega) (by omega)
    unfold ref05_fit.l1 ref05_fit.b1
    dsimp only
    rw [decide_eq_true (by omega), cond_true, decide_eq_true (by omega : (0 : Int) ≤ (i : Int)), decide_eq_true (by omega : (i : Int) < (n0 : Int)), Int.toNat_natCast, dl_length, nblt, decide_eq_true (by omega : i < L),
      wrap_i64 (x := (k : Int) - 1) (by omega) (by omega), wrap_i64 (x := (k : Int) - 1 - (i : Int)) (by omega) (by omega), decide_eq_true (by omega : (0 : Int) ≤ (k : Int) - 1 - (i : Int)), decide_eq_true (by omega : (k : Int) - 1 - (i : Int) < (k : Int)), show ((k : Int) - 1 - (i : Int)).toNat = k - 1 - i by omega, tab_length,
      Nat.ble_eq_true_of_le (by omega), dl_get v (by omega), i64_succ i (by omega)]
    simp only [Bool.and_self, cond_true]
    rw [tab_set (k := k) (i := k - 1 - i) _ (fun t => if k - 1 - t < i + 1 then dg v (k - 1 - t) else 0) (dg v i)]
    · exact ih
    · rw [if_pos (by omega)]
      congr 1
      omega
    · intro j hj hne
      by_cases h : k - 1 - j < i
      · rw [if_pos h, if_pos (by omega)]
      · rw [if_neg h, if_neg (by omega)]

theorem strOf_tab (v : Nat) : strOf 0 (nb v) (tab (nb v) fun t => dg v (nb v - 1 - t)) = sOf v := by
  unfold strOf sOf
  congr 2
  rw [List.drop_zero, List.take_of_length_le (by rw [tab_length]; exact Nat.le_refl _)]
  apply List.ext_getElem?
  intro j
  unfold tab
  simp only [List.getElem?_map]
  by_cases hj : j < nb v
  · rw [List.getElem?_range hj, List.getElem?_reverse (by exact hj), digs_get]
    have : (digs v).length - 1 - j = nb v - 1 - j := rfl
    rw [this, if_pos (by omega)]
    simp
  · have hn : (List.range (nb v))[j]? = none := by simp; omega
    have hn2 : ((digs v).reverse)[j]? = none := by
      rw [List.getElem?_eq_none]
      rw [List.length_reverse]
      exact Nat.le_of_not_lt hj
    rw [hn, hn2]
    rfl

theorem ref05_fit_g {L v : Nat} (hv : v < 256 ^ L) (hL : L ≤ 1000000) (c : Nat) : ref05_fit.g L c (dl L v) = some (sOf v) := by
  unfold ref05_fit.g ref05_fit.f
  have hle : nb v ≤ L := nb_le_iff.2 hv
  have e : ((L : Nat) : Int) = ((nb v + (L - nb v) : Nat) : Int) := by omega
  rw [e, fit_l0 fuel L c _ hv (Nat.le_refl _) hL _ (L - nb v) fuel (by omega) (by unfold fuel; omega), mk_ok (by omega), cond_true, Int.toNat_natCast, dl_zero]
  have z : dl (nb v) 0 = tab (nb v) fun t => if nb v - 1 - t < 0 then dg v (nb v - 1 - t) else 0 := by
    apply tab_congr
    intro i _
    rw [if_neg (by omega)]
    simp [dg]
  rw [z]
  have := fit_l1 (R := ByteArray) (v := v) fuel L c (nb v) { data := { toList := [] : Array UInt8 } : ByteArray } hle (Nat.le_refl L) hL (fun (x5 : Int) (m6 : List Int) => bif ((0 : Nat) + nb v).ble m6.length then some (strOf (nat_lit 0) (nb v) m6) else none) (nb v) 0 fuel rfl (by unfold fuel; omega)
  refine this.trans ?_
  rw [tab_length, Nat.zero_add, Nat.ble_eq_true_of_le (Nat.le_refl _), cond_true, strOf_tab]

end Go.Proofs.YtnfbcofieobkkaaDoor
