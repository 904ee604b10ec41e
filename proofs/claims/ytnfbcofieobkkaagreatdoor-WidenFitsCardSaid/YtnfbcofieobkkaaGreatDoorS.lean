/- Contracts of functions that are handed slices: whole blocks, from their beginning. -/
import Derived.Test.YtnfbcofieobkkaaGreatDoorQ
namespace Go.Proofs.YtnfbcofieobkkaaGreatDoor.Ev
open Go Go.RowKit
set_option linter.unusedVariables false
set_option linter.unusedSimpArgs false

/-- A loop's rounds, at most. -/
def fuel : Nat := 1048576

/-- A list that is none. -/
def dNil : D Unit where
  enc _ := .slice none 0 0
  dec v := match v with | .slice none 0 0 => some () | _ => none
  ok v x h := by
    split at h
    · rfl
    · cases h

structure V12 where
  w0 : Int
  w1 : Int
  w2 : Int
  w3 : Int
  w4 : Int
  w5 : Int
  w6 : Int
  w7 : Int
  w8 : Int
  w9 : Int
  w10 : Int
  w11 : Int

def V12.l (w : V12) : List Int := [w.w0, w.w1, w.w2, w.w3, w.w4, w.w5, w.w6, w.w7, w.w8, w.w9, w.w10, w.w11]
def V12.cs (w : V12) : List Value := [.int .u64 w.w0, .int .u64 w.w1, .int .u64 w.w2, .int .u64 w.w3, .int .u64 w.w4, .int .u64 w.w5, .int .u64 w.w6, .int .u64 w.w7, .int .u64 w.w8, .int .u64 w.w9, .int .u64 w.w10, .int .u64 w.w11]
def rdV : List Int → Option V12
  | [w0, w1, w2, w3, w4, w5, w6, w7, w8, w9, w10, w11] => some ⟨w0, w1, w2, w3, w4, w5, w6, w7, w8, w9, w10, w11⟩
  | _ => none
theorem rdV_some {l : List Int} {w : V12} (h : rdV l = some w) : l = w.l := by
  unfold rdV at h
  split at h
  · cases h; rfl
  · cases h
def rdVV (l : List Value) : Option V12 := match toInts .u64 l with
  | some xs => rdV xs
  | none => none
theorem rdVV_some {l : List Value} {w : V12} (h : rdVV l = some w) : l = w.cs := by
  unfold rdVV at h
  split at h
  · rename_i xs hx
    rw [toInts_some hx, rdV_some h]
    rfl
  · cases h
def dV12 : D V12 := ⟨fun w => .agg ⟨w.cs⟩, rAgg rdVV, fun _ _ h => rAgg_some (fun _ _ => rdVV_some) h⟩
def mV12 : MD V12 where
  enc w := .ints .u64 w.l
  dec b := match b with | .ints .u64 l => rdV l | _ => none
  ok b x hb := by
    split at hb
    · rw [rdV_some hb]
    · cases hb

def mB2x2 : MD (B2 × B2) where
  enc w := .ints .u64 [w.1.hi, w.1.lo, w.2.hi, w.2.lo]
  dec b := match b with | .ints .u64 [a, b, c, d] => some (⟨a, b⟩, ⟨c, d⟩) | _ => none
  ok b x hb := by
    split at hb
    · cases hb; rfl
    · cases hb

def mB2x3 : MD (B2 × B2 × B2) where
  enc w := .ints .u64 [w.1.hi, w.1.lo, w.2.1.hi, w.2.1.lo, w.2.2.hi, w.2.2.lo]
  dec b := match b with | .ints .u64 [a, b, c, d, e, f] => some (⟨a, b⟩, ⟨c, d⟩, ⟨e, f⟩) | _ => none
  ok b x hb := by
    split at hb
    · cases hb; rfl
    · cases hb

def rdP2 (l : List Value) : Option (Pts × Pts) := match rdP (l.take 14), rdP (l.drop 14) with
  | some a, some b => some (a, b)
  | _, _ => none
def mPx2 : MD (Pts × Pts) := mLit rdP2 (fun x => x.1.cs ++ x.2.cs) fun l x h => by
  unfold rdP2 at h
  split at h
  · rename_i a b ha hb
    cases h
    rw [← rdP_some ha, ← rdP_some hb, List.take_append_drop]
  · cases h

section
variable {P : Program}

/-- A contract of the library's, of one plain value. -/
theorem CTok.lib1 {f : FuncId} {α τ : Type} {da : D α} {dr : D τ} {g : α → Option τ} (henter : ∀ args w, (callFunc f args).run P w = .ok (.enter f args) w)
    (h : ∀ a r, g a = some r → wf2 (da.enc a) → wf2 (dr.enc r) ∧ ∀ w, WI w → Calls P f #[da.enc a] w fun e w' => e = .returned (dr.enc r) ∧ w' = w) : CTok P f (CT.of1 da dr g) := by
  refine ⟨henter, fun R args mem k r hc hw _ => ?_⟩
  unfold CT.of1 at hc
  split at hc
  · rename_i va
    split at hc
    · rename_i a ha
      obtain ⟨x, hg, hk⟩ := Option.bind_eq_some_iff.1 hc
      obtain rfl := da.ok _ _ ha
      obtain ⟨h1, h2⟩ := h a x hg (hw (.v (da.enc a)) (by simp))
      exact ⟨dr.enc x, hk, h1, fun ρ w hWI _ => (h2 w hWI).mono fun e w' ⟨he, hw'⟩ => ⟨he, by rw [hw']; exact Below.refl _ _⟩⟩
    · cases hc
  · cases hc

theorem CTok.lib2 {f : FuncId} {α β τ : Type} {da : D α} {db : D β} {dr : D τ} {g : α → β → Option τ} (henter : ∀ args w, (callFunc f args).run P w = .ok (.enter f args) w)
    (h : ∀ a b r, g a b = some r → wf2 (da.enc a) → wf2 (db.enc b) → wf2 (dr.enc r) ∧ ∀ w, WI w → Calls P f #[da.enc a, db.enc b] w fun e w' => e = .returned (dr.enc r) ∧ w' = w) : CTok P f (CT.of2 da db dr g) := by
  refine ⟨henter, fun R args mem k r hc hw _ => ?_⟩
  unfold CT.of2 at hc
  split at hc
  · rename_i va vb
    split at hc
    · rename_i a b ha hb
      obtain ⟨x, hg, hk⟩ := Option.bind_eq_some_iff.1 hc
      obtain rfl := da.ok _ _ ha
      obtain rfl := db.ok _ _ hb
      obtain ⟨h1, h2⟩ := h a b x hg (hw (.v (da.enc a)) (by simp)) (hw (.v (db.enc b)) (by simp))
      exact ⟨dr.enc x, hk, h1, fun ρ w hWI _ => (h2 w hWI).mono fun e w' ⟨he, hw'⟩ => ⟨he, by rw [hw']; exact Below.refl _ _⟩⟩
    · cases hc
  · cases hc

theorem lk_one {α : Type} (t : Nat) (a : α) : lk t [(0, a)] = if t = 0 then some a else none := by
  rw [lk_cons, lk_nil]

theorem lk_two {α : Type} (t : Nat) (a b : α) : lk t [(0, a), (1, b)] = if t = 0 then some a else if t = 1 then some b else none := by
  rw [lk_cons, lk_cons, lk_nil]

/-- A contract of a function of plain values and one slice behind them. -/
theorem CTok.plainS {f : FuncId} {fn : Func} {ct : CT} (henter : ∀ args w, (callFunc f args).run P w = .ok (.enter f args) w) (hmix : P.follows .mixedOrders = true) (hf : P.funcs[f]? = some fn)
    (h : ∀ (R : Type) args mem (k : Value → Option R) r, ct R args mem k = some r → (∀ a ∈ args, a.wf) → (∀ l bk, mem l = some bk → ∀ c ∈ bk.b.cells, wf0 c) → ∃ (τ : Type) (d : D τ) (x : τ) (vs : List Value) (l n c : Nat) (bk : Bk) (cfg : Cfg) (N : Nat),
      k (d.enc x) = some r ∧ args = vs.map AV.v ++ [.s l 0 n c] ∧ mem l = some bk ∧ vs.length + 1 ≤ fn.ntmps ∧ CfgOk P cfg ∧ (∀ body, fn.body = some body → ∀ b ∈ loopsOf body, ∀ lc, lkL (firstReg b) cfg.lp = some lc → LCOk cfg N b lc) ∧
      evFunc cfg N fn (vs.map AV.v ++ [.s 0 0 n c]) [(0, ⟨false, bk.ty, bk.b⟩)] 1 d.dec = some x) : CTok P f ct := by
  refine ⟨henter, fun R args mem k r hc hw hM => ?_⟩
  obtain ⟨τ, d, x, vs, l, n, c, bk, cfg, N, hk, rfl, hl, hlen, hcfg, hHL, hev⟩ := h R args mem k r hc hw hM
  have hA : ArgsOk (vs.map AV.v ++ [.s 0 0 n c]) [(0, (⟨false, bk.ty, bk.b⟩ : Bk))] 1 := by
    refine ⟨fun a ha => ?_, fun m b hm => ?_, fun a ha m hm => ?_, fun m b hm => ?_, fun m b hm => ?_⟩
    · rcases List.mem_append.1 ha with ha | ha
      · exact hw a (List.mem_append_left _ ha)
      · rw [List.mem_singleton.1 ha]
        exact (hw (.s l 0 n c) (by simp) : AV.wf (.s l 0 n c))
    · simp only [lk_one] at hm
      split at hm
      · cases hm; exact hM l bk hl
      · cases hm
    · rcases List.mem_append.1 ha with ha | ha
      · obtain ⟨v, _, rfl⟩ := List.mem_map.1 ha
        simp [lab] at hm
      · rw [List.mem_singleton.1 ha] at hm
        simp [lab] at hm
        omega
    · rw [lk_one] at hm
      split at hm
      · omega
      · cases hm
    · rw [lk_one] at hm
      split at hm
      · cases hm; rfl
      · cases hm
  obtain ⟨h1, h2⟩ := func_ok hcfg hmix hf d.ok hev hA (by simpa using hlen) hHL
  refine ⟨d.enc x, hk, h1, fun ρ w hWI hm => ?_⟩
  have := h2 (fun _ => ρ l) w hWI fun m b hb => by
    rw [lk_one] at hb
    split at hb
    · cases hb
      obtain ⟨fr, hg, _⟩ := hm (.s l 0 n c) (by simp) l (by simp [lab]) bk hl
      exact ⟨fr, hg⟩
    · cases hb
  have e : (vs.map AV.v ++ [AV.s 0 0 n c]).map (conc fun _ => ρ l) = (vs.map AV.v ++ [AV.s l 0 n c]).map (conc ρ) := by
    simp [conc, Function.comp_def]
  rw [e] at this
  exact this

/-- A contract of a function of plain values and two slices behind them. -/
theorem CTok.plainT {f : FuncId} {fn : Func} {ct : CT} (henter : ∀ args w, (callFunc f args).run P w = .ok (.enter f args) w) (hmix : P.follows .mixedOrders = true) (hf : P.funcs[f]? = some fn)
    (h : ∀ (R : Type) args mem (k : Value → Option R) r, ct R args mem k = some r → (∀ a ∈ args, a.wf) → (∀ l bk, mem l = some bk → ∀ c ∈ bk.b.cells, wf0 c) → ∃ (τ : Type) (d : D τ) (x : τ) (vs : List Value) (l n c l' n' c' : Nat) (bk bk' : Bk) (cfg : Cfg) (N : Nat),
      k (d.enc x) = some r ∧ args = vs.map AV.v ++ [.s l 0 n c, .s l' 0 n' c'] ∧ mem l = some bk ∧ mem l' = some bk' ∧ vs.length + 2 ≤ fn.ntmps ∧ CfgOk P cfg ∧ (∀ body, fn.body = some body → ∀ b ∈ loopsOf body, ∀ lc, lkL (firstReg b) cfg.lp = some lc → LCOk cfg N b lc) ∧
      evFunc cfg N fn (vs.map AV.v ++ [.s 0 0 n c, .s 1 0 n' c']) [(0, ⟨false, bk.ty, bk.b⟩), (1, ⟨false, bk'.ty, bk'.b⟩)] 2 d.dec = some x) : CTok P f ct := by
  refine ⟨henter, fun R args mem k r hc hw hM => ?_⟩
  obtain ⟨τ, d, x, vs, l, n, c, l', n', c', bk, bk', cfg, N, hk, rfl, hl, hl', hlen, hcfg, hHL, hev⟩ := h R args mem k r hc hw hM
  have hA : ArgsOk (vs.map AV.v ++ [.s 0 0 n c, .s 1 0 n' c']) [(0, (⟨false, bk.ty, bk.b⟩ : Bk)), (1, (⟨false, bk'.ty, bk'.b⟩ : Bk))] 2 := by
    refine ⟨fun a ha => ?_, fun m b hm => ?_, fun a ha m hm => ?_, fun m b hm => ?_, fun m b hm => ?_⟩
    · rcases List.mem_append.1 ha with ha | ha
      · exact hw a (List.mem_append_left _ ha)
      · simp only [List.mem_cons, List.not_mem_nil, or_false] at ha
        rcases ha with rfl | rfl
        · exact (hw (.s l 0 n c) (by simp) : AV.wf (.s l 0 n c))
        · exact (hw (.s l' 0 n' c') (by simp) : AV.wf (.s l' 0 n' c'))
    · simp only [lk_two] at hm
      split at hm
      · cases hm; exact hM l bk hl
      · split at hm
        · cases hm; exact hM l' bk' hl'
        · cases hm
    · rcases List.mem_append.1 ha with ha | ha
      · obtain ⟨v, _, rfl⟩ := List.mem_map.1 ha
        simp [lab] at hm
      · simp only [List.mem_cons, List.not_mem_nil, or_false] at ha
        rcases ha with rfl | rfl <;> (simp [lab] at hm; omega)
    · rw [lk_two] at hm
      split at hm
      · omega
      · split at hm
        · omega
        · cases hm
    · rw [lk_two] at hm
      split at hm
      · cases hm; rfl
      · split at hm
        · cases hm; rfl
        · cases hm
  obtain ⟨h1, h2⟩ := func_ok hcfg hmix hf d.ok hev hA (by simpa using hlen) hHL
  refine ⟨d.enc x, hk, h1, fun ρ w hWI hm => ?_⟩
  have := h2 (fun i => if i = 0 then ρ l else ρ l') w hWI fun m b hb => by
    rw [lk_two] at hb
    split at hb
    · rename_i e; subst e
      cases hb
      obtain ⟨fr, hg, _⟩ := hm (.s l 0 n c) (by simp) l (by simp [lab]) bk hl
      exact ⟨fr, hg⟩
    · split at hb
      · rename_i e; subst e
        cases hb
        obtain ⟨fr, hg, _⟩ := hm (.s l' 0 n' c') (by simp) l' (by simp [lab]) bk' hl'
        exact ⟨fr, hg⟩
      · cases hb
  have e : (vs.map AV.v ++ [AV.s 0 0 n c, AV.s 1 0 n' c']).map (conc fun i => if i = 0 then ρ l else ρ l') = (vs.map AV.v ++ [AV.s l 0 n c, AV.s l' 0 n' c']).map (conc ρ) := by
    simp [conc, Function.comp_def]
  rw [e] at this
  exact this

def CT.ofS0 { σ τ : Type}  (md : MD σ) (ty : TypeId) (dr : D τ) (g : Nat → Nat → σ → Option τ) : CT := fun R args mem k => match args with
  | [.s l 0 n c] => match mem l with | some bk => bif Nat.beq bk.ty ty then (match md.dec bk.b with | some s => (g n c s).bind fun r => k (dr.enc r) | none => none) else none | none => none
  | _ => none
theorem CTok.ofS0 {f : FuncId} {fn : Func} { σ τ : Type}  {md : MD σ} {ty : TypeId} {dr : D τ} {g : Nat → Nat → σ → Option τ} (henter : ∀ args w, (callFunc f args).run P w = .ok (.enter f args) w) (hmix : P.follows .mixedOrders = true) (hf : P.funcs[f]? = some fn) (hn : 1 ≤ fn.ntmps)
    (h : ∀ n c s r, g n c s = some r → ∃ (cfg : Cfg) (N : Nat), CfgOk P cfg ∧ (∀ body, fn.body = some body → ∀ b ∈ loopsOf body, ∀ lc, lkL (firstReg b) cfg.lp = some lc → LCOk cfg N b lc) ∧ evFunc cfg N fn [.s 0 0 n c] [(0, ⟨false, ty, md.enc s⟩)] 1 dr.dec = some r) : CTok P f (CT.ofS0  md ty dr g) := by
  refine CTok.plainS henter hmix hf fun R args mem k r hc hw hM => ?_
  unfold CT.ofS0 at hc
  split at hc
  · rename_i l n c
    split at hc
    rotate_left
    · cases hc
    rename_i bk hbk
    obtain ⟨hty, hc2⟩ := bif_some hc
    clear hc
    simp only [nbeq, decide_eq_true_eq] at hty
    split at hc2
    rotate_left
    · cases hc2
    rename_i s hs
    obtain ⟨x, hg, hk⟩ := Option.bind_eq_some_iff.1 hc2
    obtain ⟨cfg, N, hcfg, hHL, hev⟩ := h n c s x hg
    refine ⟨τ, dr, x, [], l, n, c, bk, cfg, N, hk, rfl, hbk, by simpa using hn, hcfg, hHL, ?_⟩
    rw [hty, md.ok _ _ hs]
    exact hev
  · cases hc
def CT.ofS1 {α σ τ : Type} (da : D α) (md : MD σ) (ty : TypeId) (dr : D τ) (g : α → Nat → Nat → σ → Option τ) : CT := fun R args mem k => match args with
  | [.v va, .s l 0 n c] => match da.dec va with | some a => (match mem l with | some bk => bif Nat.beq bk.ty ty then (match md.dec bk.b with | some s => (g a n c s).bind fun r => k (dr.enc r) | none => none) else none | none => none) | none => none
  | _ => none
theorem CTok.ofS1 {f : FuncId} {fn : Func} {α σ τ : Type} {da : D α} {md : MD σ} {ty : TypeId} {dr : D τ} {g : α → Nat → Nat → σ → Option τ} (henter : ∀ args w, (callFunc f args).run P w = .ok (.enter f args) w) (hmix : P.follows .mixedOrders = true) (hf : P.funcs[f]? = some fn) (hn : 2 ≤ fn.ntmps)
    (h : ∀ a n c s r, g a n c s = some r → ∃ (cfg : Cfg) (N : Nat), CfgOk P cfg ∧ (∀ body, fn.body = some body → ∀ b ∈ loopsOf body, ∀ lc, lkL (firstReg b) cfg.lp = some lc → LCOk cfg N b lc) ∧ evFunc cfg N fn [.v (da.enc a), .s 0 0 n c] [(0, ⟨false, ty, md.enc s⟩)] 1 dr.dec = some r) : CTok P f (CT.ofS1 da md ty dr g) := by
  refine CTok.plainS henter hmix hf fun R args mem k r hc hw hM => ?_
  unfold CT.ofS1 at hc
  split at hc
  · rename_i va l n c
    split at hc
    rotate_left
    · cases hc
    rename_i a ha
    split at hc
    rotate_left
    · cases hc
    rename_i bk hbk
    obtain ⟨hty, hc2⟩ := bif_some hc
    clear hc
    simp only [nbeq, decide_eq_true_eq] at hty
    split at hc2
    rotate_left
    · cases hc2
    rename_i s hs
    obtain ⟨x, hg, hk⟩ := Option.bind_eq_some_iff.1 hc2
    obtain ⟨cfg, N, hcfg, hHL, hev⟩ := h a n c s x hg
    obtain rfl := da.ok _ _ ha
    refine ⟨τ, dr, x, [da.enc a], l, n, c, bk, cfg, N, hk, rfl, hbk, by simpa using hn, hcfg, hHL, ?_⟩
    rw [hty, md.ok _ _ hs]
    exact hev
  · cases hc
def CT.ofS2 {α β σ τ : Type} (da : D α) (db : D β) (md : MD σ) (ty : TypeId) (dr : D τ) (g : α → β → Nat → Nat → σ → Option τ) : CT := fun R args mem k => match args with
  | [.v va, .v vb, .s l 0 n c] => match da.dec va with | some a => (match db.dec vb with | some b => (match mem l with | some bk => bif Nat.beq bk.ty ty then (match md.dec bk.b with | some s => (g a b n c s).bind fun r => k (dr.enc r) | none => none) else none | none => none) | none => none) | none => none
  | _ => none
theorem CTok.ofS2 {f : FuncId} {fn : Func} {α β σ τ : Type} {da : D α} {db : D β} {md : MD σ} {ty : TypeId} {dr : D τ} {g : α → β → Nat → Nat → σ → Option τ} (henter : ∀ args w, (callFunc f args).run P w = .ok (.enter f args) w) (hmix : P.follows .mixedOrders = true) (hf : P.funcs[f]? = some fn) (hn : 3 ≤ fn.ntmps)
    (h : ∀ a b n c s r, g a b n c s = some r → ∃ (cfg : Cfg) (N : Nat), CfgOk P cfg ∧ (∀ body, fn.body = some body → ∀ b ∈ loopsOf body, ∀ lc, lkL (firstReg b) cfg.lp = some lc → LCOk cfg N b lc) ∧ evFunc cfg N fn [.v (da.enc a), .v (db.enc b), .s 0 0 n c] [(0, ⟨false, ty, md.enc s⟩)] 1 dr.dec = some r) : CTok P f (CT.ofS2 da db md ty dr g) := by
  refine CTok.plainS henter hmix hf fun R args mem k r hc hw hM => ?_
  unfold CT.ofS2 at hc
  split at hc
  · rename_i va vb l n c
    split at hc
    rotate_left
    · cases hc
    rename_i a ha
    split at hc
    rotate_left
    · cases hc
    rename_i b hb
    split at hc
    rotate_left
    · cases hc
    rename_i bk hbk
    obtain ⟨hty, hc2⟩ := bif_some hc
    clear hc
    simp only [nbeq, decide_eq_true_eq] at hty
    split at hc2
    rotate_left
    · cases hc2
    rename_i s hs
    obtain ⟨x, hg, hk⟩ := Option.bind_eq_some_iff.1 hc2
    obtain ⟨cfg, N, hcfg, hHL, hev⟩ := h a b n c s x hg
    obtain rfl := da.ok _ _ ha
    obtain rfl := db.ok _ _ hb
    refine ⟨τ, dr, x, [da.enc a, db.enc b], l, n, c, bk, cfg, N, hk, rfl, hbk, by simpa using hn, hcfg, hHL, ?_⟩
    rw [hty, md.ok _ _ hs]
    exact hev
  · cases hc
def CT.ofK1 {α σ τ : Type} (da : D α) (K : Nat) (md : MD σ) (ty : TypeId) (dr : D τ) (g : α → σ → Option τ) : CT := fun R args mem k => match args with
  | [.v va, .s l 0 n c] => match da.dec va with | some a => (match mem l with | some bk => bif Nat.beq bk.ty ty && (Nat.beq n K && Nat.beq c K) then (match md.dec bk.b with | some s => (g a s).bind fun r => k (dr.enc r) | none => none) else none | none => none) | none => none
  | _ => none
theorem CTok.ofK1 {f : FuncId} {fn : Func} {α σ τ : Type} {da : D α} {K : Nat} {md : MD σ} {ty : TypeId} {dr : D τ} {g : α → σ → Option τ} (henter : ∀ args w, (callFunc f args).run P w = .ok (.enter f args) w) (hmix : P.follows .mixedOrders = true) (hf : P.funcs[f]? = some fn) (hn : 2 ≤ fn.ntmps)
    (h : ∀ a s r, g a s = some r → ∃ (cfg : Cfg) (N : Nat), CfgOk P cfg ∧ (∀ body, fn.body = some body → ∀ b ∈ loopsOf body, ∀ lc, lkL (firstReg b) cfg.lp = some lc → LCOk cfg N b lc) ∧ evFunc cfg N fn [.v (da.enc a), .s 0 0 K K] [(0, ⟨false, ty, md.enc s⟩)] 1 dr.dec = some r) : CTok P f (CT.ofK1 da K md ty dr g) := by
  refine CTok.plainS henter hmix hf fun R args mem k r hc hw hM => ?_
  unfold CT.ofK1 at hc
  split at hc
  · rename_i va l n c
    split at hc
    rotate_left
    · cases hc
    rename_i a ha
    split at hc
    rotate_left
    · cases hc
    rename_i bk hbk
    obtain ⟨hty, hc2⟩ := bif_some hc
    clear hc
    simp only [nbeq, Bool.and_eq_true, decide_eq_true_eq] at hty
    obtain ⟨hty, rfl, hcc⟩ := hty
    subst hcc
    split at hc2
    rotate_left
    · cases hc2
    rename_i s hs
    obtain ⟨x, hg, hk⟩ := Option.bind_eq_some_iff.1 hc2
    obtain ⟨cfg, N, hcfg, hHL, hev⟩ := h a s x hg
    obtain rfl := da.ok _ _ ha
    refine ⟨τ, dr, x, [da.enc a], l, c, c, bk, cfg, N, hk, rfl, hbk, by simpa using hn, hcfg, hHL, ?_⟩
    rw [hty, md.ok _ _ hs]
    exact hev
  · cases hc
def CT.ofK2 {α β σ τ : Type} (da : D α) (db : D β) (K : Nat) (md : MD σ) (ty : TypeId) (dr : D τ) (g : α → β → σ → Option τ) : CT := fun R args mem k => match args with
  | [.v va, .v vb, .s l 0 n c] => match da.dec va with | some a => (match db.dec vb with | some b => (match mem l with | some bk => bif Nat.beq bk.ty ty && (Nat.beq n K && Nat.beq c K) then (match md.dec bk.b with | some s => (g a b s).bind fun r => k (dr.enc r) | none => none) else none | none => none) | none => none) | none => none
  | _ => none
theorem CTok.ofK2 {f : FuncId} {fn : Func} {α β σ τ : Type} {da : D α} {db : D β} {K : Nat} {md : MD σ} {ty : TypeId} {dr : D τ} {g : α → β → σ → Option τ} (henter : ∀ args w, (callFunc f args).run P w = .ok (.enter f args) w) (hmix : P.follows .mixedOrders = true) (hf : P.funcs[f]? = some fn) (hn : 3 ≤ fn.ntmps)
    (h : ∀ a b s r, g a b s = some r → ∃ (cfg : Cfg) (N : Nat), CfgOk P cfg ∧ (∀ body, fn.body = some body → ∀ b ∈ loopsOf body, ∀ lc, lkL (firstReg b) cfg.lp = some lc → LCOk cfg N b lc) ∧ evFunc cfg N fn [.v (da.enc a), .v (db.enc b), .s 0 0 K K] [(0, ⟨false, ty, md.enc s⟩)] 1 dr.dec = some r) : CTok P f (CT.ofK2 da db K md ty dr g) := by
  refine CTok.plainS henter hmix hf fun R args mem k r hc hw hM => ?_
  unfold CT.ofK2 at hc
  split at hc
  · rename_i va vb l n c
    split at hc
    rotate_left
    · cases hc
    rename_i a ha
    split at hc
    rotate_left
    · cases hc
    rename_i b hb
    split at hc
    rotate_left
    · cases hc
    rename_i bk hbk
    obtain ⟨hty, hc2⟩ := bif_some hc
    clear hc
    simp only [nbeq, Bool.and_eq_true, decide_eq_true_eq] at hty
    obtain ⟨hty, rfl, hcc⟩ := hty
    subst hcc
    split at hc2
    rotate_left
    · cases hc2
    rename_i s hs
    obtain ⟨x, hg, hk⟩ := Option.bind_eq_some_iff.1 hc2
    obtain ⟨cfg, N, hcfg, hHL, hev⟩ := h a b s x hg
    obtain rfl := da.ok _ _ ha
    obtain rfl := db.ok _ _ hb
    refine ⟨τ, dr, x, [da.enc a, db.enc b], l, c, c, bk, cfg, N, hk, rfl, hbk, by simpa using hn, hcfg, hHL, ?_⟩
    rw [hty, md.ok _ _ hs]
    exact hev
  · cases hc

def CT.ofT2 {α β σ τ : Type} (da : D α) (db : D β) (md : MD σ) (ty : TypeId) (dr : D τ) (g : α → β → Nat → Nat → σ → Nat → Nat → σ → Option τ) : CT := fun R args mem k => match args with
  | [.v va, .v vb, .s l 0 n c, .s l' 0 n' c'] => match da.dec va with | some a => (match db.dec vb with | some b => (match mem l with | some bk => (match mem l' with | some bk' => bif Nat.beq bk.ty ty && Nat.beq bk'.ty ty then (match md.dec bk.b with | some s => (match md.dec bk'.b with | some s' => (g a b n c s n' c' s').bind fun r => k (dr.enc r) | none => none) | none => none) else none | none => none) | none => none) | none => none) | none => none
  | _ => none
theorem CTok.ofT2 {f : FuncId} {fn : Func} {α β σ τ : Type} {da : D α} {db : D β} {md : MD σ} {ty : TypeId} {dr : D τ} {g : α → β → Nat → Nat → σ → Nat → Nat → σ → Option τ} (henter : ∀ args w, (callFunc f args).run P w = .ok (.enter f args) w) (hmix : P.follows .mixedOrders = true) (hf : P.funcs[f]? = some fn) (hn : 4 ≤ fn.ntmps)
    (h : ∀ a b n c s n' c' s' r, g a b n c s n' c' s' = some r → ∃ (cfg : Cfg) (N : Nat), CfgOk P cfg ∧ (∀ body, fn.body = some body → ∀ b ∈ loopsOf body, ∀ lc, lkL (firstReg b) cfg.lp = some lc → LCOk cfg N b lc) ∧ evFunc cfg N fn [.v (da.enc a), .v (db.enc b), .s 0 0 n c, .s 1 0 n' c'] [(0, ⟨false, ty, md.enc s⟩), (1, ⟨false, ty, md.enc s'⟩)] 2 dr.dec = some r) : CTok P f (CT.ofT2 da db md ty dr g) := by
  refine CTok.plainT henter hmix hf fun R args mem k r hc hw hM => ?_
  unfold CT.ofT2 at hc
  split at hc
  · rename_i va vb l n c l' n' c'
    split at hc
    rotate_left
    · cases hc
    rename_i a ha
    split at hc
    rotate_left
    · cases hc
    rename_i b hb
    split at hc
    rotate_left
    · cases hc
    rename_i bk hbk
    split at hc
    rotate_left
    · cases hc
    rename_i bk' hbk'
    obtain ⟨hty, hc⟩ := bif_some hc
    simp only [nbeq, Bool.and_eq_true, decide_eq_true_eq] at hty
    obtain ⟨hty, hty'⟩ := hty
    split at hc
    rotate_left
    · cases hc
    rename_i s hs
    split at hc
    rotate_left
    · cases hc
    rename_i s' hs'
    obtain ⟨x, hg, hk⟩ := Option.bind_eq_some_iff.1 hc
    obtain ⟨cfg, N, hcfg, hHL, hev⟩ := h a b n c s n' c' s' x hg
    obtain rfl := da.ok _ _ ha
    obtain rfl := db.ok _ _ hb
    refine ⟨τ, dr, x, [da.enc a, db.enc b], l, n, c, l', n', c', bk, bk', cfg, N, hk, rfl, hbk, hbk', by simpa using hn, hcfg, hHL, ?_⟩
    rw [hty, hty', md.ok _ _ hs, md.ok _ _ hs']
    exact hev
  · cases hc

end
end Go.Proofs.YtnfbcofieobkkaaGreatDoor.Ev
