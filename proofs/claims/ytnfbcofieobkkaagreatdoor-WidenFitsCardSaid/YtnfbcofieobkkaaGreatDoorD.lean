/- Typed values: how they are read and spelt; contracts of functions of plain values. -/
import Derived.Test.YtnfbcofieobkkaaGreatDoorEvJ
namespace Go.Proofs.YtnfbcofieobkkaaGreatDoor.Ev
open Go Go.RowKit
set_option linter.unusedVariables false
set_option linter.unusedSimpArgs false

/-- A number of 384 bits, word by word. -/
structure W6 where
  w0 : Int
  w1 : Int
  w2 : Int
  w3 : Int
  w4 : Int
  w5 : Int

def W6.get (a : W6) (i : Nat) : Int := getI i [a.w0, a.w1, a.w2, a.w3, a.w4, a.w5]

def W6.set (a : W6) (i : Nat) (x : Int) : W6 :=
  ⟨bif Nat.beq i 0 then x else a.w0, bif Nat.beq i 1 then x else a.w1, bif Nat.beq i 2 then x else a.w2, bif Nat.beq i 3 then x else a.w3, bif Nat.beq i 4 then x else a.w4, bif Nat.beq i 5 then x else a.w5⟩

structure B2 where
  hi : Int
  lo : Int

structure Pts where
  cls : Int
  sig : W6
  exp : Int
  frac : W6

structure Rgh where
  neg : Bool
  sig : W6
  exp : Int
  more : Bool

structure Exc where
  neg : Bool
  num : ByteArray
  den : ByteArray
  exp : Int

structure Fnd where
  m : ByteArray
  at_ : Int
  half : Int
  exact : Bool

structure P3 where
  p0 : Pts
  p1 : Pts
  p2 : Pts

/-- How a value of a type is read and spelt. -/
structure D (α : Type) where
  enc : α → Value
  dec : Value → Option α
  ok : ∀ v x, dec v = some x → v = enc x

def rI (k : IntKind) (v : Value) : Option Int := match v with | .int k' x => bif decide (k' = k) then some x else none | _ => none
def rB (v : Value) : Option Bool := match v with | .bool b => some b | _ => none
def rS (v : Value) : Option ByteArray := match v with | .string s => some s | _ => none

theorem rI_some {k : IntKind} {v : Value} {x : Int} (h : rI k v = some x) : v = .int k x := by
  unfold rI at h
  split at h
  · obtain ⟨h1, h2⟩ := bif_some h
    have h3 : _ = k := of_decide_eq_true h1
    subst h3
    cases h2; rfl
  · cases h
theorem rB_some {v : Value} {x : Bool} (h : rB v = some x) : v = .bool x := by
  unfold rB at h
  split at h
  · cases h; rfl
  · cases h
theorem rS_some {v : Value} {x : ByteArray} (h : rS v = some x) : v = .string x := by
  unfold rS at h
  split at h
  · cases h; rfl
  · cases h

def W6.cs (w : W6) : List Value := [.int .u64 w.w0, .int .u64 w.w1, .int .u64 w.w2, .int .u64 w.w3, .int .u64 w.w4, .int .u64 w.w5]
def B2.cs (b : B2) : List Value := [.int .u64 b.hi, .int .u64 b.lo]
def Pts.cs (p : Pts) : List Value := [.int .u8 p.cls, .int .u64 p.sig.w0, .int .u64 p.sig.w1, .int .u64 p.sig.w2, .int .u64 p.sig.w3, .int .u64 p.sig.w4, .int .u64 p.sig.w5, .int .i64 p.exp, .int .u64 p.frac.w0, .int .u64 p.frac.w1, .int .u64 p.frac.w2, .int .u64 p.frac.w3, .int .u64 p.frac.w4, .int .u64 p.frac.w5]
def Rgh.cs (r : Rgh) : List Value := [.bool r.neg, .int .u64 r.sig.w0, .int .u64 r.sig.w1, .int .u64 r.sig.w2, .int .u64 r.sig.w3, .int .u64 r.sig.w4, .int .u64 r.sig.w5, .int .i64 r.exp, .bool r.more]
def Exc.cs (x : Exc) : List Value := [.bool x.neg, .string x.num, .string x.den, .int .i64 x.exp]
def Fnd.cs (x : Fnd) : List Value := [.string x.m, .int .i64 x.at_, .int .i64 x.half, .bool x.exact]
def P3.cs (p : P3) : List Value := [.int .u8 p.p0.cls, .int .u64 p.p0.sig.w0, .int .u64 p.p0.sig.w1, .int .u64 p.p0.sig.w2, .int .u64 p.p0.sig.w3, .int .u64 p.p0.sig.w4, .int .u64 p.p0.sig.w5, .int .i64 p.p0.exp, .int .u64 p.p0.frac.w0, .int .u64 p.p0.frac.w1, .int .u64 p.p0.frac.w2, .int .u64 p.p0.frac.w3, .int .u64 p.p0.frac.w4, .int .u64 p.p0.frac.w5, .int .u8 p.p1.cls, .int .u64 p.p1.sig.w0, .int .u64 p.p1.sig.w1, .int .u64 p.p1.sig.w2, .int .u64 p.p1.sig.w3, .int .u64 p.p1.sig.w4, .int .u64 p.p1.sig.w5, .int .i64 p.p1.exp, .int .u64 p.p1.frac.w0, .int .u64 p.p1.frac.w1, .int .u64 p.p1.frac.w2, .int .u64 p.p1.frac.w3, .int .u64 p.p1.frac.w4, .int .u64 p.p1.frac.w5, .int .u8 p.p2.cls, .int .u64 p.p2.sig.w0, .int .u64 p.p2.sig.w1, .int .u64 p.p2.sig.w2, .int .u64 p.p2.sig.w3, .int .u64 p.p2.sig.w4, .int .u64 p.p2.sig.w5, .int .i64 p.p2.exp, .int .u64 p.p2.frac.w0, .int .u64 p.p2.frac.w1, .int .u64 p.p2.frac.w2, .int .u64 p.p2.frac.w3, .int .u64 p.p2.frac.w4, .int .u64 p.p2.frac.w5]

def rd6 (a b c d e f : Value) : Option W6 := match rI .u64 a, rI .u64 b, rI .u64 c, rI .u64 d, rI .u64 e, rI .u64 f with
  | some a, some b, some c, some d, some e, some f => some ⟨a, b, c, d, e, f⟩
  | _, _, _, _, _, _ => none
theorem rd6_some {a b c d e f : Value} {w : W6} (h : rd6 a b c d e f = some w) : [a, b, c, d, e, f] = w.cs := by
  unfold rd6 at h
  split at h
  · rename_i h1 h2 h3 h4 h5 h6
    cases h
    rw [rI_some h1, rI_some h2, rI_some h3, rI_some h4, rI_some h5, rI_some h6]
    rfl
  · cases h
def rdW : List Value → Option W6
  | [a, b, c, d, e, f] => rd6 a b c d e f
  | _ => none
def rdB : List Value → Option B2
  | [a, b] => match rI .u64 a, rI .u64 b with | some a, some b => some ⟨a, b⟩ | _, _ => none
  | _ => none
def rdP : List Value → Option Pts
  | [c, a0, a1, a2, a3, a4, a5, e, b0, b1, b2, b3, b4, b5] => match rI .u8 c, rd6 a0 a1 a2 a3 a4 a5, rI .i64 e, rd6 b0 b1 b2 b3 b4 b5 with
    | some c, some a, some e, some b => some ⟨c, a, e, b⟩
    | _, _, _, _ => none
  | _ => none
def rdR : List Value → Option Rgh
  | [n, a0, a1, a2, a3, a4, a5, e, m] => match rB n, rd6 a0 a1 a2 a3 a4 a5, rI .i64 e, rB m with
    | some n, some a, some e, some m => some ⟨n, a, e, m⟩
    | _, _, _, _ => none
  | _ => none
def rdX : List Value → Option Exc
  | [n, a, b, e] => match rB n, rS a, rS b, rI .i64 e with
    | some n, some a, some b, some e => some ⟨n, a, b, e⟩
    | _, _, _, _ => none
  | _ => none
def rdF : List Value → Option Fnd
  | [n, a, b, e] => match rS n, rI .i64 a, rI .i64 b, rB e with
    | some n, some a, some b, some e => some ⟨n, a, b, e⟩
    | _, _, _, _ => none
  | _ => none
def rd3 (l : List Value) : Option P3 := match rdP (l.take 14), rdP ((l.drop 14).take 14), rdP (l.drop 28) with
  | some a, some b, some c => some ⟨a, b, c⟩
  | _, _, _ => none
theorem rdW_some {l : List Value} {w : W6} (h : rdW l = some w) : l = w.cs := by
  match l, h with
  | [a, b, c, d, e, f], h => exact rd6_some h
theorem rdB_some {l : List Value} {w : B2} (h : rdB l = some w) : l = w.cs := by
  match l, h with
  | [a, b], h =>
    simp only [rdB] at h
    split at h
    · rename_i h1 h2
      cases h
      rw [rI_some h1, rI_some h2]; rfl
    · cases h
theorem rdP_some {l : List Value} {w : Pts} (h : rdP l = some w) : l = w.cs := by
  match l, h with
  | [c, a0, a1, a2, a3, a4, a5, e, b0, b1, b2, b3, b4, b5], h =>
    simp only [rdP] at h
    split at h
    · rename_i h1 h2 h3 h4
      cases h
      have e1 := rd6_some h2
      have e2 := rd6_some h4
      simp only [W6.cs, List.cons.injEq] at e1 e2
      obtain ⟨r1, r2, r3, r4, r5, r6, _⟩ := e1
      obtain ⟨s1, s2, s3, s4, s5, s6, _⟩ := e2
      subst r1 r2 r3 r4 r5 r6 s1 s2 s3 s4 s5 s6
      rw [rI_some h1, rI_some h3]; rfl
    · cases h
theorem rdR_some {l : List Value} {w : Rgh} (h : rdR l = some w) : l = w.cs := by
  match l, h with
  | [n, a0, a1, a2, a3, a4, a5, e, m], h =>
    simp only [rdR] at h
    split at h
    · rename_i h1 h2 h3 h4
      cases h
      have e1 := rd6_some h2
      simp only [W6.cs, List.cons.injEq] at e1
      obtain ⟨r1, r2, r3, r4, r5, r6, _⟩ := e1
      subst r1 r2 r3 r4 r5 r6
      rw [rB_some h1, rI_some h3, rB_some h4]; rfl
    · cases h
theorem rdX_some {l : List Value} {w : Exc} (h : rdX l = some w) : l = w.cs := by
  match l, h with
  | [n, a, b, e], h =>
    simp only [rdX] at h
    split at h
    · rename_i h1 h2 h3 h4
      cases h
      rw [rB_some h1, rS_some h2, rS_some h3, rI_some h4]; rfl
    · cases h
theorem rdF_some {l : List Value} {w : Fnd} (h : rdF l = some w) : l = w.cs := by
  match l, h with
  | [n, a, b, e], h =>
    simp only [rdF] at h
    split at h
    · rename_i h1 h2 h3 h4
      cases h
      rw [rS_some h1, rI_some h2, rI_some h3, rB_some h4]; rfl
    · cases h
theorem rd3_some {l : List Value} {w : P3} (h : rd3 l = some w) : l = w.cs := by
  unfold rd3 at h
  split at h
  · rename_i a b c h1 h2 h3
    cases h
    have e : l = l.take 14 ++ ((l.drop 14).take 14 ++ l.drop 28) := by
      rw [show (28 : Nat) = 14 + 14 from rfl, ← List.drop_drop, List.take_append_drop, List.take_append_drop]
    rw [e, rdP_some h1, rdP_some h2, rdP_some h3]
    rfl
  · cases h

def rAgg {α : Type} (f : List Value → Option α) (v : Value) : Option α := match v with | .agg cs => f cs.toList | _ => none
theorem rAgg_some {α : Type} {f : List Value → Option α} {g : α → List Value} (hf : ∀ l x, f l = some x → l = g x) {v : Value} {x : α} (h : rAgg f v = some x) : v = .agg ⟨g x⟩ := by
  unfold rAgg at h
  split at h
  · rename_i cs
    rw [← hf _ _ h]
  · cases h

def dI (k : IntKind) : D Int := ⟨.int k, rI k, fun _ _ => rI_some⟩
def dB : D Bool := ⟨.bool, rB, fun _ _ => rB_some⟩
def dS : D ByteArray := ⟨.string, rS, fun _ _ => rS_some⟩
def dW : D W6 := ⟨fun w => .agg ⟨w.cs⟩, rAgg rdW, fun _ _ h => rAgg_some (fun _ _ => rdW_some) h⟩
def dBits : D B2 := ⟨fun w => .agg ⟨w.cs⟩, rAgg rdB, fun _ _ h => rAgg_some (fun _ _ => rdB_some) h⟩
def dPts : D Pts := ⟨fun w => .agg ⟨w.cs⟩, rAgg rdP, fun _ _ h => rAgg_some (fun _ _ => rdP_some) h⟩
def dRgh : D Rgh := ⟨fun w => .agg ⟨w.cs⟩, rAgg rdR, fun _ _ h => rAgg_some (fun _ _ => rdR_some) h⟩
def dExc : D Exc := ⟨fun w => .agg ⟨w.cs⟩, rAgg rdX, fun _ _ h => rAgg_some (fun _ _ => rdX_some) h⟩
def dFnd : D Fnd := ⟨fun w => .agg ⟨w.cs⟩, rAgg rdF, fun _ _ h => rAgg_some (fun _ _ => rdF_some) h⟩
def dP3 : D P3 := ⟨fun w => .agg ⟨w.cs⟩, rAgg rd3, fun _ _ h => rAgg_some (fun _ _ => rd3_some) h⟩

def rTup (v : Value) : List Value := match v with | .tuple vs => vs.toList | _ => []
theorem rTup_cons {v x : Value} {l : List Value} (h : rTup v = x :: l) : v = .tuple ⟨x :: l⟩ := by
  unfold rTup at h
  split at h
  · rw [← h]
  · cases h

def dT2 {α β : Type} (a : D α) (b : D β) : D (α × β) where
  enc r := .tuple ⟨[a.enc r.1, b.enc r.2]⟩
  dec v := match rTup v with
    | [xa, xb] => match a.dec xa, b.dec xb with
      | some ya, some yb => some (ya, yb)
      | _, _ => none
    | _ => none
  ok v r h := by
    split at h
    · rename_i hv
      split at h
      · rename_i ha hb
        cases h
        rw [rTup_cons hv, a.ok _ _ ha, b.ok _ _ hb]
      · cases h
    · cases h
def dT3 {α β γ : Type} (a : D α) (b : D β) (c : D γ) : D (α × β × γ) where
  enc r := .tuple ⟨[a.enc r.1, b.enc r.2.1, c.enc r.2.2]⟩
  dec v := match rTup v with
    | [xa, xb, xc] => match a.dec xa, b.dec xb, c.dec xc with
      | some ya, some yb, some yc => some (ya, yb, yc)
      | _, _, _ => none
    | _ => none
  ok v r h := by
    split at h
    · rename_i hv
      split at h
      · rename_i ha hb hc
        cases h
        rw [rTup_cons hv, a.ok _ _ ha, b.ok _ _ hb, c.ok _ _ hc]
      · cases h
    · cases h
def dT4 {α β γ δ : Type} (a : D α) (b : D β) (c : D γ) (d : D δ) : D (α × β × γ × δ) where
  enc r := .tuple ⟨[a.enc r.1, b.enc r.2.1, c.enc r.2.2.1, d.enc r.2.2.2]⟩
  dec v := match rTup v with
    | [xa, xb, xc, xd] => match a.dec xa, b.dec xb, c.dec xc, d.dec xd with
      | some ya, some yb, some yc, some yd => some (ya, yb, yc, yd)
      | _, _, _, _ => none
    | _ => none
  ok v r h := by
    split at h
    · rename_i hv
      split at h
      · rename_i ha hb hc hd
        cases h
        rw [rTup_cons hv, a.ok _ _ ha, b.ok _ _ hb, c.ok _ _ hc, d.ok _ _ hd]
      · cases h
    · cases h

section
variable {P : Program}

/-- A contract of a function of plain values. -/
theorem CTok.plain {f : FuncId} {fn : Func} {ct : CT} (henter : ∀ args w, (callFunc f args).run P w = .ok (.enter f args) w) (hmix : P.follows .mixedOrders = true) (hf : P.funcs[f]? = some fn)
    (h : ∀ (R : Type) args mem (k : Value → Option R) r, ct R args mem k = some r → (∀ a ∈ args, a.wf) → ∃ (τ : Type) (d : D τ) (x : τ) (vs : List Value) (cfg : Cfg) (N : Nat),
      k (d.enc x) = some r ∧ args = vs.map AV.v ∧ vs.length ≤ fn.ntmps ∧ CfgOk P cfg ∧ (∀ body, fn.body = some body → ∀ b ∈ loopsOf body, ∀ lc, lkL (firstReg b) cfg.lp = some lc → LCOk cfg N b lc) ∧ evFunc cfg N fn (vs.map AV.v) [] 0 d.dec = some x) : CTok P f ct := by
  refine ⟨henter, fun R args mem k r hc hw _ => ?_⟩
  obtain ⟨τ, d, x, vs, cfg, N, hk, rfl, hlen, hcfg, hHL, hev⟩ := h R args mem k r hc hw
  obtain ⟨h1, h2⟩ := func_ok hcfg hmix hf d.ok hev (nx := 0) (mem := []) ⟨hw, fun l bk hl => by simp [lk_nil] at hl, fun a ha l hl => by
    obtain ⟨v, _, rfl⟩ := List.mem_map.1 ha
    simp [lab] at hl, fun l bk hl => by simp [lk_nil] at hl, fun l bk hl => by simp [lk_nil] at hl⟩ (by simpa using hlen) hHL
  exact ⟨d.enc x, hk, h1, fun ρ w hWI _ => h2 ρ w hWI (fun l bk hl => by simp [lk_nil] at hl)⟩

def CT.of0 {τ : Type} (dr : D τ) (g : Option τ) : CT := fun R args _ k => match args with
  | [] => g.bind fun r => k (dr.enc r)
  | _ => none
theorem CTok.of0 {f : FuncId} {fn : Func} {τ : Type} {dr : D τ} {g : Option τ} (henter : ∀ args w, (callFunc f args).run P w = .ok (.enter f args) w) (hmix : P.follows .mixedOrders = true) (hf : P.funcs[f]? = some fn) (hn : 0 ≤ fn.ntmps)
    (h : ∀ r, g = some r → ∃ (cfg : Cfg) (N : Nat), CfgOk P cfg ∧ (∀ body, fn.body = some body → ∀ b ∈ loopsOf body, ∀ lc, lkL (firstReg b) cfg.lp = some lc → LCOk cfg N b lc) ∧ evFunc cfg N fn [] [] 0 dr.dec = some r) : CTok P f (CT.of0  dr g) := by
  refine CTok.plain henter hmix hf fun R args mem k r hc hw => ?_
  unfold CT.of0 at hc
  split at hc
  · obtain ⟨x, hg, hk⟩ := Option.bind_eq_some_iff.1 hc
    obtain ⟨cfg, N, hcfg, hHL, hev⟩ := h x hg
    exact ⟨τ, dr, x, [], cfg, N, hk, rfl, Nat.zero_le _, hcfg, hHL, hev⟩
  · cases hc
def CT.of1 {α τ : Type} (da : D α) (dr : D τ) (g : α → Option τ) : CT := fun R args _ k => match args with
  | [.v xa] => match da.dec xa with
    | some ya => (g ya).bind fun r => k (dr.enc r)
    | _ => none
  | _ => none
theorem CTok.of1 {f : FuncId} {fn : Func} {α τ : Type} {da : D α} {dr : D τ} {g : α → Option τ} (henter : ∀ args w, (callFunc f args).run P w = .ok (.enter f args) w) (hmix : P.follows .mixedOrders = true) (hf : P.funcs[f]? = some fn) (hn : 1 ≤ fn.ntmps)
    (h : ∀ a r, g a = some r → wf2 (da.enc a) → ∃ (cfg : Cfg) (N : Nat), CfgOk P cfg ∧ (∀ body, fn.body = some body → ∀ b ∈ loopsOf body, ∀ lc, lkL (firstReg b) cfg.lp = some lc → LCOk cfg N b lc) ∧ evFunc cfg N fn [.v (da.enc a)] [] 0 dr.dec = some r) : CTok P f (CT.of1 da dr g) := by
  refine CTok.plain henter hmix hf fun R args mem k r hc hw => ?_
  unfold CT.of1 at hc
  split at hc
  · split at hc
    · rename_i qa
      obtain ⟨x, hg, hk⟩ := Option.bind_eq_some_iff.1 hc
      have ea := da.ok _ _ qa
      subst ea
      obtain ⟨cfg, N, hcfg, hHL, hev⟩ := h _ x hg (hw (.v _) (by simp))
      exact ⟨τ, dr, x, [_], cfg, N, hk, rfl, by simpa using hn, hcfg, hHL, hev⟩
    · cases hc
  · cases hc
def CT.of2 {α β τ : Type} (da : D α) (db : D β) (dr : D τ) (g : α → β → Option τ) : CT := fun R args _ k => match args with
  | [.v xa, .v xb] => match da.dec xa, db.dec xb with
    | some ya, some yb => (g ya yb).bind fun r => k (dr.enc r)
    | _, _ => none
  | _ => none
theorem CTok.of2 {f : FuncId} {fn : Func} {α β τ : Type} {da : D α} {db : D β} {dr : D τ} {g : α → β → Option τ} (henter : ∀ args w, (callFunc f args).run P w = .ok (.enter f args) w) (hmix : P.follows .mixedOrders = true) (hf : P.funcs[f]? = some fn) (hn : 2 ≤ fn.ntmps)
    (h : ∀ a b r, g a b = some r → wf2 (da.enc a) → wf2 (db.enc b) → ∃ (cfg : Cfg) (N : Nat), CfgOk P cfg ∧ (∀ body, fn.body = some body → ∀ b ∈ loopsOf body, ∀ lc, lkL (firstReg b) cfg.lp = some lc → LCOk cfg N b lc) ∧ evFunc cfg N fn [.v (da.enc a), .v (db.enc b)] [] 0 dr.dec = some r) : CTok P f (CT.of2 da db dr g) := by
  refine CTok.plain henter hmix hf fun R args mem k r hc hw => ?_
  unfold CT.of2 at hc
  split at hc
  · split at hc
    · rename_i qa qb
      obtain ⟨x, hg, hk⟩ := Option.bind_eq_some_iff.1 hc
      have ea := da.ok _ _ qa
      have eb := db.ok _ _ qb
      subst ea eb
      obtain ⟨cfg, N, hcfg, hHL, hev⟩ := h _ _ x hg (hw (.v _) (by simp)) (hw (.v _) (by simp))
      exact ⟨τ, dr, x, [_, _], cfg, N, hk, rfl, by simpa using hn, hcfg, hHL, hev⟩
    · cases hc
  · cases hc
def CT.of3 {α β γ τ : Type} (da : D α) (db : D β) (dc : D γ) (dr : D τ) (g : α → β → γ → Option τ) : CT := fun R args _ k => match args with
  | [.v xa, .v xb, .v xc] => match da.dec xa, db.dec xb, dc.dec xc with
    | some ya, some yb, some yc => (g ya yb yc).bind fun r => k (dr.enc r)
    | _, _, _ => none
  | _ => none
theorem CTok.of3 {f : FuncId} {fn : Func} {α β γ τ : Type} {da : D α} {db : D β} {dc : D γ} {dr : D τ} {g : α → β → γ → Option τ} (henter : ∀ args w, (callFunc f args).run P w = .ok (.enter f args) w) (hmix : P.follows .mixedOrders = true) (hf : P.funcs[f]? = some fn) (hn : 3 ≤ fn.ntmps)
    (h : ∀ a b c r, g a b c = some r → wf2 (da.enc a) → wf2 (db.enc b) → wf2 (dc.enc c) → ∃ (cfg : Cfg) (N : Nat), CfgOk P cfg ∧ (∀ body, fn.body = some body → ∀ b ∈ loopsOf body, ∀ lc, lkL (firstReg b) cfg.lp = some lc → LCOk cfg N b lc) ∧ evFunc cfg N fn [.v (da.enc a), .v (db.enc b), .v (dc.enc c)] [] 0 dr.dec = some r) : CTok P f (CT.of3 da db dc dr g) := by
  refine CTok.plain henter hmix hf fun R args mem k r hc hw => ?_
  unfold CT.of3 at hc
  split at hc
  · split at hc
    · rename_i qa qb qc
      obtain ⟨x, hg, hk⟩ := Option.bind_eq_some_iff.1 hc
      have ea := da.ok _ _ qa
      have eb := db.ok _ _ qb
      have ec := dc.ok _ _ qc
      subst ea eb ec
      obtain ⟨cfg, N, hcfg, hHL, hev⟩ := h _ _ _ x hg (hw (.v _) (by simp)) (hw (.v _) (by simp)) (hw (.v _) (by simp))
      exact ⟨τ, dr, x, [_, _, _], cfg, N, hk, rfl, by simpa using hn, hcfg, hHL, hev⟩
    · cases hc
  · cases hc
def CT.of4 {α β γ δ τ : Type} (da : D α) (db : D β) (dc : D γ) (dd : D δ) (dr : D τ) (g : α → β → γ → δ → Option τ) : CT := fun R args _ k => match args with
  | [.v xa, .v xb, .v xc, .v xd] => match da.dec xa, db.dec xb, dc.dec xc, dd.dec xd with
    | some ya, some yb, some yc, some yd => (g ya yb yc yd).bind fun r => k (dr.enc r)
    | _, _, _, _ => none
  | _ => none
theorem CTok.of4 {f : FuncId} {fn : Func} {α β γ δ τ : Type} {da : D α} {db : D β} {dc : D γ} {dd : D δ} {dr : D τ} {g : α → β → γ → δ → Option τ} (henter : ∀ args w, (callFunc f args).run P w = .ok (.enter f args) w) (hmix : P.follows .mixedOrders = true) (hf : P.funcs[f]? = some fn) (hn : 4 ≤ fn.ntmps)
    (h : ∀ a b c d r, g a b c d = some r → wf2 (da.enc a) → wf2 (db.enc b) → wf2 (dc.enc c) → wf2 (dd.enc d) → ∃ (cfg : Cfg) (N : Nat), CfgOk P cfg ∧ (∀ body, fn.body = some body → ∀ b ∈ loopsOf body, ∀ lc, lkL (firstReg b) cfg.lp = some lc → LCOk cfg N b lc) ∧ evFunc cfg N fn [.v (da.enc a), .v (db.enc b), .v (dc.enc c), .v (dd.enc d)] [] 0 dr.dec = some r) : CTok P f (CT.of4 da db dc dd dr g) := by
  refine CTok.plain henter hmix hf fun R args mem k r hc hw => ?_
  unfold CT.of4 at hc
  split at hc
  · split at hc
    · rename_i qa qb qc qd
      obtain ⟨x, hg, hk⟩ := Option.bind_eq_some_iff.1 hc
      have ea := da.ok _ _ qa
      have eb := db.ok _ _ qb
      have ec := dc.ok _ _ qc
      have ed := dd.ok _ _ qd
      subst ea eb ec ed
      obtain ⟨cfg, N, hcfg, hHL, hev⟩ := h _ _ _ _ x hg (hw (.v _) (by simp)) (hw (.v _) (by simp)) (hw (.v _) (by simp)) (hw (.v _) (by simp))
      exact ⟨τ, dr, x, [_, _, _, _], cfg, N, hk, rfl, by simpa using hn, hcfg, hHL, hev⟩
    · cases hc
  · cases hc
def CT.of5 {α β γ δ ε τ : Type} (da : D α) (db : D β) (dc : D γ) (dd : D δ) (de : D ε) (dr : D τ) (g : α → β → γ → δ → ε → Option τ) : CT := fun R args _ k => match args with
  | [.v xa, .v xb, .v xc, .v xd, .v xe] => match da.dec xa, db.dec xb, dc.dec xc, dd.dec xd, de.dec xe with
    | some ya, some yb, some yc, some yd, some ye => (g ya yb yc yd ye).bind fun r => k (dr.enc r)
    | _, _, _, _, _ => none
  | _ => none
theorem CTok.of5 {f : FuncId} {fn : Func} {α β γ δ ε τ : Type} {da : D α} {db : D β} {dc : D γ} {dd : D δ} {de : D ε} {dr : D τ} {g : α → β → γ → δ → ε → Option τ} (henter : ∀ args w, (callFunc f args).run P w = .ok (.enter f args) w) (hmix : P.follows .mixedOrders = true) (hf : P.funcs[f]? = some fn) (hn : 5 ≤ fn.ntmps)
    (h : ∀ a b c d e r, g a b c d e = some r → wf2 (da.enc a) → wf2 (db.enc b) → wf2 (dc.enc c) → wf2 (dd.enc d) → wf2 (de.enc e) → ∃ (cfg : Cfg) (N : Nat), CfgOk P cfg ∧ (∀ body, fn.body = some body → ∀ b ∈ loopsOf body, ∀ lc, lkL (firstReg b) cfg.lp = some lc → LCOk cfg N b lc) ∧ evFunc cfg N fn [.v (da.enc a), .v (db.enc b), .v (dc.enc c), .v (dd.enc d), .v (de.enc e)] [] 0 dr.dec = some r) : CTok P f (CT.of5 da db dc dd de dr g) := by
  refine CTok.plain henter hmix hf fun R args mem k r hc hw => ?_
  unfold CT.of5 at hc
  split at hc
  · split at hc
    · rename_i qa qb qc qd qe
      obtain ⟨x, hg, hk⟩ := Option.bind_eq_some_iff.1 hc
      have ea := da.ok _ _ qa
      have eb := db.ok _ _ qb
      have ec := dc.ok _ _ qc
      have ed := dd.ok _ _ qd
      have ee := de.ok _ _ qe
      subst ea eb ec ed ee
      obtain ⟨cfg, N, hcfg, hHL, hev⟩ := h _ _ _ _ _ x hg (hw (.v _) (by simp)) (hw (.v _) (by simp)) (hw (.v _) (by simp)) (hw (.v _) (by simp)) (hw (.v _) (by simp))
      exact ⟨τ, dr, x, [_, _, _, _, _], cfg, N, hk, rfl, by simpa using hn, hcfg, hHL, hev⟩
    · cases hc
  · cases hc
def CT.of6 {α β γ δ ε ζ τ : Type} (da : D α) (db : D β) (dc : D γ) (dd : D δ) (de : D ε) (du : D ζ) (dr : D τ) (g : α → β → γ → δ → ε → ζ → Option τ) : CT := fun R args _ k => match args with
  | [.v xa, .v xb, .v xc, .v xd, .v xe, .v xu] => match da.dec xa, db.dec xb, dc.dec xc, dd.dec xd, de.dec xe, du.dec xu with
    | some ya, some yb, some yc, some yd, some ye, some yu => (g ya yb yc yd ye yu).bind fun r => k (dr.enc r)
    | _, _, _, _, _, _ => none
  | _ => none
theorem CTok.of6 {f : FuncId} {fn : Func} {α β γ δ ε ζ τ : Type} {da : D α} {db : D β} {dc : D γ} {dd : D δ} {de : D ε} {du : D ζ} {dr : D τ} {g : α → β → γ → δ → ε → ζ → Option τ} (henter : ∀ args w, (callFunc f args).run P w = .ok (.enter f args) w) (hmix : P.follows .mixedOrders = true) (hf : P.funcs[f]? = some fn) (hn : 6 ≤ fn.ntmps)
    (h : ∀ a b c d e u r, g a b c d e u = some r → wf2 (da.enc a) → wf2 (db.enc b) → wf2 (dc.enc c) → wf2 (dd.enc d) → wf2 (de.enc e) → wf2 (du.enc u) → ∃ (cfg : Cfg) (N : Nat), CfgOk P cfg ∧ (∀ body, fn.body = some body → ∀ b ∈ loopsOf body, ∀ lc, lkL (firstReg b) cfg.lp = some lc → LCOk cfg N b lc) ∧ evFunc cfg N fn [.v (da.enc a), .v (db.enc b), .v (dc.enc c), .v (dd.enc d), .v (de.enc e), .v (du.enc u)] [] 0 dr.dec = some r) : CTok P f (CT.of6 da db dc dd de du dr g) := by
  refine CTok.plain henter hmix hf fun R args mem k r hc hw => ?_
  unfold CT.of6 at hc
  split at hc
  · split at hc
    · rename_i qa qb qc qd qe qu
      obtain ⟨x, hg, hk⟩ := Option.bind_eq_some_iff.1 hc
      have ea := da.ok _ _ qa
      have eb := db.ok _ _ qb
      have ec := dc.ok _ _ qc
      have ed := dd.ok _ _ qd
      have ee := de.ok _ _ qe
      have eu := du.ok _ _ qu
      subst ea eb ec ed ee eu
      obtain ⟨cfg, N, hcfg, hHL, hev⟩ := h _ _ _ _ _ _ x hg (hw (.v _) (by simp)) (hw (.v _) (by simp)) (hw (.v _) (by simp)) (hw (.v _) (by simp)) (hw (.v _) (by simp)) (hw (.v _) (by simp))
      exact ⟨τ, dr, x, [_, _, _, _, _, _], cfg, N, hk, rfl, by simpa using hn, hcfg, hHL, hev⟩
    · cases hc
  · cases hc
def CT.of7 {α β γ δ ε ζ η τ : Type} (da : D α) (db : D β) (dc : D γ) (dd : D δ) (de : D ε) (du : D ζ) (dv : D η) (dr : D τ) (g : α → β → γ → δ → ε → ζ → η → Option τ) : CT := fun R args _ k => match args with
  | [.v xa, .v xb, .v xc, .v xd, .v xe, .v xu, .v xv] => match da.dec xa, db.dec xb, dc.dec xc, dd.dec xd, de.dec xe, du.dec xu, dv.dec xv with
    | some ya, some yb, some yc, some yd, some ye, some yu, some yv => (g ya yb yc yd ye yu yv).bind fun r => k (dr.enc r)
    | _, _, _, _, _, _, _ => none
  | _ => none
theorem CTok.of7 {f : FuncId} {fn : Func} {α β γ δ ε ζ η τ : Type} {da : D α} {db : D β} {dc : D γ} {dd : D δ} {de : D ε} {du : D ζ} {dv : D η} {dr : D τ} {g : α → β → γ → δ → ε → ζ → η → Option τ} (henter : ∀ args w, (callFunc f args).run P w = .ok (.enter f args) w) (hmix : P.follows .mixedOrders = true) (hf : P.funcs[f]? = some fn) (hn : 7 ≤ fn.ntmps)
    (h : ∀ a b c d e u v r, g a b c d e u v = some r → wf2 (da.enc a) → wf2 (db.enc b) → wf2 (dc.enc c) → wf2 (dd.enc d) → wf2 (de.enc e) → wf2 (du.enc u) → wf2 (dv.enc v) → ∃ (cfg : Cfg) (N : Nat), CfgOk P cfg ∧ (∀ body, fn.body = some body → ∀ b ∈ loopsOf body, ∀ lc, lkL (firstReg b) cfg.lp = some lc → LCOk cfg N b lc) ∧ evFunc cfg N fn [.v (da.enc a), .v (db.enc b), .v (dc.enc c), .v (dd.enc d), .v (de.enc e), .v (du.enc u), .v (dv.enc v)] [] 0 dr.dec = some r) : CTok P f (CT.of7 da db dc dd de du dv dr g) := by
  refine CTok.plain henter hmix hf fun R args mem k r hc hw => ?_
  unfold CT.of7 at hc
  split at hc
  · split at hc
    · rename_i qa qb qc qd qe qu qv
      obtain ⟨x, hg, hk⟩ := Option.bind_eq_some_iff.1 hc
      have ea := da.ok _ _ qa
      have eb := db.ok _ _ qb
      have ec := dc.ok _ _ qc
      have ed := dd.ok _ _ qd
      have ee := de.ok _ _ qe
      have eu := du.ok _ _ qu
      have ev := dv.ok _ _ qv
      subst ea eb ec ed ee eu ev
      obtain ⟨cfg, N, hcfg, hHL, hev⟩ := h _ _ _ _ _ _ _ x hg (hw (.v _) (by simp)) (hw (.v _) (by simp)) (hw (.v _) (by simp)) (hw (.v _) (by simp)) (hw (.v _) (by simp)) (hw (.v _) (by simp)) (hw (.v _) (by simp))
      exact ⟨τ, dr, x, [_, _, _, _, _, _, _], cfg, N, hk, rfl, by simpa using hn, hcfg, hHL, hev⟩
    · cases hc
  · cases hc
end
end Go.Proofs.YtnfbcofieobkkaaGreatDoor.Ev
