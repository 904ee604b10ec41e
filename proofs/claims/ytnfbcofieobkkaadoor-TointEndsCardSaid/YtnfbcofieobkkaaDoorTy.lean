/- The types of this translation, as a table; that it is right. (Laid by a program.) -/
import Derived.Test.YtnfbcofieobkkaaDoorK
import Derived.Test.YtnfbcofieobkkaaDoorChecked
import Derived.KernelRfl
import Derived.ChangeKeysEq
namespace Go.Proofs.YtnfbcofieobkkaaDoor
open Go Go.Proofs Ev

def ty2 : TI := ⟨.int .i64, 1, 8, [.int .i64 0]⟩
def ty3 : TI := ⟨.int .i64, 1, 8, [.int .i64 0]⟩
def ty4 : TI := ⟨.bool, 1, 1, [.bool false]⟩
def ty5 : TI := ⟨.int .u8, 1, 1, [.int .u8 0]⟩
def ty9 : TI := ⟨.str, 1, 16, [.string ⟨#[]⟩]⟩
def ty21 : TI := ⟨.int .i32, 1, 4, [.int .i32 0]⟩
def ty22 : TI := ⟨.int .u8, 1, 1, [.int .u8 0]⟩
def ty23 : TI := ⟨.int .u8, 1, 1, [.int .u8 0]⟩
def ty24 : TI := ⟨.int .u8, 1, 1, [.int .u8 0]⟩
def ty25 : TI := ⟨.int .u64, 1, 8, [.int .u64 0]⟩
def ty27 : TI := ⟨.struct [(0, 25), (1, 25)], 2, 16, [.int .u64 0, .int .u64 0]⟩
def ty28 : TI := ⟨.int .i64, 1, 8, [.int .i64 0]⟩
def ty33 : TI := ⟨.arr 6 25, 6, 48, [.int .u64 0, .int .u64 0, .int .u64 0, .int .u64 0, .int .u64 0, .int .u64 0]⟩
def ty40 : TI := ⟨.int .u8, 1, 1, [.int .u8 0]⟩
def ty46 : TI := ⟨.int .u32, 1, 4, [.int .u32 0]⟩
def ty63 : TI := ⟨.int .u8, 1, 1, [.int .u8 0]⟩
def ty65 : TI := ⟨.struct [(0, 63), (1, 33), (7, 3), (8, 33)], 14, 112, [.int .u8 0, .int .u64 0, .int .u64 0, .int .u64 0, .int .u64 0, .int .u64 0, .int .u64 0, .int .i64 0, .int .u64 0, .int .u64 0, .int .u64 0, .int .u64 0, .int .u64 0, .int .u64 0]⟩
def ty84 : TI := ⟨.struct [(0, 4), (1, 33), (7, 3), (8, 4)], 9, 72, [.bool false, .int .u64 0, .int .u64 0, .int .u64 0, .int .u64 0, .int .u64 0, .int .u64 0, .int .i64 0, .bool false]⟩
def ty92 : TI := ⟨.arr 3 65, 42, 336, [.int .u8 0, .int .u64 0, .int .u64 0, .int .u64 0, .int .u64 0, .int .u64 0, .int .u64 0, .int .i64 0, .int .u64 0, .int .u64 0, .int .u64 0, .int .u64 0, .int .u64 0, .int .u64 0, .int .u8 0, .int .u64 0, .int .u64 0, .int .u64 0, .int .u64 0, .int .u64 0, .int .u64 0, .int .i64 0, .int .u64 0, .int .u64 0, .int .u64 0, .int .u64 0, .int .u64 0, .int .u64 0, .int .u8 0, .int .u64 0, .int .u64 0, .int .u64 0, .int .u64 0, .int .u64 0, .int .u64 0, .int .i64 0, .int .u64 0, .int .u64 0, .int .u64 0, .int .u64 0, .int .u64 0, .int .u64 0]⟩
def ty101 : TI := ⟨.int .u64, 1, 8, [.int .u64 0]⟩
def ty106 : TI := ⟨.arr 2 25, 2, 16, [.int .u64 0, .int .u64 0]⟩
def ty107 : TI := ⟨.arr 4 106, 8, 64, [.int .u64 0, .int .u64 0, .int .u64 0, .int .u64 0, .int .u64 0, .int .u64 0, .int .u64 0, .int .u64 0]⟩
def ty116 : TI := ⟨.str, 1, 16, [.string ⟨#[]⟩]⟩
def ty118 : TI := ⟨.struct [(0, 4), (1, 116), (2, 116), (3, 3)], 4, 48, [.bool false, .string ⟨#[]⟩, .string ⟨#[]⟩, .int .i64 0]⟩
def ty130 : TI := ⟨.fn, 1, 8, [.nilFunc]⟩
def ty132 : TI := ⟨.struct [(0, 22), (1, 130)], 2, 16, [.int .u8 0, .nilFunc]⟩
def ty133 : TI := ⟨.arr 4 132, 8, 64, [.int .u8 0, .nilFunc, .int .u8 0, .nilFunc, .int .u8 0, .nilFunc, .int .u8 0, .nilFunc]⟩
def ty142 : TI := ⟨.slice 27, 1, 24, [.slice none 0 0]⟩
def ty143 : TI := ⟨.slice 65, 1, 24, [.slice none 0 0]⟩
def ty144 : TI := ⟨.arr 12 25, 12, 96, [.int .u64 0, .int .u64 0, .int .u64 0, .int .u64 0, .int .u64 0, .int .u64 0, .int .u64 0, .int .u64 0, .int .u64 0, .int .u64 0, .int .u64 0, .int .u64 0]⟩
def ty161 : TI := ⟨.struct [(0, 3), (1, 3), (2, 3), (3, 9)], 4, 40, [.int .i64 0, .int .i64 0, .int .i64 0, .string ⟨#[]⟩]⟩
def ty162 : TI := ⟨.arr 4 161, 16, 160, [.int .i64 0, .int .i64 0, .int .i64 0, .string ⟨#[]⟩, .int .i64 0, .int .i64 0, .int .i64 0, .string ⟨#[]⟩, .int .i64 0, .int .i64 0, .int .i64 0, .string ⟨#[]⟩, .int .i64 0, .int .i64 0, .int .i64 0, .string ⟨#[]⟩]⟩
def ty166 : TI := ⟨.slice 5, 1, 24, [.slice none 0 0]⟩
def tys : List (Nat × TI) := [(2, ty2), (3, ty3), (4, ty4), (5, ty5), (9, ty9), (21, ty21), (22, ty22), (23, ty23), (24, ty24), (25, ty25), (27, ty27), (28, ty28), (33, ty33), (40, ty40), (46, ty46), (63, ty63), (65, ty65), (84, ty84), (92, ty92), (101, ty101), (106, ty106), (107, ty107), (116, ty116), (118, ty118), (130, ty130), (132, ty132), (133, ty133), (142, ty142), (143, ty143), (144, ty144), (161, ty161), (162, ty162), (166, ty166)]

theorem zw_of {l : List Value} (h : l.all wfB = true) : ∀ c ∈ l, wf0 c := fun c hc => wfB_wf0 (List.all_eq_true.1 h c hc)
inductive TysOk (P : Program) : List (Nat × TI) → Prop
  | nil : TysOk P []
  | cons {t : TypeId} {i : TI} {l : List (Nat × TI)} (h : TIok P t i) (hl : TysOk P l) : TysOk P ((t, i) :: l)
theorem TysOk.get {P : Program} : ∀ {l : List (Nat × TI)}, TysOk P l → ∀ t i, lk t l = some i → TIok P t i
  | _, .nil, t, i, h => by cases h
  | _, .cons (t := t') h hl, t, i, hc => by
    rw [lk_cons] at hc
    split at hc
    · rename_i e; subst e; cases hc; exact h
    · exact hl.get t i hc

theorem ty2_ok : TIok Tryd.prog 2 ty2 := ⟨Tryd.underlying2, ⟨Tryd.t2, by kernel_rfl, by kernel_rfl, by kernel_rfl, by kernel_rfl⟩, by kernel_rfl, (fun h => by first | rfl | cases h), zw_of (by kernel_rfl)⟩
theorem ty3_ok : TIok Tryd.prog 3 ty3 := ⟨Tryd.underlying3, ⟨Tryd.t3, by kernel_rfl, by kernel_rfl, by kernel_rfl, by kernel_rfl⟩, by kernel_rfl, (fun h => by first | rfl | cases h), zw_of (by kernel_rfl)⟩
theorem ty4_ok : TIok Tryd.prog 4 ty4 := ⟨Tryd.underlying4, ⟨Tryd.t4, by kernel_rfl, by kernel_rfl, by kernel_rfl, by kernel_rfl⟩, by kernel_rfl, (fun h => by first | rfl | cases h), zw_of (by kernel_rfl)⟩
theorem ty5_ok : TIok Tryd.prog 5 ty5 := ⟨Tryd.underlying5, ⟨Tryd.t5, by kernel_rfl, by kernel_rfl, by kernel_rfl, by kernel_rfl⟩, by kernel_rfl, (fun h => by first | rfl | cases h), zw_of (by kernel_rfl)⟩
theorem ty9_ok : TIok Tryd.prog 9 ty9 := ⟨Tryd.underlying9, ⟨Tryd.t9, by kernel_rfl, by kernel_rfl, by kernel_rfl, by kernel_rfl⟩, by kernel_rfl, (fun h => by first | rfl | cases h), zw_of (by kernel_rfl)⟩
theorem ty21_ok : TIok Tryd.prog 21 ty21 := ⟨Tryd.underlying21, ⟨Tryd.t21, by kernel_rfl, by kernel_rfl, by kernel_rfl, by kernel_rfl⟩, by kernel_rfl, (fun h => by first | rfl | cases h), zw_of (by kernel_rfl)⟩
theorem ty22_ok : TIok Tryd.prog 22 ty22 := ⟨Tryd.underlying22, ⟨Tryd.t22, by kernel_rfl, by kernel_rfl, by kernel_rfl, by kernel_rfl⟩, by kernel_rfl, (fun h => by first | rfl | cases h), zw_of (by kernel_rfl)⟩
theorem ty23_ok : TIok Tryd.prog 23 ty23 := ⟨Tryd.underlying23, ⟨Tryd.t23, by kernel_rfl, by kernel_rfl, by kernel_rfl, by kernel_rfl⟩, by kernel_rfl, (fun h => by first | rfl | cases h), zw_of (by kernel_rfl)⟩
theorem ty24_ok : TIok Tryd.prog 24 ty24 := ⟨Tryd.underlying24, ⟨Tryd.t24, by kernel_rfl, by kernel_rfl, by kernel_rfl, by kernel_rfl⟩, by kernel_rfl, (fun h => by first | rfl | cases h), zw_of (by kernel_rfl)⟩
theorem ty25_ok : TIok Tryd.prog 25 ty25 := ⟨Tryd.underlying25, ⟨Tryd.t25, by kernel_rfl, by kernel_rfl, by kernel_rfl, by kernel_rfl⟩, by kernel_rfl, (fun h => by first | rfl | cases h), zw_of (by kernel_rfl)⟩
theorem ty27_ok : TIok Tryd.prog 27 ty27 := ⟨⟨_, Tryd.underlying27, (by kernel_rfl), fun f hf => List.all_eq_true.1 (show (List.all _ fun f : Field => (Tryd.prog.info? f.type).isSome) = true by kernel_rfl) f hf⟩, ⟨Tryd.t27, by kernel_rfl, by kernel_rfl, by kernel_rfl, by kernel_rfl⟩, by kernel_rfl, (fun h => by first | rfl | cases h), zw_of (by kernel_rfl)⟩
theorem ty28_ok : TIok Tryd.prog 28 ty28 := ⟨Tryd.underlying28, ⟨Tryd.t28, by kernel_rfl, by kernel_rfl, by kernel_rfl, by kernel_rfl⟩, by kernel_rfl, (fun h => by first | rfl | cases h), zw_of (by kernel_rfl)⟩
theorem ty33_ok : TIok Tryd.prog 33 ty33 := ⟨Tryd.underlying33, ⟨Tryd.t33, by kernel_rfl, by kernel_rfl, by kernel_rfl, by kernel_rfl⟩, by kernel_rfl, (fun h => by first | rfl | cases h), zw_of (by kernel_rfl)⟩
theorem ty40_ok : TIok Tryd.prog 40 ty40 := ⟨Tryd.underlying40, ⟨Tryd.t40, by kernel_rfl, by kernel_rfl, by kernel_rfl, by kernel_rfl⟩, by kernel_rfl, (fun h => by first | rfl | cases h), zw_of (by kernel_rfl)⟩
theorem ty46_ok : TIok Tryd.prog 46 ty46 := ⟨Tryd.underlying46, ⟨Tryd.t46, by kernel_rfl, by kernel_rfl, by kernel_rfl, by kernel_rfl⟩, by kernel_rfl, (fun h => by first | rfl | cases h), zw_of (by kernel_rfl)⟩
theorem ty63_ok : TIok Tryd.prog 63 ty63 := ⟨Tryd.underlying63, ⟨Tryd.t63, by kernel_rfl, by kernel_rfl, by kernel_rfl, by kernel_rfl⟩, by kernel_rfl, (fun h => by first | rfl | cases h), zw_of (by kernel_rfl)⟩
theorem ty65_ok : TIok Tryd.prog 65 ty65 := ⟨⟨_, Tryd.underlying65, (by kernel_rfl), fun f hf => List.all_eq_true.1 (show (List.all _ fun f : Field => (Tryd.prog.info? f.type).isSome) = true by kernel_rfl) f hf⟩, ⟨Tryd.t65, by kernel_rfl, by kernel_rfl, by kernel_rfl, by kernel_rfl⟩, by kernel_rfl, (fun h => by first | rfl | cases h), zw_of (by kernel_rfl)⟩
theorem ty84_ok : TIok Tryd.prog 84 ty84 := ⟨⟨_, Tryd.underlying84, (by kernel_rfl), fun f hf => List.all_eq_true.1 (show (List.all _ fun f : Field => (Tryd.prog.info? f.type).isSome) = true by kernel_rfl) f hf⟩, ⟨Tryd.t84, by kernel_rfl, by kernel_rfl, by kernel_rfl, by kernel_rfl⟩, by kernel_rfl, (fun h => by first | rfl | cases h), zw_of (by kernel_rfl)⟩
theorem ty92_ok : TIok Tryd.prog 92 ty92 := ⟨Tryd.underlying92, ⟨Tryd.t92, by kernel_rfl, by kernel_rfl, by kernel_rfl, by kernel_rfl⟩, by kernel_rfl, (fun h => by first | rfl | cases h), zw_of (by kernel_rfl)⟩
theorem ty101_ok : TIok Tryd.prog 101 ty101 := ⟨Tryd.underlying101, ⟨Tryd.t101, by kernel_rfl, by kernel_rfl, by kernel_rfl, by kernel_rfl⟩, by kernel_rfl, (fun h => by first | rfl | cases h), zw_of (by kernel_rfl)⟩
theorem ty106_ok : TIok Tryd.prog 106 ty106 := ⟨Tryd.underlying106, ⟨Tryd.t106, by kernel_rfl, by kernel_rfl, by kernel_rfl, by kernel_rfl⟩, by kernel_rfl, (fun h => by first | rfl | cases h), zw_of (by kernel_rfl)⟩
theorem ty107_ok : TIok Tryd.prog 107 ty107 := ⟨Tryd.underlying107, ⟨Tryd.t107, by kernel_rfl, by kernel_rfl, by kernel_rfl, by kernel_rfl⟩, by kernel_rfl, (fun h => by first | rfl | cases h), zw_of (by kernel_rfl)⟩
theorem ty116_ok : TIok Tryd.prog 116 ty116 := ⟨Tryd.underlying116, ⟨Tryd.t116, by kernel_rfl, by kernel_rfl, by kernel_rfl, by kernel_rfl⟩, by kernel_rfl, (fun h => by first | rfl | cases h), zw_of (by kernel_rfl)⟩
theorem ty118_ok : TIok Tryd.prog 118 ty118 := ⟨⟨_, Tryd.underlying118, (by kernel_rfl), fun f hf => List.all_eq_true.1 (show (List.all _ fun f : Field => (Tryd.prog.info? f.type).isSome) = true by kernel_rfl) f hf⟩, ⟨Tryd.t118, by kernel_rfl, by kernel_rfl, by kernel_rfl, by kernel_rfl⟩, by kernel_rfl, (fun h => by first | rfl | cases h), zw_of (by kernel_rfl)⟩
theorem ty130_ok : TIok Tryd.prog 130 ty130 := ⟨⟨(_, _, _), Tryd.underlying130⟩, ⟨Tryd.t130, by kernel_rfl, by kernel_rfl, by kernel_rfl, by kernel_rfl⟩, by kernel_rfl, (fun h => by first | rfl | cases h), zw_of (by kernel_rfl)⟩
theorem ty132_ok : TIok Tryd.prog 132 ty132 := ⟨⟨_, Tryd.underlying132, (by kernel_rfl), fun f hf => List.all_eq_true.1 (show (List.all _ fun f : Field => (Tryd.prog.info? f.type).isSome) = true by kernel_rfl) f hf⟩, ⟨Tryd.t132, by kernel_rfl, by kernel_rfl, by kernel_rfl, by kernel_rfl⟩, by kernel_rfl, (fun h => by first | rfl | cases h), zw_of (by kernel_rfl)⟩
theorem ty133_ok : TIok Tryd.prog 133 ty133 := ⟨Tryd.underlying133, ⟨Tryd.t133, by kernel_rfl, by kernel_rfl, by kernel_rfl, by kernel_rfl⟩, by kernel_rfl, (fun h => by first | rfl | cases h), zw_of (by kernel_rfl)⟩
theorem ty142_ok : TIok Tryd.prog 142 ty142 := ⟨Tryd.underlying142, ⟨Tryd.t142, by kernel_rfl, by kernel_rfl, by kernel_rfl, by kernel_rfl⟩, by kernel_rfl, (fun h => by first | rfl | cases h), zw_of (by kernel_rfl)⟩
theorem ty143_ok : TIok Tryd.prog 143 ty143 := ⟨Tryd.underlying143, ⟨Tryd.t143, by kernel_rfl, by kernel_rfl, by kernel_rfl, by kernel_rfl⟩, by kernel_rfl, (fun h => by first | rfl | cases h), zw_of (by kernel_rfl)⟩
theorem ty144_ok : TIok Tryd.prog 144 ty144 := ⟨Tryd.underlying144, ⟨Tryd.t144, by kernel_rfl, by kernel_rfl, by kernel_rfl, by kernel_rfl⟩, by kernel_rfl, (fun h => by first | rfl | cases h), zw_of (by kernel_rfl)⟩
theorem ty161_ok : TIok Tryd.prog 161 ty161 := ⟨⟨_, Tryd.underlying161, (by kernel_rfl), fun f hf => List.all_eq_true.1 (show (List.all _ fun f : Field => (Tryd.prog.info? f.type).isSome) = true by kernel_rfl) f hf⟩, ⟨Tryd.t161, by kernel_rfl, by kernel_rfl, by kernel_rfl, by kernel_rfl⟩, by kernel_rfl, (fun h => by first | rfl | cases h), zw_of (by kernel_rfl)⟩
theorem ty162_ok : TIok Tryd.prog 162 ty162 := ⟨Tryd.underlying162, ⟨Tryd.t162, by kernel_rfl, by kernel_rfl, by kernel_rfl, by kernel_rfl⟩, by kernel_rfl, (fun h => by first | rfl | cases h), zw_of (by kernel_rfl)⟩
theorem ty166_ok : TIok Tryd.prog 166 ty166 := ⟨Tryd.underlying166, ⟨Tryd.t166, by kernel_rfl, by kernel_rfl, by kernel_rfl, by kernel_rfl⟩, by kernel_rfl, (fun h => by first | rfl | cases h), zw_of (by kernel_rfl)⟩
theorem tys_ok : TysOk Tryd.prog tys := .cons ty2_ok (.cons ty3_ok (.cons ty4_ok (.cons ty5_ok (.cons ty9_ok (.cons ty21_ok (.cons ty22_ok (.cons ty23_ok (.cons ty24_ok (.cons ty25_ok (.cons ty27_ok (.cons ty28_ok (.cons ty33_ok (.cons ty40_ok (.cons ty46_ok (.cons ty63_ok (.cons ty65_ok (.cons ty84_ok (.cons ty92_ok (.cons ty101_ok (.cons ty106_ok (.cons ty107_ok (.cons ty116_ok (.cons ty118_ok (.cons ty130_ok (.cons ty132_ok (.cons ty133_ok (.cons ty142_ok (.cons ty143_ok (.cons ty144_ok (.cons ty161_ok (.cons ty162_ok (.cons ty166_ok (.nil)))))))))))))))))))))))))))))))))
def eqs : List (Nat × List CK) := [(27, [.i .u64, .i .u64]), (33, [.i .u64, .i .u64, .i .u64, .i .u64, .i .u64, .i .u64]), (118, [.b, .s, .s, .i .i64])]
theorem eq27_ok : EqOk Tryd.prog 27 [.i .u64, .i .u64] := EqOk.struct (by kernel_rfl) Tryd.underlying27 (by kernel_rfl) (.cons rfl (of_decide_eq_true rfl) Tryd.underlying25 (.cons rfl (of_decide_eq_true rfl) Tryd.underlying25 (.nil)))
theorem eq33_ok : EqOk Tryd.prog 33 (List.replicate 6 (.i .u64)) := EqOk.array (by kernel_rfl) Tryd.underlying33 (show Tryd.prog.info? 25 = some Tryd.t25 by kernel_rfl) (by kernel_rfl) Tryd.underlying25
theorem eq118_ok : EqOk Tryd.prog 118 [.b, .s, .s, .i .i64] := EqOk.struct (by kernel_rfl) Tryd.underlying118 (by kernel_rfl) (.cons rfl (of_decide_eq_true rfl) Tryd.underlying4 (.cons rfl (of_decide_eq_true rfl) Tryd.underlying116 (.cons rfl (of_decide_eq_true rfl) Tryd.underlying116 (.cons rfl (of_decide_eq_true rfl) Tryd.underlying3 (.nil)))))
theorem eqs_ok : EqsOk Tryd.prog eqs := .cons eq27_ok (.cons eq33_ok (.cons eq118_ok (.nil)))
theorem mkCfg {cs : List (FuncId × CT)} (h : CsOk Tryd.prog cs) (lp : List (Nat × LC)) (un : List (Nat × Nat)) (ks : List (Nat × List Nat)) (keep : List Nat) : CfgOk Tryd.prog { T := tys, EQ := eqs, C := cs, lp := lp, un := un, ks := ks, keep := keep } := ⟨tys_ok.get, eqs_ok.get, h.get⟩
theorem mix : Tryd.prog.follows .mixedOrders = true := by kernel_rfl

end Go.Proofs.YtnfbcofieobkkaaDoor
