/- The types of this translation, as a table; that it is right. (Laid by a program.) -/
import Derived.Test.YtnfbcofieobkkaaGreatDoorK
import Derived.Test.YtnfbcofieobkkaaGreatDoorChecked
import Derived.KernelRfl
import Derived.ChangeKeysEq
namespace Go.Proofs.YtnfbcofieobkkaaGreatDoor
open Go Go.Proofs Ev

def ty2 : TI := ⟨.int .i64, 1, 8, [.int .i64 0]⟩
def ty3 : TI := ⟨.int .i64, 1, 8, [.int .i64 0]⟩
def ty4 : TI := ⟨.bool, 1, 1, [.bool false]⟩
def ty5 : TI := ⟨.int .u8, 1, 1, [.int .u8 0]⟩
def ty9 : TI := ⟨.str, 1, 16, [.string ⟨#[]⟩]⟩
def ty21 : TI := ⟨.int .i32, 1, 4, [.int .i32 0]⟩
def ty22 : TI := ⟨.int .u8, 1, 1, [.int .u8 0]⟩
def ty23 : TI := ⟨.int .u8, 1, 1, [.int .u8 0]⟩
def ty24 : TI := ⟨.int .u8, 1, 1, [.int .u8 0]⟩
def ty25 : TI := ⟨.int .u64, 1, 8, [.int .u64 0]⟩
def ty27 : TI := ⟨.struct [(0, 25), (1, 25)], 2, 16, [.int .u64 0, .int .u64 0]⟩
def ty28 : TI := ⟨.int .u8, 1, 1, [.int .u8 0]⟩
def ty29 : TI := ⟨.int .i64, 1, 8, [.int .i64 0]⟩
def ty59 : TI := ⟨.slice 27, 1, 24, [.slice none 0 0]⟩
def ty71 : TI := ⟨.arr 6 25, 6, 48, [.int .u64 0, .int .u64 0, .int .u64 0, .int .u64 0, .int .u64 0, .int .u64 0]⟩
def ty76 : TI := ⟨.int .u8, 1, 1, [.int .u8 0]⟩
def ty94 : TI := ⟨.struct [(0, 4), (1, 71), (7, 3), (8, 4)], 9, 72, [.bool false, .int .u64 0, .int .u64 0, .int .u64 0, .int .u64 0, .int .u64 0, .int .u64 0, .int .i64 0, .bool false]⟩
def ty96 : TI := ⟨.str, 1, 16, [.string ⟨#[]⟩]⟩
def ty98 : TI := ⟨.struct [(0, 4), (1, 96), (2, 96), (3, 3)], 4, 48, [.bool false, .string ⟨#[]⟩, .string ⟨#[]⟩, .int .i64 0]⟩
def ty103 : TI := ⟨.int .u32, 1, 4, [.int .u32 0]⟩
def ty104 : TI := ⟨.fn, 1, 8, [.nilFunc]⟩
def ty106 : TI := ⟨.struct [(0, 22), (1, 104)], 2, 16, [.int .u8 0, .nilFunc]⟩
def ty107 : TI := ⟨.arr 4 106, 8, 64, [.int .u8 0, .nilFunc, .int .u8 0, .nilFunc, .int .u8 0, .nilFunc, .int .u8 0, .nilFunc]⟩
def ty109 : TI := ⟨.int .u64, 1, 8, [.int .u64 0]⟩
def ty111 : TI := ⟨.struct [(0, 76), (1, 71), (7, 3), (8, 71)], 14, 112, [.int .u8 0, .int .u64 0, .int .u64 0, .int .u64 0, .int .u64 0, .int .u64 0, .int .u64 0, .int .i64 0, .int .u64 0, .int .u64 0, .int .u64 0, .int .u64 0, .int .u64 0, .int .u64 0]⟩
def ty123 : TI := ⟨.arr 3 111, 42, 336, [.int .u8 0, .int .u64 0, .int .u64 0, .int .u64 0, .int .u64 0, .int .u64 0, .int .u64 0, .int .i64 0, .int .u64 0, .int .u64 0, .int .u64 0, .int .u64 0, .int .u64 0, .int .u64 0, .int .u8 0, .int .u64 0, .int .u64 0, .int .u64 0, .int .u64 0, .int .u64 0, .int .u64 0, .int .i64 0, .int .u64 0, .int .u64 0, .int .u64 0, .int .u64 0, .int .u64 0, .int .u64 0, .int .u8 0, .int .u64 0, .int .u64 0, .int .u64 0, .int .u64 0, .int .u64 0, .int .u64 0, .int .i64 0, .int .u64 0, .int .u64 0, .int .u64 0, .int .u64 0, .int .u64 0, .int .u64 0]⟩
def ty139 : TI := ⟨.struct [(0, 5), (1, 5)], 2, 2, [.int .u8 0, .int .u8 0]⟩
def ty150 : TI := ⟨.arr 2 25, 2, 16, [.int .u64 0, .int .u64 0]⟩
def ty151 : TI := ⟨.arr 4 150, 8, 64, [.int .u64 0, .int .u64 0, .int .u64 0, .int .u64 0, .int .u64 0, .int .u64 0, .int .u64 0, .int .u64 0]⟩
def ty161 : TI := ⟨.slice 5, 1, 24, [.slice none 0 0]⟩
def ty190 : TI := ⟨.slice 111, 1, 24, [.slice none 0 0]⟩
def ty191 : TI := ⟨.arr 12 25, 12, 96, [.int .u64 0, .int .u64 0, .int .u64 0, .int .u64 0, .int .u64 0, .int .u64 0, .int .u64 0, .int .u64 0, .int .u64 0, .int .u64 0, .int .u64 0, .int .u64 0]⟩
def ty212 : TI := ⟨.struct [(0, 9), (1, 3), (2, 3), (3, 4)], 4, 40, [.string ⟨#[]⟩, .int .i64 0, .int .i64 0, .bool false]⟩
def ty217 : TI := ⟨.struct [(0, 3), (1, 3), (2, 3), (3, 9)], 4, 40, [.int .i64 0, .int .i64 0, .int .i64 0, .string ⟨#[]⟩]⟩
def ty218 : TI := ⟨.arr 4 217, 16, 160, [.int .i64 0, .int .i64 0, .int .i64 0, .string ⟨#[]⟩, .int .i64 0, .int .i64 0, .int .i64 0, .string ⟨#[]⟩, .int .i64 0, .int .i64 0, .int .i64 0, .string ⟨#[]⟩, .int .i64 0, .int .i64 0, .int .i64 0, .string ⟨#[]⟩]⟩
def tys : List (Nat × TI) := [(2, ty2), (3, ty3), (4, ty4), (5, ty5), (9, ty9), (21, ty21), (22, ty22), (23, ty23), (24, ty24), (25, ty25), (27, ty27), (28, ty28), (29, ty29), (59, ty59), (71, ty71), (76, ty76), (94, ty94), (96, ty96), (98, ty98), (103, ty103), (104, ty104), (106, ty106), (107, ty107), (109, ty109), (111, ty111), (123, ty123), (139, ty139), (150, ty150), (151, ty151), (161, ty161), (190, ty190), (191, ty191), (212, ty212), (217, ty217), (218, ty218)]

theorem zw_of {l : List Value} (h : l.all wfB = true) : ∀ c ∈ l, wf0 c := fun c hc => wfB_wf0 (List.all_eq_true.1 h c hc)
inductive TysOk (P : Program) : List (Nat × TI) → Prop
  | nil : TysOk P []
  | cons {t : TypeId} {i : TI} {l : List (Nat × TI)} (h : TIok P t i) (hl : TysOk P l) : TysOk P ((t, i) :: l)
theorem TysOk.get {P : Program} : ∀ {l : List (Nat × TI)}, TysOk P l → ∀ t i, lk t l = some i → TIok P t i
  | _, .nil, t, i, h => by cases h
  | _, .cons (t := t') h hl, t, i, hc => by
    rw [lk_cons] at hc
    split at hc
    · rename_i e; subst e; cases hc; exact h
    · exact hl.get t i hc

theorem ty2_ok : TIok Tryz.prog 2 ty2 := ⟨Tryz.underlying2, ⟨Tryz.t2, by kernel_rfl, by kernel_rfl, by kernel_rfl, by kernel_rfl⟩, by kernel_rfl, (fun h => by first | rfl | cases h), zw_of (by kernel_rfl)⟩
theorem ty3_ok : TIok Tryz.prog 3 ty3 := ⟨Tryz.underlying3, ⟨Tryz.t3, by kernel_rfl, by kernel_rfl, by kernel_rfl, by kernel_rfl⟩, by kernel_rfl, (fun h => by first | rfl | cases h), zw_of (by kernel_rfl)⟩
theorem ty4_ok : TIok Tryz.prog 4 ty4 := ⟨Tryz.underlying4, ⟨Tryz.t4, by kernel_rfl, by kernel_rfl, by kernel_rfl, by kernel_rfl⟩, by kernel_rfl, (fun h => by first | rfl | cases h), zw_of (by kernel_rfl)⟩
theorem ty5_ok : TIok Tryz.prog 5 ty5 := ⟨Tryz.underlying5, ⟨Tryz.t5, by kernel_rfl, by kernel_rfl, by kernel_rfl, by kernel_rfl⟩, by kernel_rfl, (fun h => by first | rfl | cases h), zw_of (by kernel_rfl)⟩
theorem ty9_ok : TIok Tryz.prog 9 ty9 := ⟨Tryz.underlying9, ⟨Tryz.t9, by kernel_rfl, by kernel_rfl, by kernel_rfl, by kernel_rfl⟩, by kernel_rfl, (fun h => by first | rfl | cases h), zw_of (by kernel_rfl)⟩
theorem ty21_ok : TIok Tryz.prog 21 ty21 := ⟨Tryz.underlying21, ⟨Tryz.t21, by kernel_rfl, by kernel_rfl, by kernel_rfl, by kernel_rfl⟩, by kernel_rfl, (fun h => by first | rfl | cases h), zw_of (by kernel_rfl)⟩
theorem ty22_ok : TIok Tryz.prog 22 ty22 := ⟨Tryz.underlying22, ⟨Tryz.t22, by kernel_rfl, by kernel_rfl, by kernel_rfl, by kernel_rfl⟩, by kernel_rfl, (fun h => by first | rfl | cases h), zw_of (by kernel_rfl)⟩
theorem ty23_ok : TIok Tryz.prog 23 ty23 := ⟨Tryz.underlying23, ⟨Tryz.t23, by kernel_rfl, by kernel_rfl, by kernel_rfl, by kernel_rfl⟩, by kernel_rfl, (fun h => by first | rfl | cases h), zw_of (by kernel_rfl)⟩
theorem ty24_ok : TIok Tryz.prog 24 ty24 := ⟨Tryz.underlying24, ⟨Tryz.t24, by kernel_rfl, by kernel_rfl, by kernel_rfl, by kernel_rfl⟩, by kernel_rfl, (fun h => by first | rfl | cases h), zw_of (by kernel_rfl)⟩
theorem ty25_ok : TIok Tryz.prog 25 ty25 := ⟨Tryz.underlying25, ⟨Tryz.t25, by kernel_rfl, by kernel_rfl, by kernel_rfl, by kernel_rfl⟩, by kernel_rfl, (fun h => by first | rfl | cases h), zw_of (by kernel_rfl)⟩
theorem ty27_ok : TIok Tryz.prog 27 ty27 := ⟨⟨_, Tryz.underlying27, (by kernel_rfl), fun f hf => List.all_eq_true.1 (show (List.all _ fun f : Field => (Tryz.prog.info? f.type).isSome) = true by kernel_rfl) f hf⟩, ⟨Tryz.t27, by kernel_rfl, by kernel_rfl, by kernel_rfl, by kernel_rfl⟩, by kernel_rfl, (fun h => by first | rfl | cases h), zw_of (by kernel_rfl)⟩
theorem ty28_ok : TIok Tryz.prog 28 ty28 := ⟨Tryz.underlying28, ⟨Tryz.t28, by kernel_rfl, by kernel_rfl, by kernel_rfl, by kernel_rfl⟩, by kernel_rfl, (fun h => by first | rfl | cases h), zw_of (by kernel_rfl)⟩
theorem ty29_ok : TIok Tryz.prog 29 ty29 := ⟨Tryz.underlying29, ⟨Tryz.t29, by kernel_rfl, by kernel_rfl, by kernel_rfl, by kernel_rfl⟩, by kernel_rfl, (fun h => by first | rfl | cases h), zw_of (by kernel_rfl)⟩
theorem ty59_ok : TIok Tryz.prog 59 ty59 := ⟨Tryz.underlying59, ⟨Tryz.t59, by kernel_rfl, by kernel_rfl, by kernel_rfl, by kernel_rfl⟩, by kernel_rfl, (fun h => by first | rfl | cases h), zw_of (by kernel_rfl)⟩
theorem ty71_ok : TIok Tryz.prog 71 ty71 := ⟨Tryz.underlying71, ⟨Tryz.t71, by kernel_rfl, by kernel_rfl, by kernel_rfl, by kernel_rfl⟩, by kernel_rfl, (fun h => by first | rfl | cases h), zw_of (by kernel_rfl)⟩
theorem ty76_ok : TIok Tryz.prog 76 ty76 := ⟨Tryz.underlying76, ⟨Tryz.t76, by kernel_rfl, by kernel_rfl, by kernel_rfl, by kernel_rfl⟩, by kernel_rfl, (fun h => by first | rfl | cases h), zw_of (by kernel_rfl)⟩
theorem ty94_ok : TIok Tryz.prog 94 ty94 := ⟨⟨_, Tryz.underlying94, (by kernel_rfl), fun f hf => List.all_eq_true.1 (show (List.all _ fun f : Field => (Tryz.prog.info? f.type).isSome) = true by kernel_rfl) f hf⟩, ⟨Tryz.t94, by kernel_rfl, by kernel_rfl, by kernel_rfl, by kernel_rfl⟩, by kernel_rfl, (fun h => by first | rfl | cases h), zw_of (by kernel_rfl)⟩
theorem ty96_ok : TIok Tryz.prog 96 ty96 := ⟨Tryz.underlying96, ⟨Tryz.t96, by kernel_rfl, by kernel_rfl, by kernel_rfl, by kernel_rfl⟩, by kernel_rfl, (fun h => by first | rfl | cases h), zw_of (by kernel_rfl)⟩
theorem ty98_ok : TIok Tryz.prog 98 ty98 := ⟨⟨_, Tryz.underlying98, (by kernel_rfl), fun f hf => List.all_eq_true.1 (show (List.all _ fun f : Field => (Tryz.prog.info? f.type).isSome) = true by kernel_rfl) f hf⟩, ⟨Tryz.t98, by kernel_rfl, by kernel_rfl, by kernel_rfl, by kernel_rfl⟩, by kernel_rfl, (fun h => by first | rfl | cases h), zw_of (by kernel_rfl)⟩
theorem ty103_ok : TIok Tryz.prog 103 ty103 := ⟨Tryz.underlying103, ⟨Tryz.t103, by kernel_rfl, by kernel_rfl, by kernel_rfl, by kernel_rfl⟩, by kernel_rfl, (fun h => by first | rfl | cases h), zw_of (by kernel_rfl)⟩
theorem ty104_ok : TIok Tryz.prog 104 ty104 := ⟨⟨(_, _, _), Tryz.underlying104⟩, ⟨Tryz.t104, by kernel_rfl, by kernel_rfl, by kernel_rfl, by kernel_rfl⟩, by kernel_rfl, (fun h => by first | rfl | cases h), zw_of (by kernel_rfl)⟩
theorem ty106_ok : TIok Tryz.prog 106 ty106 := ⟨⟨_, Tryz.underlying106, (by kernel_rfl), fun f hf => List.all_eq_true.1 (show (List.all _ fun f : Field => (Tryz.prog.info? f.type).isSome) = true by kernel_rfl) f hf⟩, ⟨Tryz.t106, by kernel_rfl, by kernel_rfl, by kernel_rfl, by kernel_rfl⟩, by kernel_rfl, (fun h => by first | rfl | cases h), zw_of (by kernel_rfl)⟩
theorem ty107_ok : TIok Tryz.prog 107 ty107 := ⟨Tryz.underlying107, ⟨Tryz.t107, by kernel_rfl, by kernel_rfl, by kernel_rfl, by kernel_rfl⟩, by kernel_rfl, (fun h => by first | rfl | cases h), zw_of (by kernel_rfl)⟩
theorem ty109_ok : TIok Tryz.prog 109 ty109 := ⟨Tryz.underlying109, ⟨Tryz.t109, by kernel_rfl, by kernel_rfl, by kernel_rfl, by kernel_rfl⟩, by kernel_rfl, (fun h => by first | rfl | cases h), zw_of (by kernel_rfl)⟩
theorem ty111_ok : TIok Tryz.prog 111 ty111 := ⟨⟨_, Tryz.underlying111, (by kernel_rfl), fun f hf => List.all_eq_true.1 (show (List.all _ fun f : Field => (Tryz.prog.info? f.type).isSome) = true by kernel_rfl) f hf⟩, ⟨Tryz.t111, by kernel_rfl, by kernel_rfl, by kernel_rfl, by kernel_rfl⟩, by kernel_rfl, (fun h => by first | rfl | cases h), zw_of (by kernel_rfl)⟩
theorem ty123_ok : TIok Tryz.prog 123 ty123 := ⟨Tryz.underlying123, ⟨Tryz.t123, by kernel_rfl, by kernel_rfl, by kernel_rfl, by kernel_rfl⟩, by kernel_rfl, (fun h => by first | rfl | cases h), zw_of (by kernel_rfl)⟩
theorem ty139_ok : TIok Tryz.prog 139 ty139 := ⟨⟨_, Tryz.underlying139, (by kernel_rfl), fun f hf => List.all_eq_true.1 (show (List.all _ fun f : Field => (Tryz.prog.info? f.type).isSome) = true by kernel_rfl) f hf⟩, ⟨Tryz.t139, by kernel_rfl, by kernel_rfl, by kernel_rfl, by kernel_rfl⟩, by kernel_rfl, (fun h => by first | rfl | cases h), zw_of (by kernel_rfl)⟩
theorem ty150_ok : TIok Tryz.prog 150 ty150 := ⟨Tryz.underlying150, ⟨Tryz.t150, by kernel_rfl, by kernel_rfl, by kernel_rfl, by kernel_rfl⟩, by kernel_rfl, (fun h => by first | rfl | cases h), zw_of (by kernel_rfl)⟩
theorem ty151_ok : TIok Tryz.prog 151 ty151 := ⟨Tryz.underlying151, ⟨Tryz.t151, by kernel_rfl, by kernel_rfl, by kernel_rfl, by kernel_rfl⟩, by kernel_rfl, (fun h => by first | rfl | cases h), zw_of (by kernel_rfl)⟩
theorem ty161_ok : TIok Tryz.prog 161 ty161 := ⟨Tryz.underlying161, ⟨Tryz.t161, by kernel_rfl, by kernel_rfl, by kernel_rfl, by kernel_rfl⟩, by kernel_rfl, (fun h => by first | rfl | cases h), zw_of (by kernel_rfl)⟩
theorem ty190_ok : TIok Tryz.prog 190 ty190 := ⟨Tryz.underlying190, ⟨Tryz.t190, by kernel_rfl, by kernel_rfl, by kernel_rfl, by kernel_rfl⟩, by kernel_rfl, (fun h => by first | rfl | cases h), zw_of (by kernel_rfl)⟩
theorem ty191_ok : TIok Tryz.prog 191 ty191 := ⟨Tryz.underlying191, ⟨Tryz.t191, by kernel_rfl, by kernel_rfl, by kernel_rfl, by kernel_rfl⟩, by kernel_rfl, (fun h => by first | rfl | cases h), zw_of (by kernel_rfl)⟩
theorem ty212_ok : TIok Tryz.prog 212 ty212 := ⟨⟨_, Tryz.underlying212, (by kernel_rfl), fun f hf => List.all_eq_true.1 (show (List.all _ fun f : Field => (Tryz.prog.info? f.type).isSome) = true by kernel_rfl) f hf⟩, ⟨Tryz.t212, by kernel_rfl, by kernel_rfl, by kernel_rfl, by kernel_rfl⟩, by kernel_rfl, (fun h => by first | rfl | cases h), zw_of (by kernel_rfl)⟩
theorem ty217_ok : TIok Tryz.prog 217 ty217 := ⟨⟨_, Tryz.underlying217, (by kernel_rfl), fun f hf => List.all_eq_true.1 (show (List.all _ fun f : Field => (Tryz.prog.info? f.type).isSome) = true by kernel_rfl) f hf⟩, ⟨Tryz.t217, by kernel_rfl, by kernel_rfl, by kernel_rfl, by kernel_rfl⟩, by kernel_rfl, (fun h => by first | rfl | cases h), zw_of (by kernel_rfl)⟩
theorem ty218_ok : TIok Tryz.prog 218 ty218 := ⟨Tryz.underlying218, ⟨Tryz.t218, by kernel_rfl, by kernel_rfl, by kernel_rfl, by kernel_rfl⟩, by kernel_rfl, (fun h => by first | rfl | cases h), zw_of (by kernel_rfl)⟩
theorem tys_ok : TysOk Tryz.prog tys := .cons ty2_ok (.cons ty3_ok (.cons ty4_ok (.cons ty5_ok (.cons ty9_ok (.cons ty21_ok (.cons ty22_ok (.cons ty23_ok (.cons ty24_ok (.cons ty25_ok (.cons ty27_ok (.cons ty28_ok (.cons ty29_ok (.cons ty59_ok (.cons ty71_ok (.cons ty76_ok (.cons ty94_ok (.cons ty96_ok (.cons ty98_ok (.cons ty103_ok (.cons ty104_ok (.cons ty106_ok (.cons ty107_ok (.cons ty109_ok (.cons ty111_ok (.cons ty123_ok (.cons ty139_ok (.cons ty150_ok (.cons ty151_ok (.cons ty161_ok (.cons ty190_ok (.cons ty191_ok (.cons ty212_ok (.cons ty217_ok (.cons ty218_ok (.nil)))))))))))))))))))))))))))))))))))
def eqs : List (Nat × List CK) := [(27, [.i .u64, .i .u64]), (71, [.i .u64, .i .u64, .i .u64, .i .u64, .i .u64, .i .u64]), (98, [.b, .s, .s, .i .i64]), (139, [.i .u8, .i .u8])]
theorem eq27_ok : EqOk Tryz.prog 27 [.i .u64, .i .u64] := EqOk.struct (by kernel_rfl) Tryz.underlying27 (by kernel_rfl) (.cons rfl (of_decide_eq_true rfl) Tryz.underlying25 (.cons rfl (of_decide_eq_true rfl) Tryz.underlying25 (.nil)))
theorem eq71_ok : EqOk Tryz.prog 71 (List.replicate 6 (.i .u64)) := EqOk.array (by kernel_rfl) Tryz.underlying71 (show Tryz.prog.info? 25 = some Tryz.t25 by kernel_rfl) (by kernel_rfl) Tryz.underlying25
theorem eq98_ok : EqOk Tryz.prog 98 [.b, .s, .s, .i .i64] := EqOk.struct (by kernel_rfl) Tryz.underlying98 (by kernel_rfl) (.cons rfl (of_decide_eq_true rfl) Tryz.underlying4 (.cons rfl (of_decide_eq_true rfl) Tryz.underlying96 (.cons rfl (of_decide_eq_true rfl) Tryz.underlying96 (.cons rfl (of_decide_eq_true rfl) Tryz.underlying3 (.nil)))))
theorem eq139_ok : EqOk Tryz.prog 139 [.i .u8, .i .u8] := EqOk.struct (by kernel_rfl) Tryz.underlying139 (by kernel_rfl) (.cons rfl (of_decide_eq_true rfl) Tryz.underlying5 (.cons rfl (of_decide_eq_true rfl) Tryz.underlying5 (.nil)))
theorem eqs_ok : EqsOk Tryz.prog eqs := .cons eq27_ok (.cons eq71_ok (.cons eq98_ok (.cons eq139_ok (.nil))))
theorem mkCfg {cs : List (FuncId × CT)} (h : CsOk Tryz.prog cs) (lp : List (Nat × LC)) (un : List (Nat × Nat)) (ks : List (Nat × List Nat)) (keep : List Nat) : CfgOk Tryz.prog { T := tys, EQ := eqs, C := cs, lp := lp, un := un, ks := ks, keep := keep } := ⟨tys_ok.get, eqs_ok.get, h.get⟩
theorem mix : Tryz.prog.follows .mixedOrders = true := by kernel_rfl

end Go.Proofs.YtnfbcofieobkkaaGreatDoor
