/- It is proved that for every input the law SqrtRoots (the root of any bits, by any format and mode) returns true and leaves its arguments as they were: the row. Conditions: the row's own (the table of math/bits is laid). -/
import Derived.Test.YtnfbcofieobkkaaGreatDoorRK
import Derived.Test.YtnfbcofieobkkaaGreatDoorAL14
import Derived.Test.YtnfbcofieobkkaaGreatDoorMQ
namespace Go.Proofs.YtnfbcofieobkkaaGreatDoor
open Go Go.Proofs Ev
open Go.Joins Go.ChangeShapes Go.WideShapes Go.ChangeAt Go.RowKit
set_option linter.unusedVariables false
set_option linter.unusedSimpArgs false

set_option maxRecDepth 100000 in
theorem sqrtRoots_lifted (os : Os) (started : os.Started) (H : Type) (enc : TypeId × Value → H) :
    ReturnsInHanded {} Tryz.checked os 8 .any (fun w args => (Rows.sqrtRootsSpec.pre enc Tryz.prog Tryz.f8 [] false w args ∧ laidMetH Tryz.prog laidL w) ∧ sizedMet enc Tryz.prog Tryz.f8 (OpenSpec.ofChange Rows.sqrtRootsSpec) false w args)
      (Rows.sqrtRootsSpec.post enc Tryz.prog Tryz.f8 false true false false) := by
  refine returnsInHanded_of_change_and (C := Tryz.checked) (X := fun w _ => laidMetH Tryz.prog laidL w) (fun _ _ _ hh h => h.of_heap hh) row_own started (by kernel_rfl) Tryz.func8
    (ChangeSpec.witness_shaped (enc := enc) (C := Tryz.checked) (os := os) (X := fun w _ => laidMetH Tryz.prog laidL w) false (World.laidAll Tryz.prog os laidL) #[.int .u8 0, .int .u8 0, .agg #[.int .u64 0, .int .u64 0]] 8 (World.laidAll_os _ _ _)
      (World.shaped_of_ZipB (by kernel_rfl) (by kernel_rfl)) (by kernel_rfl) (by kernel_rfl) (by kernel_rfl) (laid_door _)) ?_
  intro W base args ds gs before hval0 hW _ _ hL _
  have hval : ∀ (j : Nat) t v, Tryz.f8.params[j]? = some t → args[j]? = some v → Value.okWide Tryz.prog W .any base t v := hval0
  have hW' := hW
  obtain ⟨p, q, hA0, hV, rfl, hfz, hnd⟩ := hW
  have hA : DataW.TrodAll enc Tryz.prog W 0 (fun _ => true) true Tryz.f8.params.toList args.toList ds p := hA0
  rw [Tryz.params8] at hA hval
  obtain ⟨v0, v1, v2, d0, d1, d2, p0, p1, p2, rfl, rfl, rfl, h0, h1, h2⟩ := trodAll_three hA
  obtain ⟨rfl, rfl⟩ := trodVars_none hV
  obtain ⟨x0, rfl, rfl, rfl, wx0⟩ := open_int Tryz.underlying23 (hval 0 23 v0 rfl rfl) h0
  obtain ⟨x1, rfl, rfl, rfl, wx1⟩ := open_int Tryz.underlying24 (hval 1 24 v1 rfl rfl) h1
  obtain ⟨x2, y2, rfl, rfl, rfl, wx2, wy2⟩ := open_bits (hval 2 27 v2 rfl rfl) h2
  have hwi := WI_of_laid hL
  clear hA0 hval0
  simp only [List.append_nil] at hW'
  have hlaw : law14_SqrtRoots.g (x0) (x1) ⟨x2, y2⟩ = some true := by
    obtain ⟨n0, rfl, ln0⟩ := in_u8 wx0
    obtain ⟨n1, rfl, ln1⟩ := in_u8 wx1
    obtain ⟨b2, hb2, lb2⟩ := in_bits wx2 wy2
    rw [hb2]
    exact plain_SqrtRoots n0 n1 b2 ln0 ln1 lb2
  have hct : law14_SqrtRoots.ct Value [.v (.int .u8 x0), .v (.int .u8 x1), .v (.agg #[.int .u64 x2, .int .u64 y2])] (fun _ => none) some = some (.bool true) := by
    show (law14_SqrtRoots.g (x0) (x1) ⟨x2, y2⟩).bind (fun r => some (dB.enc r)) = some (.bool true)
    rw [hlaw]; rfl
  obtain ⟨v, hv, _, hcall⟩ := law14_SqrtRoots.ok.calls Value [.v (.int .u8 x0), .v (.int .u8 x1), .v (.agg #[.int .u64 x2, .int .u64 y2])] (fun _ => none) some (.bool true) hct (by
    intro a ha
    simp only [List.mem_cons, List.not_mem_nil, or_false] at ha
    rcases ha with rfl | rfl | rfl
    · exact av_int wx0
    · exact av_int wx1
    · exact av_bits wx2 wy2
    ) (fun _ _ h => by cases h)
  cases hv
  have hc := hcall (fun _ => 0) W hwi (by
    intro a ha l hl
    simp only [List.mem_cons, List.not_mem_nil, or_false] at ha
    rcases ha with rfl | rfl | rfl <;> cases hl)
  refine Calls.mono (show Calls Tryz.prog 8 #[.int .u8 x0, .int .u8 x1, .agg #[.int .u64 x2, .int .u64 y2]] W _ from hc) fun e W' ⟨he, hb⟩ => ?_
  subst he
  exact ⟨_, rfl, post_of_below (pa := []) (pv := []) hW' (fun _ _ _ => trodAll_mk1 (shut_bool Tryz.underlying4 _)) (fun sp _ => (trodAll_mk3 (shut_int Tryz.underlying23 wx0) (shut_int Tryz.underlying24 wx1) (shut_bits wx2 wy2))) (fun _ _ => rfl) rfl hb (ok_one (by kernel_rfl) rfl (okWide_bool_mk Tryz.underlying4 _))⟩

theorem sqrtRoots_holds : Rows.SqrtRootsSaid :=
  OpenClaim.holds_of_wide 8 Tryz.f8 rfl rfl rfl rfl rfl rfl rfl ⟨rfl, rfl, rfl, rfl, rfl⟩ rfl rfl rfl rfl rfl (by kernel_rfl) Tryz.func8 (by kernel_rfl)
    (of_decide_eq_true (by kernel_rfl)) (by unfold Func.isWrapper; first | (rw [if_pos (by decide +kernel)]; kernel_rfl) | (rw [if_neg (by decide +kernel)]; exact ⟨rfl, rfl⟩))
    (fun os started H enc _ => sqrtRoots_lifted os started H enc)

end Go.Proofs.YtnfbcofieobkkaaGreatDoor
