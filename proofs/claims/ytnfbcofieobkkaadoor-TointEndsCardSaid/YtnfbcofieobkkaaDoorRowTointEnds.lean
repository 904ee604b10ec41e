/- It is proved that for every input the law TointEnds (the ends of the ranges, and whole numbers without one) returns true and leaves its arguments as they were: the row. Conditions: the row's own (the table of math/bits is laid). -/
import Derived.Test.YtnfbcofieobkkaaDoorRK
import Derived.Test.YtnfbcofieobkkaaDoorAL19
import Derived.Test.YtnfbcofieobkkaaDoorNTE
namespace Go.Proofs.YtnfbcofieobkkaaDoor
open Go Go.Proofs Ev
open Go.Joins Go.ChangeShapes Go.WideShapes Go.ChangeAt Go.RowKit
set_option linter.unusedVariables false
set_option linter.unusedSimpArgs false

set_option maxRecDepth 100000 in
theorem tointEnds_lifted (os : Os) (started : os.Started) (H : Type) (enc : TypeId × Value → H) :
    ReturnsInHanded {} Tryd.checked os 3 .any (fun w args => (Rows.tointEndsSpec.pre enc Tryd.prog Tryd.f3 [] false w args ∧ laidMetH Tryd.prog laidL w) ∧ sizedMet enc Tryd.prog Tryd.f3 (OpenSpec.ofChange Rows.tointEndsSpec) false w args)
      (Rows.tointEndsSpec.post enc Tryd.prog Tryd.f3 false true false false) := by
  refine returnsInHanded_of_change_and (C := Tryd.checked) (X := fun w _ => laidMetH Tryd.prog laidL w) (fun _ _ _ hh h => h.of_heap hh) row_own started (by kernel_rfl) Tryd.func3
    (ChangeSpec.witness_shaped (enc := enc) (C := Tryd.checked) (os := os) (X := fun w _ => laidMetH Tryd.prog laidL w) false (World.laidAll Tryd.prog os laidL) #[.int .u8 0, .int .u8 0, .int .u8 0, .agg #[.int .u64 0, .int .u64 0]] 8 (World.laidAll_os _ _ _)
      (World.shaped_of_ZipB (by kernel_rfl) (by kernel_rfl)) (by kernel_rfl) (by kernel_rfl) (by kernel_rfl) (laid_door _)) ?_
  intro W base args ds gs before hval0 hW _ _ hL _
  have hval : ∀ (j : Nat) t v, Tryd.f3.params[j]? = some t → args[j]? = some v → Value.okWide Tryd.prog W .any base t v := hval0
  have hW' := hW
  obtain ⟨p, q, hA0, hV, rfl, hfz, hnd⟩ := hW
  have hA : DataW.TrodAll enc Tryd.prog W 0 (fun _ => true) true Tryd.f3.params.toList args.toList ds p := hA0
  rw [Tryd.params3] at hA hval
  obtain ⟨v0, v1, v2, v3, d0, d1, d2, d3, p0, p1, p2, p3, rfl, rfl, rfl, h0, h1, h2, h3⟩ := trodAll_four hA
  obtain ⟨rfl, rfl⟩ := trodVars_none hV
  obtain ⟨x0, rfl, rfl, rfl, wx0⟩ := open_int Tryd.underlying22 (hval 0 22 v0 rfl rfl) h0
  obtain ⟨x1, rfl, rfl, rfl, wx1⟩ := open_int Tryd.underlying23 (hval 1 23 v1 rfl rfl) h1
  obtain ⟨x2, rfl, rfl, rfl, wx2⟩ := open_int Tryd.underlying24 (hval 2 24 v2 rfl rfl) h2
  obtain ⟨x3, y3, rfl, rfl, rfl, wx3, wy3⟩ := open_bits (hval 3 27 v3 rfl rfl) h3
  have hwi := WI_of_laid hL
  clear hA0 hval0
  simp only [List.append_nil] at hW'
  have hlaw : law19_TointEnds.g (x0) (x1) (x2) ⟨x3, y3⟩ = some true := by
    obtain ⟨n0, rfl, ln0⟩ := in_u8 wx0
    obtain ⟨n1, rfl, ln1⟩ := in_u8 wx1
    obtain ⟨n2, rfl, ln2⟩ := in_u8 wx2
    obtain ⟨b3, hb3, lb3⟩ := in_bits wx3 wy3
    rw [hb3]
    exact plain_TointEnds n0 n1 n2 b3 ln0 ln1 ln2 lb3
  have hct : law19_TointEnds.ct Value [.v (.int .u8 x0), .v (.int .u8 x1), .v (.int .u8 x2), .v (.agg #[.int .u64 x3, .int .u64 y3])] (fun _ => none) some = some (.bool true) := by
    show (law19_TointEnds.g (x0) (x1) (x2) ⟨x3, y3⟩).bind (fun r => some (dB.enc r)) = some (.bool true)
    rw [hlaw]; rfl
  obtain ⟨v, hv, _, hcall⟩ := law19_TointEnds.ok.calls Value [.v (.int .u8 x0), .v (.int .u8 x1), .v (.int .u8 x2), .v (.agg #[.int .u64 x3, .int .u64 y3])] (fun _ => none) some (.bool true) hct (by
    intro a ha
    simp only [List.mem_cons, List.not_mem_nil, or_false] at ha
    rcases ha with rfl | rfl | rfl | rfl
    · exact av_int wx0
    · exact av_int wx1
    · exact av_int wx2
    · exact av_bits wx3 wy3
    ) (fun _ _ h => by cases h)
  cases hv
  have hc := hcall (fun _ => 0) W hwi (by
    intro a ha l hl
    simp only [List.mem_cons, List.not_mem_nil, or_false] at ha
    rcases ha with rfl | rfl | rfl | rfl <;> cases hl)
  refine Calls.mono (show Calls Tryd.prog 3 #[.int .u8 x0, .int .u8 x1, .int .u8 x2, .agg #[.int .u64 x3, .int .u64 y3]] W _ from hc) fun e W' ⟨he, hb⟩ => ?_
  subst he
  exact ⟨_, rfl, post_of_below (pa := []) (pv := []) hW' (fun _ _ _ => trodAll_mk1 (shut_bool Tryd.underlying4 _)) (fun sp _ => (trodAll_mk4 (shut_int Tryd.underlying22 wx0) (shut_int Tryd.underlying23 wx1) (shut_int Tryd.underlying24 wx2) (shut_bits wx3 wy3))) (fun _ _ => rfl) rfl hb (ok_one (by kernel_rfl) rfl (okWide_bool_mk Tryd.underlying4 _))⟩

theorem tointEnds_holds : Rows.TointEndsSaid :=
  OpenClaim.holds_of_wide 3 Tryd.f3 rfl rfl rfl rfl rfl rfl rfl ⟨rfl, rfl, rfl, rfl, rfl⟩ rfl rfl rfl rfl rfl (by kernel_rfl) Tryd.func3 (by kernel_rfl)
    (of_decide_eq_true (by kernel_rfl)) (by unfold Func.isWrapper; first | (rw [if_pos (by decide +kernel)]; kernel_rfl) | (rw [if_neg (by decide +kernel)]; exact ⟨rfl, rfl⟩))
    (fun os started H enc _ => tointEnds_lifted os started H enc)

end Go.Proofs.YtnfbcofieobkkaaDoor
