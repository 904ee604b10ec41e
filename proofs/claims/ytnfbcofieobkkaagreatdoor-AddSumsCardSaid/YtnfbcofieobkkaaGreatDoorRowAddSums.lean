/- It is proved that for every input the law AddSums (the sum and the difference of any bits, by any format and mode) returns true and leaves its arguments as they were: the row. Conditions: the row's own (the table of math/bits is laid). -/
import Derived.Test.YtnfbcofieobkkaaGreatDoorRK
import Derived.Test.YtnfbcofieobkkaaGreatDoorAL11
import Derived.Test.YtnfbcofieobkkaaGreatDoorMA2
namespace Go.Proofs.YtnfbcofieobkkaaGreatDoor
open Go Go.Proofs Ev
open Go.Joins Go.ChangeShapes Go.WideShapes Go.ChangeAt Go.RowKit
set_option linter.unusedVariables false
set_option linter.unusedSimpArgs false

set_option maxRecDepth 100000 in
theorem addSums_lifted (os : Os) (started : os.Started) (H : Type) (enc : TypeId × Value → H) :
    ReturnsInHanded {} Tryz.checked os 11 .any (fun w args => (Rows.addSumsSpec.pre enc Tryz.prog Tryz.f11 [] false w args ∧ laidMetH Tryz.prog laidL w) ∧ sizedMet enc Tryz.prog Tryz.f11 (OpenSpec.ofChange Rows.addSumsSpec) false w args)
      (Rows.addSumsSpec.post enc Tryz.prog Tryz.f11 false true false false) := by
  refine returnsInHanded_of_change_and (C := Tryz.checked) (X := fun w _ => laidMetH Tryz.prog laidL w) (fun _ _ _ hh h => h.of_heap hh) row_own started (by kernel_rfl) Tryz.func11
    (ChangeSpec.witness_shaped (enc := enc) (C := Tryz.checked) (os := os) (X := fun w _ => laidMetH Tryz.prog laidL w) false (World.laidAll Tryz.prog os laidL) #[.int .u8 0, .int .u8 0, .agg #[.int .u64 0, .int .u64 0], .agg #[.int .u64 0, .int .u64 0]] 8 (World.laidAll_os _ _ _)
      (World.shaped_of_ZipB (by kernel_rfl) (by kernel_rfl)) (by kernel_rfl) (by kernel_rfl) (by kernel_rfl) (laid_door _)) ?_
  intro W base args ds gs before hval0 hW _ _ hL _
  have hval : ∀ (j : Nat) t v, Tryz.f11.params[j]? = some t → args[j]? = some v → Value.okWide Tryz.prog W .any base t v := hval0
  have hW' := hW
  obtain ⟨p, q, hA0, hV, rfl, hfz, hnd⟩ := hW
  have hA : DataW.TrodAll enc Tryz.prog W 0 (fun _ => true) true Tryz.f11.params.toList args.toList ds p := hA0
  rw [Tryz.params11] at hA hval
  obtain ⟨v0, v1, v2, v3, d0, d1, d2, d3, p0, p1, p2, p3, rfl, rfl, rfl, h0, h1, h2, h3⟩ := trodAll_four hA
  obtain ⟨rfl, rfl⟩ := trodVars_none hV
  obtain ⟨x0, rfl, rfl, rfl, wx0⟩ := open_int Tryz.underlying23 (hval 0 23 v0 rfl rfl) h0
  obtain ⟨x1, rfl, rfl, rfl, wx1⟩ := open_int Tryz.underlying24 (hval 1 24 v1 rfl rfl) h1
  obtain ⟨x2, y2, rfl, rfl, rfl, wx2, wy2⟩ := open_bits (hval 2 27 v2 rfl rfl) h2
  obtain ⟨x3, y3, rfl, rfl, rfl, wx3, wy3⟩ := open_bits (hval 3 27 v3 rfl rfl) h3
  have hwi := WI_of_laid hL
  clear hA0 hval0
  simp only [List.append_nil] at hW'
  have hlaw : law11_AddSums.g (x0) (x1) ⟨x2, y2⟩ ⟨x3, y3⟩ = some true := by
    obtain ⟨n0, rfl, ln0⟩ := in_u8 wx0
    obtain ⟨n1, rfl, ln1⟩ := in_u8 wx1
    obtain ⟨b2, hb2, lb2⟩ := in_bits wx2 wy2
    obtain ⟨b3, hb3, lb3⟩ := in_bits wx3 wy3
    rw [hb2, hb3]
    exact plain_AddSums n0 n1 b2 b3 ln0 ln1 lb2 lb3
  have hct : law11_AddSums.ct Value [.v (.int .u8 x0), .v (.int .u8 x1), .v (.agg #[.int .u64 x2, .int .u64 y2]), .v (.agg #[.int .u64 x3, .int .u64 y3])] (fun _ => none) some = some (.bool true) := by
    show (law11_AddSums.g (x0) (x1) ⟨x2, y2⟩ ⟨x3, y3⟩).bind (fun r => some (dB.enc r)) = some (.bool true)
    rw [hlaw]; rfl
  obtain ⟨v, hv, _, hcall⟩ := law11_AddSums.ok.calls Value [.v (.int .u8 x0), .v (.int .u8 x1), .v (.agg #[.int .u64 x2, .int .u64 y2]), .v (.agg #[.int .u64 x3, .int .u64 y3])] (fun _ => none) some (.bool true) hct (by
    intro a ha
    simp only [List.mem_cons, List.not_mem_nil, or_false] at ha
    rcases ha with rfl | rfl | rfl | rfl
    · exact av_int wx0
    · exact av_int wx1
    · exact av_bits wx2 wy2
    · exact av_bits wx3 wy3
    ) (fun _ _ h => by cases h)
  cases hv
  have hc := hcall (fun _ => 0) W hwi (by
    intro a ha l hl
    simp only [List.mem_cons, List.not_mem_nil, or_false] at ha
    rcases ha with rfl | rfl | rfl | rfl <;> cases hl)
  refine Calls.mono (show Calls Tryz.prog 11 #[.int .u8 x0, .int .u8 x1, .agg #[.int .u64 x2, .int .u64 y2], .agg #[.int .u64 x3, .int .u64 y3]] W _ from hc) fun e W' ⟨he, hb⟩ => ?_
  subst he
  exact ⟨_, rfl, post_of_below (pa := []) (pv := []) hW' (fun _ _ _ => trodAll_mk1 (shut_bool Tryz.underlying4 _)) (fun sp _ => (trodAll_mk4 (shut_int Tryz.underlying23 wx0) (shut_int Tryz.underlying24 wx1) (shut_bits wx2 wy2) (shut_bits wx3 wy3))) (fun _ _ => rfl) rfl hb (ok_one (by kernel_rfl) rfl (okWide_bool_mk Tryz.underlying4 _))⟩

theorem addSums_holds : Rows.AddSumsSaid :=
  OpenClaim.holds_of_wide 11 Tryz.f11 rfl rfl rfl rfl rfl rfl rfl ⟨rfl, rfl, rfl, rfl, rfl⟩ rfl rfl rfl rfl rfl (by kernel_rfl) Tryz.func11 (by kernel_rfl)
    (of_decide_eq_true (by kernel_rfl)) (by unfold Func.isWrapper; first | (rw [if_pos (by decide +kernel)]; kernel_rfl) | (rw [if_neg (by decide +kernel)]; exact ⟨rfl, rfl⟩))
    (fun os started H enc _ => addSums_lifted os started H enc)

end Go.Proofs.YtnfbcofieobkkaaGreatDoor
