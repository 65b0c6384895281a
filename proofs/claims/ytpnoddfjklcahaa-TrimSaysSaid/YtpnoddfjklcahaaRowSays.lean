/- shoallaw18.TrimSays: for every input the law's call returns true, and all that lay in memory reads as it did. No condition beyond the statement's own. -/

import Derived.Test.YtpnoddfjklcahaaRows
import Derived.Test.YtpnoddfjklcahaaLwSays
import Derived.Test.YtpnoddfjklcahaaLv16

set_option linter.all false
namespace Go.Proofs.Ytpnoddfjklcahaa
open Go Go.Lv Go.RowKit Go.Shoal


open Go.ChangeShapes Go.WideShapes Go.ChangeAt
theorem ownKnob_Try : ownKnob Try.prog.godebug = none := by kernel_rfl
theorem laidOut_Try : laidOutB Try.prog = true := by kernel_rfl

set_option maxHeartbeats 800000 in
set_option maxRecDepth 100000 in
theorem lifted_trimSays (os : Os) (started : os.Started) (H : Type) (enc : TypeId × Value → H) :
    ReturnsInHanded {} Try.checked os 9 .any (Rows.trimSaysSpec.pre6 enc Try.prog Try.f9 Rows.trimSaysRow.domain false) (Rows.trimSaysSpec.post enc Try.prog Try.f9 false true false false) := by
  refine returnsInHanded_of_change_sized (C := Try.checked) ownKnob_Try started (by kernel_rfl) Try.func9
    (ChangeSpec.witness6 (enc := enc) (C := Try.checked) false ⟨#[], #[.slice none 0 0, .slice none 0 0, .agg #[.int .i64 0, .int .u64 0, .int .u64 0], .int .u64 0, .int .i64 0], []⟩ 8 (by kernel_rfl) (by kernel_rfl) (by kernel_rfl) (by kernel_rfl)) ?_
  intro W base args ds gs before hval0 hW _ hsz0 _
  have hval : ∀ (j : Nat) t v, Try.f9.params[j]? = some t → args[j]? = some v → Value.okWide Try.prog W .any base t v := hval0
  have hW' := hW
  obtain ⟨p, q, hA0, hV, rfl, hfz, _⟩ := hW
  have hA : DataW.TrodAll enc Try.prog W 0 (fun _ => true) true Try.f9.params.toList args.toList ds p := hA0
  rw [Try.params9] at hA hval
  obtain ⟨v0, v1, v2, v3, v4, d0, d1, d2, d3, d4, p0, p1, p2, p3, p4, rfl, rfl, rfl, h0, h1, h2, h3, h4⟩ := trodAll_five hA
  obtain ⟨rfl, rfl⟩ := trodVars_none hV
  obtain ⟨a0, n0, c0, rfl⟩ := okWide_slice Try.underlying39 (hval 0 39 v0 rfl rfl)
  obtain ⟨fuel0, hf0⟩ := h0
  obtain ⟨A_l, c_l, l, hcs0, hle_l, hm_l, hr_l⟩ := open_list encEn Try.underlying39 (by kernel_rfl) (fun n cs y h => open_en Try.underlying51 Try.underlying3 Try.underlying32 Try.underlying49 (by kernel_rfl) (by kernel_rfl) (by kernel_rfl) h) hf0
  simp only [Value.cells, List.cons.injEq, Value.slice.injEq, and_true] at hcs0
  obtain ⟨rfl, rfl, rfl⟩ := hcs0
  obtain ⟨a1, n1, c1, rfl⟩ := okWide_slice Try.underlying39 (hval 1 39 v1 rfl rfl)
  obtain ⟨fuel1, hf1⟩ := h1
  obtain ⟨A_l2, c_l2, l2, hcs1, hle_l2, hm_l2, hr_l2⟩ := open_list encEn Try.underlying39 (by kernel_rfl) (fun n cs y h => open_en Try.underlying51 Try.underlying3 Try.underlying32 Try.underlying49 (by kernel_rfl) (by kernel_rfl) (by kernel_rfl) h) hf1
  simp only [Value.cells, List.cons.injEq, Value.slice.injEq, and_true] at hcs1
  obtain ⟨rfl, rfl, rfl⟩ := hcs1
  obtain ⟨cs2, rfl, hz2⟩ := okWide_struct Try.underlying51 (hval 2 51 v2 rfl rfl)
  obtain ⟨fuel2, hf2⟩ := h2
  obtain ⟨x, hx2⟩ := open_en Try.underlying51 Try.underlying3 Try.underlying32 Try.underlying49 (by kernel_rfl) (by kernel_rfl) (by kernel_rfl) hf2
  obtain rfl : cs2 = (encEn.enc x).toArray := by rw [← hx2]; simp [Value.cells]
  obtain ⟨x3, rfl, rfl, rfl, wx3⟩ := open_int Try.underlying32 (hval 3 32 v3 rfl rfl) h3
  obtain ⟨to, rfl⟩ := wf_u64 wx3
  obtain ⟨d, rfl, rfl, rfl, wx4⟩ := open_int Try.underlying3 (hval 4 3 v4 rfl rfl) h4
  have hb_d := wf_i64 wx4
  refine (law_calls (says_law W _ _ l hr_l _ _ l2 hr_l2 x to d)).mono fun e W' ⟨he, hb⟩ => ?_
  subst he
  exact ⟨_, rfl, law_post hW' rfl rfl Try.underlying4 rfl laidOut_Try (by kernel_rfl) hb⟩

theorem trimSays_holds : Rows.TrimSaysSaid :=
  OpenClaim.holds_of_wide 9 Try.f9 rfl rfl rfl rfl rfl rfl rfl ⟨rfl, rfl, rfl, rfl, rfl⟩ rfl rfl rfl rfl rfl (by kernel_rfl) Try.func9 (by kernel_rfl)
    (of_decide_eq_true (by kernel_rfl)) (by unfold Func.isWrapper; first | (rw [if_pos (by decide +kernel)]; kernel_rfl) | (rw [if_neg (by decide +kernel)]; exact ⟨rfl, rfl⟩))
    (fun os started H enc _ => lifted_trimSays os started H enc)

end Go.Proofs.Ytpnoddfjklcahaa
