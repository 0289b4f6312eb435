/- PriceUnserved: the law answers true at every input that the statement speaks of. -/
import Derived.Test.YtcmbckcjklociaaI
import Derived.Test.YtcmbckcjklociaaLaw
namespace Go.Proofs.Ytcmbckcjklociaa
open Go.ChangeShapes Go.WideShapes Go.ChangeAt Go.RowKit

set_option maxRecDepth 100000 in
set_option maxHeartbeats 1000000 in
theorem priceUnserved_lifted (os : Os) (started : os.Started) (H : Type) (enc : TypeId × Value → H) :
    ReturnsInHanded {} Try.checked os 6 .any (Rows.priceUnservedSpec.pre6 enc Try.prog Try.f6 Rows.priceUnservedRow.domain false) (Rows.priceUnservedSpec.post enc Try.prog Try.f6 false true false false) := by
  refine returnsInHanded_of_change (C := Try.checked) Try.own started (by kernel_rfl) Try.func6
    (ChangeSpec.witness6 (enc := enc) (C := Try.checked) false ⟨#[], #[.slice none 0 0, .int .i64 0], []⟩ 8 (by kernel_rfl) (by kernel_rfl) (by kernel_rfl) (by kernel_rfl)) ?_
  intro W base args ds gs before hval0 hW _ _
  have hval : ∀ (j : Nat) t v, Try.f6.params[j]? = some t → args[j]? = some v → Value.okWide Try.prog W .any base t v := hval0
  have hW' := hW
  obtain ⟨p, q, hA0, hV, rfl, hfz, hnd⟩ := hW
  have hA : DataW.TrodAll enc Try.prog W 0 (fun _ => true) true Try.f6.params.toList args.toList ds p := hA0
  rw [Try.params6] at hA hval
  obtain ⟨v0, v1, d0, d1, p0, p1, rfl, rfl, rfl, h0, h1⟩ := trodAll_two hA
  obtain ⟨rfl, rfl⟩ := trodVars_none hV
  obtain ⟨_, _, _, rfl⟩ := okWide_slice Try.underlying27 (hval 0 27 v0 rfl rfl)
  obtain ⟨_, h0⟩ := h0
  obtain ⟨x0, hx0⟩ := o_ords.opens _ _ _ _ _ _ h0
  obtain ⟨t1, rfl, rfl, rfl, ht1⟩ := open_int Try.underlying3 (hval 1 3 v1 rfl rfl) h1
  refine (unserved_true W _ x0 hx0 t1 (i64_bounds ht1)).mono fun e W' ⟨he, hb⟩ => ?_
  exact ⟨_, he, law_post Try.laidOut (by kernel_rfl) rfl rfl rfl Try.underlying4 hW' hb⟩

theorem priceUnserved_holds : Rows.PriceUnservedSaid :=
  OpenClaim.holds_of_wide 6 Try.f6 rfl rfl rfl rfl rfl rfl rfl ⟨rfl, rfl, rfl, rfl, rfl⟩ rfl rfl rfl rfl rfl (by kernel_rfl) Try.func6 (by kernel_rfl)
    (of_decide_eq_true (by kernel_rfl)) (by unfold Func.isWrapper; first | (rw [if_pos (by decide +kernel)]; kernel_rfl) | (rw [if_neg (by decide +kernel)]; exact ⟨rfl, rfl⟩))
    (fun os started H enc _ => priceUnserved_lifted os started H enc)
#print axioms priceUnserved_holds
end Go.Proofs.Ytcmbckcjklociaa
