/- PriceWeighs: Weight and Compare return what is specified, splitting a price returns its score, and right scores are compared as their prices are. For every two scores. -/
import Derived.Test.YtcmbckcjklociaaH
import Derived.Test.YtcmbckcjklociaaLaw
import Derived.Lib.SmallJoins
namespace Go.Proofs.Ytcmbckcjklociaa
open Go.ChangeShapes Go.WideShapes Go.ChangeAt Go.RowKit Go.Joins

theorem cellsScoreW : Try.prog.cellsOf 41 = 4 := by kernel_rfl

set_option maxRecDepth 100000 in
theorem priceWeighs_lifted (os : Os) (started : os.Started) (H : Type) (enc : TypeId × Value → H) :
    ReturnsInHanded {} Try.checked os 7 .any (Rows.priceWeighsSpec.pre6 enc Try.prog Try.f7 Rows.priceWeighsRow.domain false) (Rows.priceWeighsSpec.post enc Try.prog Try.f7 false true false false) := by
  refine returnsInHanded_of_change (C := Try.checked) Try.own started (by kernel_rfl) Try.func7
    (ChangeSpec.witness6 (enc := enc) (C := Try.checked) false ⟨#[], #[.agg #[.int .i64 0, .int .i64 0, .int .i64 0, .int .i64 0], .agg #[.int .i64 0, .int .i64 0, .int .i64 0, .int .i64 0]], []⟩ 8 (by kernel_rfl) (by kernel_rfl) (by kernel_rfl) (by kernel_rfl)) ?_
  intro W base args ds gs before hval0 hW _ _
  have hval : ∀ (j : Nat) t v, Try.f7.params[j]? = some t → args[j]? = some v → Value.okWide Try.prog W .any base t v := hval0
  have hW' := hW
  obtain ⟨p, q, hA0, hV, rfl, hfz, hnd⟩ := hW
  have hA : DataW.TrodAll enc Try.prog W 0 (fun _ => true) true Try.f7.params.toList args.toList ds p := hA0
  rw [Try.params7] at hA hval
  obtain ⟨v0, v1, d0, d1, p0, p1, rfl, rfl, rfl, h0, h1⟩ := trodAll_two hA
  obtain ⟨rfl, rfl⟩ := trodVars_none hV
  obtain ⟨a0, a1, a2, a3, y0, y1, y2, y3, m, rfl, rfl, rfl, k0, k1, k2, k3⟩ := open_agg4 Try.underlying41 (by kernel_rfl) cellsScoreW (hval 0 41 v0 rfl rfl) h0
  obtain ⟨b0, b1, b2, b3, z0, z1, z2, z3, m', rfl, rfl, rfl, l0, l1, l2, l3⟩ := open_agg4 Try.underlying41 (by kernel_rfl) cellsScoreW (hval 1 41 v1 rfl rfl) h1
  obtain ⟨n0, e0, _, _⟩ := DataW.trod_int Try.underlying3 k0
  obtain ⟨n1, e1, _, _⟩ := DataW.trod_int Try.underlying3 k1
  obtain ⟨n2, e2, _, _⟩ := DataW.trod_int Try.underlying3 k2
  obtain ⟨n3, e3, _, _⟩ := DataW.trod_int Try.underlying3 k3
  obtain ⟨o0, g0, _, _⟩ := DataW.trod_int Try.underlying3 l0
  obtain ⟨o1, g1, _, _⟩ := DataW.trod_int Try.underlying3 l1
  obtain ⟨o2, g2, _, _⟩ := DataW.trod_int Try.underlying3 l2
  obtain ⟨o3, g3, _, _⟩ := DataW.trod_int Try.underlying3 l3
  simp only [List.cons.injEq, and_true] at e0 e1 e2 e3 g0 g1 g2 g3
  subst e0 e1 e2 e3 g0 g1 g2 g3
  refine (weighs_true _ _ _ _ _ _ _ _ W).mono fun e W' ⟨he, hb⟩ => ?_
  exact ⟨_, he, law_post Try.laidOut (by kernel_rfl) rfl rfl rfl Try.underlying4 hW' hb⟩

theorem priceWeighs_holds : Rows.PriceWeighsSaid :=
  OpenClaim.holds_of_wide 7 Try.f7 rfl rfl rfl rfl rfl rfl rfl ⟨rfl, rfl, rfl, rfl, rfl⟩ rfl rfl rfl rfl rfl (by kernel_rfl) Try.func7 (by kernel_rfl)
    (of_decide_eq_true (by kernel_rfl)) (by unfold Func.isWrapper; first | (rw [if_pos (by decide +kernel)]; kernel_rfl) | (rw [if_neg (by decide +kernel)]; exact ⟨rfl, rfl⟩))
    (fun os started H enc _ => priceWeighs_lifted os started H enc)
#print axioms priceWeighs_holds
end Go.Proofs.Ytcmbckcjklociaa
