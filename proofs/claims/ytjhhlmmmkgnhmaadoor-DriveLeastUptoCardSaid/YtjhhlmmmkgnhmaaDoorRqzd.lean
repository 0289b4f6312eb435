/- What is read of an instance, a route, is in order. -/
import Derived.Test.YtjhhlmmmkgnhmaaDoorRqz
import Derived.Test.YtjhhlmmmkgnhmaaDoorRqk
namespace Go.Proofs.YtjhhlmmmkgnhmaaDoor
set_option linter.unusedSimpArgs false
set_option linter.unusedVariables false
set_option linter.unusedSectionVars false
theorem instI_of {x : T_api_Instance} (h : T_api_Instance.ok 1048576 x) : InstI x := by
  obtain ⟨h0, ⟨h1, h2⟩, ⟨h3, h4⟩, ⟨h5, _⟩, ⟨h6, _⟩, _⟩ := h
  refine ⟨netI_of h0, h1, h3, h5, h6, fun t ht => ?_, fun o ho => ?_⟩
  · obtain ⟨a, _, _, _, ⟨b, _⟩, _⟩ := h2 t ht
    exact ⟨a, b⟩
  · obtain ⟨a, ⟨b, _⟩, _⟩ := h4 o ho
    exact ⟨a, b⟩
theorem routeI_of {r : T_api_Route} (h : T_api_Route.ok 1048576 r) : RouteI r := by
  obtain ⟨h0, h1, ⟨h2, _⟩, ⟨h3, _⟩, _⟩ := h
  exact ⟨h0, h1, h2, h3⟩
theorem more_of {n : Int} (h : (Lit.int .u8 n).wf = true) : 0 ≤ n ∧ n ≤ 255 := by
  simp only [Lit.wf, Bool.and_eq_true, decide_eq_true_eq] at h
  exact h
theorem times_of {s : T_api_Sheet} (h : T_api_Sheet.ok 1048576 s) : s.times.length ≤ 1048576 := h.2.2.1.1
end Go.Proofs.YtjhhlmmmkgnhmaaDoor
