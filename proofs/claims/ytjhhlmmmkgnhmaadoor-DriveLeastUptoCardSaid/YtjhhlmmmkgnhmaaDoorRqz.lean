/- What is read of a network is in order. -/
import Derived.Test.YtjhhlmmmkgnhmaaDoorRo
import Derived.Test.YtjhhlmmmkgnhmaaDoorRqd
namespace Go.Proofs.YtjhhlmmmkgnhmaaDoor
set_option linter.unusedSimpArgs false
set_option linter.unusedVariables false
set_option linter.unusedSectionVars false
theorem netI_of {n : T_api_Network} (h : T_api_Network.ok 1048576 n) : NetI n := by
  obtain ⟨⟨h1, h2⟩, ⟨h3, h4⟩, _⟩ := h
  refine ⟨h1, h3, h2, fun a ha => ?_⟩
  obtain ⟨_, _, _, _, ⟨h5, h6⟩, ⟨h7, h8⟩, _⟩ := h4 a ha
  exact ⟨h5, h7, fun p hp => ⟨(h6 p hp).1, (h6 p hp).2.1⟩, fun p hp => ⟨(h8 p hp).1, (h8 p hp).2.1⟩⟩
end Go.Proofs.YtjhhlmmmkgnhmaaDoor
