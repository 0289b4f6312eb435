/- Plain: NetworkSlower answers true. -/
import Derived.Test.YtjhhlmmmkgnhmaaDoorGqs
import Derived.Test.YtjhhlmmmkgnhmaaDoorGqg
namespace Go.Proofs.YtjhhlmmmkgnhmaaDoor
set_option linter.unusedSimpArgs false
set_option linter.unusedVariables false
set_option linter.unusedSectionVars false
theorem NetworkSlower_plain (n : T_api_Network) (hn : NetI n) (from_ to_ t ticks : Int) : lorrylaw09_NetworkSlower n from_ to_ t ticks = some true := by
  apply post.eq
  unfold lorrylaw09_NetworkSlower
  rw [examples09_ok]
  refine post_bnd (right09 hn) fun r hr => post_br (fun h => ?_) (fun _ => post_some.2 rfl)
  obtain ⟨hok, h60⟩ := hr h
  obtain ⟨s1, s2, s3⟩ := slowerS_arcs (from_ := from_) (to_ := to_) (t := t) (ticks := ticks) hok
  rw [slower_eq hok, bnd_some, ref_slower_eq hok, bnd_some, br_pos (by simp [eqI]), same_refl (by omega) (by omega) (fun x hx => by have := s3 x hx; omega), bnd_some]
  exact post_some.2 rfl
end Go.Proofs.YtjhhlmmmkgnhmaaDoor
