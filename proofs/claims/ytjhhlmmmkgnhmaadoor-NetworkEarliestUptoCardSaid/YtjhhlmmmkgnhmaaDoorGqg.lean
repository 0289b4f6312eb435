/- Plain: NetworkGoes answers true. -/
import Derived.Test.YtjhhlmmmkgnhmaaDoorGqe
namespace Go.Proofs.YtjhhlmmmkgnhmaaDoor
set_option linter.unusedSimpArgs false
set_option linter.unusedVariables false
set_option linter.unusedSectionVars false
set_option maxRecDepth 100000 in
theorem examples09_ok : lorrylaw09_examples = some true := by kernel_rfl
theorem right09 {n : T_api_Network} (hn : NetI n) : post (lorrylaw09_right n) fun r => r = true → NetOK n ∧ n.arcs.length ≤ 60 := by
  unfold lorrylaw09_right
  refine post_br (fun h => post_bnd (ref09_Check_post hn) fun r hr => post_some.2 fun h' => ⟨hr.2 ?_, ?_⟩) (fun _ => post_some.2 fun h => by cases h)
  · simp only [eqI_t, lenI] at h'
    exact List.length_eq_zero_iff.1 (by omega)
  · simp only [leI_t, lenI] at h; omega
theorem tick09 (t : Int) : lorrylaw09_tick t = some (decide (0 ≤ t ∧ t ≤ 1048576)) := by
  unfold lorrylaw09_tick
  congr 1
  rw [Bool.eq_iff_iff, andT, geI_t, leI_t, decide_eq_true_iff]
theorem NetworkGoes_plain (n : T_api_Network) (hn : NetI n) (profile from_ to_ t : Int) : lorrylaw09_NetworkGoes n profile from_ to_ t = some true := by
  apply post.eq
  unfold lorrylaw09_NetworkGoes
  rw [examples09_ok]
  refine post_bnd (right09 hn) fun r hr => post_br (fun h => ?_) (fun _ => post_some.2 rfl)
  obtain ⟨hok, h60⟩ := hr h
  rw [tick09, bnd_some]
  refine post_br (fun ht => ?_) (fun _ => post_some.2 rfl)
  have ht' : inT t := by have := of_decide_eq_true ht; unfold inT; omega
  have hal := hok.arcs
  rw [find_eq (by omega), bnd_some, ref09_Find_eq (by omega), bnd_some, go_eq hok _ _ _ ht', bnd_some, ref09_Go_eq hok _ _ _ ht', bnd_some, br_pos (by simp)]
  have hsame : lorryref09_SameArc (findA n profile from_ to_).1 (findA n profile from_ to_).1 = some true := by
    cases h2 : (findA n profile from_ to_).2 with
    | true =>
      have := hn.arcI _ (findA_mem h2).1
      exact sameArc_refl this.travel this.slow
    | false =>
      refine sameArc_refl ?_ ?_ <;> · unfold findA at h2 ⊢; cases hf : n.arcs.find? (isArc profile from_ to_) with
        | none => exact Nat.zero_le _
        | some a => rw [hf] at h2; cases h2
  rw [hsame, bnd_some, br_pos (by simp [eqI])]
  exact post_some.2 rfl
end Go.Proofs.YtjhhlmmmkgnhmaaDoor
