/- Made by gen.py: what is read at the types of the laws' parameters reads as plain data. -/
import Derived.Test.YtjhhlmmmkgnhmaaDoorGX
import Derived.Test.YtjhhlmmmkgnhmaaDoorGt
namespace Go.Proofs.YtjhhlmmmkgnhmaaDoor
set_option linter.unusedVariables false
set_option linter.unusedSectionVars false
set_option linter.unusedSimpArgs false
open Go.RowKit
variable {N : Nat}
theorem oq_9 : Opens Tryd.prog N 9 (rdE 1 e_str (fun s : ByteArray => s.size ≤ N) (fun _ => rfl)) := oe_str Tryd.underlying9 (by kernel_rfl)
theorem oq_22 : Opens Tryd.prog N 22 (rdE 1 (fun l : List ByteArray => [.sl false 1 (l.map e_str)]) (fun l : List (ByteArray) => l.length ≤ N ∧ ∀ x ∈ l, (fun s : ByteArray => s.size ≤ N) x) (fun _ => rfl)) := oe_slice Tryd.underlying22 (by kernel_rfl) oq_9 (by decide)
theorem oq_3 : Opens Tryd.prog N 3 (rdE 1 e_i64 isI (fun _ => rfl)) := oe_int Tryd.underlying3 (by kernel_rfl)
def T_api_Point.ok (N : Nat) (x : T_api_Point) : Prop := isI x.t ∧ isI x.a ∧ True
theorem oq_125 : Opens Tryd.prog N 125 (rdE 2 T_api_Point.enc (T_api_Point.ok N) (fun _ => rfl)) := oe_struct Tryd.underlying125 (by kernel_rfl) (.cons rfl oq_3 (.cons rfl oq_3 .nil)) rfl (HE.pair HE.rd (HE.pair HE.rd HE.unit)) (fun a => ⟨a.1, a.2.1⟩) (fun _ => rfl) (fun _ h => h)
theorem oq_29 : Opens Tryd.prog N 29 (rdE 1 (fun l : List T_api_Point => [.sl false 2 (l.map T_api_Point.enc)]) (fun l : List (T_api_Point) => l.length ≤ N ∧ ∀ x ∈ l, (T_api_Point.ok N) x) (fun _ => rfl)) := oe_slice Tryd.underlying29 (by kernel_rfl) oq_125 (by decide)
def T_api_Arc.ok (N : Nat) (x : T_api_Arc) : Prop := isI x.from_ ∧ isI x.to_ ∧ isI x.profile ∧ isI x.miles ∧ (fun l : List (T_api_Point) => l.length ≤ N ∧ ∀ x ∈ l, (T_api_Point.ok N) x) x.travel ∧ (fun l : List (T_api_Point) => l.length ≤ N ∧ ∀ x ∈ l, (T_api_Point.ok N) x) x.slow ∧ True
theorem oq_31 : Opens Tryd.prog N 31 (rdE 6 T_api_Arc.enc (T_api_Arc.ok N) (fun _ => rfl)) := oe_struct Tryd.underlying31 (by kernel_rfl) (.cons rfl oq_3 (.cons rfl oq_3 (.cons rfl oq_3 (.cons rfl oq_3 (.cons rfl oq_29 (.cons rfl oq_29 .nil)))))) rfl (HE.pair HE.rd (HE.pair HE.rd (HE.pair HE.rd (HE.pair HE.rd (HE.pair HE.rd (HE.pair HE.rd HE.unit)))))) (fun a => ⟨a.1, a.2.1, a.2.2.1, a.2.2.2.1, a.2.2.2.2.1, a.2.2.2.2.2.1⟩) (fun _ => rfl) (fun _ h => h)
theorem oq_23 : Opens Tryd.prog N 23 (rdE 1 (fun l : List T_api_Arc => [.sl false 6 (l.map T_api_Arc.enc)]) (fun l : List (T_api_Arc) => l.length ≤ N ∧ ∀ x ∈ l, (T_api_Arc.ok N) x) (fun _ => rfl)) := oe_slice Tryd.underlying23 (by kernel_rfl) oq_31 (by decide)
def T_api_Network.ok (N : Nat) (x : T_api_Network) : Prop := (fun l : List (ByteArray) => l.length ≤ N ∧ ∀ x ∈ l, (fun s : ByteArray => s.size ≤ N) x) x.places ∧ (fun l : List (T_api_Arc) => l.length ≤ N ∧ ∀ x ∈ l, (T_api_Arc.ok N) x) x.arcs ∧ True
theorem oq_25 : Opens Tryd.prog N 25 (rdE 2 T_api_Network.enc (T_api_Network.ok N) (fun _ => rfl)) := oe_struct Tryd.underlying25 (by kernel_rfl) (.cons rfl oq_22 (.cons rfl oq_23 .nil)) rfl (HE.pair HE.rd (HE.pair HE.rd HE.unit)) (fun a => ⟨a.1, a.2.1⟩) (fun _ => rfl) (fun _ h => h)
end Go.Proofs.YtjhhlmmmkgnhmaaDoor
