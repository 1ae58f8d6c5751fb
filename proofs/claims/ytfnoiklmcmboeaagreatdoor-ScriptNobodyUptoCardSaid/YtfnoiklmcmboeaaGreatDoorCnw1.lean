import Derived.Test.YtfnoiklmcmboeaaGreatDoorEvE
import Derived.Test.YtfnoiklmcmboeaaGreatDoorFq
import Derived.KernelRfl
set_option linter.unusedSectionVars false
set_option linter.unusedVariables false
set_option linter.unusedSimpArgs false
-- conn.New with any configuration: what it calls (EvHp EvOwn)
namespace Go.Proofs.YtfnoiklmcmboeaaGreatDoor.cnw
open Go hiding Fn
open Ev tab
def rowsOf : CR → V
  | .ret v _ => v
  | _ => .un
/-- the table that never changes -/
def stat : V := rowsOf (callF Fq 100 2 false 128 [] h0)
theorem stat_eq : ∃ es, es.length = 61 ∧ stat = .vs 2 es := by
  refine ⟨(match stat with | .vs _ es => es | _ => []), ?_, ?_⟩ <;> kernel_rfl
theorem all_go (N M : Nat) (hp : Hp) : callF Fq (N + 100) (M + 2) false 128 [] hp = .ret stat hp := by kernel_rfl
theorem all_ok (hp : Hp) : EvC Fq false 128 [] hp (.ret stat hp) := ⟨100, fun L n h1 h2 => by
  obtain ⟨N, rfl⟩ : ∃ N, L = N + 100 := ⟨L - 100, by omega⟩
  obtain ⟨M, rfl⟩ : ∃ M, n = M + 2 := ⟨n - 2, by omega⟩
  exact all_go N M hp⟩
end Go.Proofs.YtfnoiklmcmboeaaGreatDoor.cnw
