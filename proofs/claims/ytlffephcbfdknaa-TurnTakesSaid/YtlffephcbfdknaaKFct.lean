/- The fact that TurnTakes asks first: a small automaton, turned. -/
import Derived.Test.YtlffephcbfdknaaKTrn
set_option linter.unusedVariables false
set_option linter.unusedSimpArgs false
namespace Go.Proofs.Ytlffephcbfdknaa.Wk
open Go.Proofs.Fil
def T0 : Tab := [[0, 1], [0, 1]]
def e0 : List Bool := [false, true]
def M0 : Tab := [[1, 2], [1, 1], [2, 2]]
def f0 : List Bool := [false, false, true]
theorem wf0 : WF 2 T0 e0 := ⟨by decide, by decide, by decide, by decide⟩
theorem wfM0 : WF 2 M0 f0 := ⟨by decide, by decide, by decide, by decide⟩
theorem can0 : Go.Proofs.Fil.Can 2 (lof 2 (T0, e0) 0) (T0, e0) := by
  have h := outOf_can wf0 (j := 1) (by decide)
  rwa [show outOf T0 e0 (clsAt T0 e0 (ordOf T0) (1 + 1)) (ordOf T0) = (T0, e0) by decide] at h
theorem canM0 : Go.Proofs.Fil.Can 2 (lof 2 (M0, f0) 0) (M0, f0) := by
  have h := outOf_can wfM0 (j := 2) (by decide)
  rwa [show outOf M0 f0 (clsAt M0 f0 (ordOf M0) (2 + 1)) (ordOf M0) = (M0, f0) by decide] at h
theorem turnO0 : turnO 2 T0 e0 = [[1], [], [0, 1]] := by
  unfold turnO
  rw [bfsI_stop (succs 2 (turnD T0)) (nrm (fin e0 T0.length)) (i := 3) (by decide +kernel) (by decide)]
  decide +kernel
theorem turnA0 : turnA 2 T0 e0 = (M0, f0) := by unfold turnA; rw [turnO0]; decide +kernel
end Go.Proofs.Ytlffephcbfdknaa.Wk
