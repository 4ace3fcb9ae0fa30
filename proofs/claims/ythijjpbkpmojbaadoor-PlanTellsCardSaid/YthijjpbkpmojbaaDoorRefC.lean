import Derived.Test.YthijjpbkpmojbaaDoorRefB
/-! The reference: Alike. -/
namespace Go.Proofs.YthijjpbkpmojbaaDoor
open Go.RowKit Tw
attribute [local go_sem high] eqNode
set_option linter.unusedVariables false
set_option linter.unusedSimpArgs false
/-- A node without its place. -/
def strip (x : Nd) : Nd := ⟨x.f0, x.f1, x.f2, x.f3, 0⟩
theorem strip_eq {x y : Nd} (h : (!x.f0 == y.f0) = false ∧ (!x.f1 == y.f1) = false ∧ (!x.f2 == y.f2) = false ∧ (!x.f3 == y.f3) = false) : strip x = strip y := by
  simp only [Bool.not_eq_false', beq_iff_eq] at h
  simp [strip, h]
theorem strip_ne {x y : Nd} (h : (!x.f0 == y.f0) = true ∨ (!x.f1 == y.f1) = true ∨ (!x.f2 == y.f2) = true ∨ (!x.f3 == y.f3) = true) : strip x ≠ strip y := by
  simp only [Bool.not_eq_true', beq_eq_false_iff_ne] at h
  simp only [strip, ne_eq, Nd.mk.injEq]
  omega
end Go.Proofs.YthijjpbkpmojbaaDoor
