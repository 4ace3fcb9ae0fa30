import Derived.Test.YthijjpbkpmojbaaDoorFirst
import Derived.Test.YthijjpbkpmojbaaDoorConst
/-! The reference of layers 4, 6, 8: functions without loops. -/
namespace Go.Proofs.YthijjpbkpmojbaaDoor
open Go.RowKit Tw
attribute [local go_sem high] eqNode
set_option linter.unusedVariables false
set_option linter.unusedSimpArgs false
set_option maxHeartbeats 400000 in
theorem great04_calls (A : Option Addr) (c n : Nat) (w : World) (hn : n ≤ 9223372036854775807) : Calls Tryd.prog 12 #[.slice A n c] w fun e w' => e = .returned (.bool (decide (70 < n))) ∧ w = w' := by
  go_enter Tryd.func12, Tryd.ntmps12
  go_wp2
  all_goals
    go_ret
    exact ⟨ret_bool (by simp; try omega), rfl⟩
def cnt (k : Int) : Int := if k ≤ 4 then 0 else if k ≤ 6 then 1 else 2
set_option maxHeartbeats 400000 in
theorem count_calls (k : Int) (w : World) : Calls Tryd.prog 74 #[.int .u8 k] w fun e w' => e = .returned (.int .i64 (cnt k)) ∧ w = w' := by
  go_enter Tryd.func74, Tryd.ntmps74
  go_wp2
  all_goals
    go_ret
    refine ⟨ret_int ?_, rfl⟩
    unfold cnt; (repeat' split) <;> omega
/-- Is a node by itself right, with parts that are told? -/
def rightB (x : Nd) (a b : Int) : Bool := decide (1 ≤ x.f0 ∧ x.f0 ≤ 19 ∧ 0 ≤ x.f1 ∧ (x.f1 = 0 ∨ x.f0 = 1) ∧ 0 ≤ x.f4 ∧ x.f4 ≤ 400 ∧ x.f2 = a ∧ x.f3 = b)
set_option maxHeartbeats 1000000 in
theorem right_calls (x : Nd) (a b : Int) (w : World) : Calls Tryd.prog 75 #[ndval x, .int .i64 a, .int .i64 b] w fun e w' => e = .returned (.bool (rightB x a b)) ∧ Below w.heap.size w w' := by
  obtain ⟨x0, x1, x2, x3, x4⟩ := x
  unfold ndval
  simp only
  go_enter Tryd.func75, Tryd.ntmps75
  go_wp2
  all_goals
    go_ret
    refine ⟨ret_bool ?_, below_alloc (Below.refl _ _) _⟩
    simp only [rightB]
    try simp only [beq_iff_eq, beq_eq_false_iff_ne, ne_eq] at *
    first
      | (rw [decide_eq_true (by omega)])
      | (rw [decide_eq_false (by omega)])
      | (rw [Bool.eq_iff_iff]; simp only [beq_iff_eq, decide_eq_true_eq]; omega)
set_option maxHeartbeats 400000 in
theorem gives_calls (k : Int) (w : World) : Calls Tryd.prog 77 #[.int .u8 k] w fun e w' => e = .returned (.bool (givesK k)) ∧ w = w' := by
  go_enter Tryd.func77, Tryd.ntmps77
  go_wp2
  all_goals
    go_ret
    refine ⟨ret_bool ?_, rfl⟩
    simp [givesK, *]
set_option maxHeartbeats 1000000 in
theorem fits08_calls (k s e : Int) (w : World) (hs : s ≤ 9223372036854775807) : Calls Tryd.prog 49 #[.agg #[.int .u8 k, .int .i64 s, .int .i64 e]] w fun r w' => r = .returned (.bool (decide (win k s e = 0))) ∧ Below w.heap.size w w' := by
  go_enter Tryd.func49, Tryd.ntmps49
  go_wp2
  all_goals
    go_ret
    refine ⟨ret_bool (Bool.eq_iff_iff.2 ?_), below_alloc (Below.refl _ _) _⟩
    try simp only [beq_iff_eq, beq_eq_false_iff_ne, ne_eq] at *
    simp only [decide_eq_true_eq, beq_iff_eq, Bool.false_eq_true, win]
    (repeat' split) <;> first | omega | (simp <;> omega)
end Go.Proofs.YthijjpbkpmojbaaDoor
