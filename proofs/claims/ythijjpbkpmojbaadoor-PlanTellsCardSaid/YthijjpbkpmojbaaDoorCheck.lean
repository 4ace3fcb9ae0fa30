import Derived.Test.YthijjpbkpmojbaaDoorNodes
namespace Go.Proofs.YthijjpbkpmojbaaDoor
open Go.RowKit Tw
attribute [local go_sem] max2_int min2_int max_two min_two
attribute [local go_sem high] eqNode
set_option linter.unusedVariables false
set_option linter.unusedSimpArgs false

/-! ### nodes.check, nodes.Check -/
/-- The error of a list of nodes. -/
def chk (l : List Nd) : Int :=
  if 60 < l.length then 4 else
    match nrun [] l with
    | some [t] => if 20 < t.depth then 34 else 0
    | _ => 8
def CheckPost (l : List Nd) (w : World) (e : Ending) (w' : World) : Prop := Below w.heap.size w w' ∧ ∃ v, e = .returned (.tuple #[v, .int .i64 (chk l)])
set_option maxHeartbeats 1000000 in
theorem nodes_check_calls (A : Option Addr) (c : Nat) (l : List Nd) (w : World) (hr : RdN w A l) : Calls Tryd.prog 57 #[.slice A l.length c] w (CheckPost l w) := by
  by_cases h60 : 60 < l.length
  · have d1 : decide (60 < l.length) = true := decide_eq_true h60
    have e1 : chk l = 4 := by unfold chk; rw [if_pos h60]
    have E1 := Lib.hid e1
    clear e1
    go_enter Tryd.func57, Tryd.ntmps57
    go_wp2
    go_ret2
    exact ⟨Below.refl _ _, _, by rw [E1.out]; rfl⟩
  · have d1 : decide (60 < l.length) = false := decide_eq_false h60
    go_enter Tryd.func57, Tryd.ntmps57
    go_wp2_with fail
    refine (tops_calls A c l (by omega) _ hr).mono ?_
    rintro e w1 ⟨hB, v, b, rfl, hyes, hno⟩
    cases b with
    | false =>
      have e1 : chk l = 8 := by
        unfold chk
        rw [if_neg h60]
        split
        · rename_i t ht; exact absurd ht (hno rfl t)
        · rfl
      have E1 := Lib.hid e1
      clear e1 hno hyes
      go_wp2
      go_ret2
      exact ⟨hB, _, by rw [E1.out]; rfl⟩
    | true =>
      obtain ⟨t, g, c', hrun, rfl, hcell⟩ := hyes rfl
      clear hno hyes
      have hpos : 0 < l.length := by
        rcases l with _ | ⟨x, l⟩
        · cases hrun
        · simp
      have e1 : chk l = if 20 < t.depth then 34 else 0 := by unfold chk; rw [if_neg h60, hrun]
      have hw : IntKind.i64.wrap ((l.length : Int) - 1) = ((l.length - 1 : Nat) : Int) := by rw [IntWalk.i64_in _ (by omega)]; omega
      have E1 := Lib.hid e1
      clear e1 hrun
      by_cases h20 : 20 < t.depth
      · have d2 : decide ((20 : Int) < (t.depth : Int)) = true := decide_eq_true (by omega)
        have d3 : decide (20 < t.depth) = true := decide_eq_true h20
        rw [if_pos h20] at E1
        go_wp2
        go_ret2
        exact ⟨hB, _, by rw [E1.out]; rfl⟩
      · have d2 : decide ((20 : Int) < (t.depth : Int)) = false := decide_eq_false (by omega)
        have d3 : decide (20 < t.depth) = false := decide_eq_false h20
        rw [if_neg h20] at E1
        go_wp2
        go_ret2
        exact ⟨hB, _, by rw [E1.out]; rfl⟩
set_option maxHeartbeats 1000000 in
theorem nodes_Check_calls (A : Option Addr) (c : Nat) (l : List Nd) (w : World) (hr : RdN w A l) : Calls Tryd.prog 43 #[.slice A l.length c] w fun e w' => e = .returned (.int .i64 (chk l)) ∧ Below w.heap.size w w' := by
  go_enter Tryd.func43, Tryd.ntmps43
  go_wp2_with fail
  refine (nodes_check_calls A c l _ hr).mono ?_
  rintro e w1 ⟨hB, v, rfl⟩
  go_wp2
  go_ret
  exact ⟨rfl, hB⟩
end Go.Proofs.YthijjpbkpmojbaaDoor
