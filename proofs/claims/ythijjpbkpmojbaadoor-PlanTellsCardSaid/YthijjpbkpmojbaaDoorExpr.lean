import Derived.Test.YthijjpbkpmojbaaDoorWrite
import Derived.Test.YthijjpbkpmojbaaDoorOf
/-! printer.Expr: an expression as text. -/
namespace Go.Proofs.YthijjpbkpmojbaaDoor
open Go.RowKit Tw
set_option linter.unusedVariables false
set_option linter.unusedSimpArgs false
theorem bu_new (w : World) : Bu w.heap.size w.heap.size [] (w.alloc (.cells #[.pointer none, .slice none 0 0] TB)) := by
  refine .inl ⟨Nat.le_refl _, .slice none 0 0, heap_alloc_new w _, ?_, ?_⟩
  · exact World.ownsRowF_nil _ _ _ _
  · simp [Value.ownBlock]
set_option maxHeartbeats 1000000 in
set_option maxRecDepth 100000 in
theorem expr_calls (A : Option Addr) (c : Nat) (l : List Nd) (t : T) (hl : l = t.flat 0) (hwf : t.wf) (hfit : t.fit) (hsz : t.size ≤ 60) (hchk : chk l = 0) (w : World) (hR : RdN w A l) (hT : Tab w) :
    Calls Tryd.prog 35 #[.slice A l.length c] w fun e w' => e = .returned (.tuple #[.string ⟨(bt 0 t).toArray⟩, .int .i64 0]) ∧ Below w.heap.size w w' := by
  have hln : l.length = t.size := by rw [hl, T.flat_length]
  have hat : AtL l 0 t := by rw [hl]; exact atL_flat t
  have hc := nodes_Check_calls A c l w hR
  rw [hchk] at hc
  have hsp := t.size_pos
  have hx : ∀ w1, Below w.heap.size w w1 → Calls Tryd.prog 52 #[.pointer (some ⟨w1.heap.size, 0, none⟩), .slice A l.length c, .int .i64 ((l.length : Int) - 1), .int .i64 0] (w1.alloc (.cells #[.pointer none, .slice none 0 0] TB)) fun e w' => e = .returned (.tuple #[]) ∧ Bu w1.heap.size w1.heap.size (bt 0 t) w' ∧ Below w1.heap.size w1 w' := by
    intro w1 hb1
    have hx := write_calls w1 A c l (hR.below hb1) (hT.below hb1) w1.heap.size t 0 0 [] _ (below_alloc (Below.refl w1.heap.size w1) (.cells #[.pointer none, .slice none 0 0] TB)) (bu_new w1) hat hwf hfit (by omega) (by simp only [List.length_nil]; omega)
    have hi : ((0 : Nat) : Int) + (t.size : Int) - 1 = (l.length : Int) - 1 := by omega
    rw [hi, List.nil_append, show ((0 : Nat) : Int) = 0 from rfl] at hx
    exact hx.mono fun e w' h => ⟨h.1, h.2.1, Below.trans (below_alloc (Below.refl w1.heap.size w1) _) h.2.2.1⟩
  have hl60 : l.length ≤ 60 := by omega
  have hl1 : 1 ≤ l.length := by omega
  have hlw : Go.RowKit.wrap64 ((l.length : Int) - 1) = (l.length : Int) - 1 := by unfold Go.RowKit.wrap64; omega
  clear hl hln
  go_enter Tryd.func35, Tryd.ntmps35
  go_wp2_with (first
    | (go_at_call 43; (with_reducible refine hc.mono ?_); rintro e w1 ⟨rfl, hb1⟩)
    | (go_at_call 52; (with_reducible refine (hx w1 hb1).mono ?_); rintro e w2 ⟨rfl, hu2, hb2⟩)
    | (go_at_call 22; refine (string_calls w1.heap.size w1.heap.size _ w2 hu2 hb2.size).mono ?_; rintro e w3 ⟨rfl, -, hb3, -⟩))
  go_ret2
  exact ⟨rfl, below_trans hb1 (hb2.trans hb3)⟩
set_option maxRecDepth 100000 in
theorem name_calls (s : Int) (w : World) (h0 : 0 ≤ s) (h4 : s ≤ 3) : Calls Tryd.prog 34 #[.int .i64 s] w fun e w' => e = .returned (.tuple #[.string ⟨[UInt8.ofNat (97 + s.toNat)].toArray⟩, .int .i64 0]) ∧ w = w' := by
  have : s = 0 ∨ s = 1 ∨ s = 2 ∨ s = 3 := by omega
  rcases this with rfl | rfl | rfl | rfl
  all_goals (
    go_enter Tryd.func34, Tryd.ntmps34
    go_wp2_with fail
    go_ret2
    exact ⟨rfl, rfl⟩)
set_option maxRecDepth 100000 in
theorem name08_calls (s : Int) (w : World) (h0 : 0 ≤ s) (h4 : s ≤ 3) : Calls Tryd.prog 38 #[.int .i64 s] w fun e w' => e = .returned (.tuple #[.string ⟨[UInt8.ofNat (97 + s.toNat)].toArray⟩, .int .i64 0]) ∧ Below w.heap.size w w' := by
  have : s = 0 ∨ s = 1 ∨ s = 2 ∨ s = 3 := by omega
  rcases this with rfl | rfl | rfl | rfl
  all_goals (
    go_enter Tryd.func38, Tryd.ntmps38
    go_wp2_with fail
    go_ret2
    exact ⟨rfl, by with_reducible repeat (first | exact Below.refl _ _ | apply below_alloc | apply drewN_below | apply below_drew)⟩)
end Go.Proofs.YthijjpbkpmojbaaDoor
