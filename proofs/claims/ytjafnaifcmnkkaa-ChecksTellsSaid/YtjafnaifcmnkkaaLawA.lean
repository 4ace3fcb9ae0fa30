import Derived.Test.YtjafnaifcmnkkaaOpen
/-! The law of layer 10: ChecksTells, walked. -/
namespace Go.Proofs.Ytjafnaifcmnkkaa
open Go.RowKit Tw
set_option linter.unusedVariables false
set_option linter.unusedSimpArgs false
set_option maxHeartbeats 4000000 in
theorem tells_calls (p : QAt) (q : Qr) (A : Option Addr) (c : Nat) (l : List Nd) (w : World) (hr : RdQ w p q) (hn : NilQ p q) (hw : QWf q) (hl : RdN w A l) :
    Calls Try.prog 3 #[qval p q, .slice A l.length c] w fun e w' => e = .returned (.bool true) ∧ Below w.heap.size w w' := by
  have HB := Below.refl w.heap.size w
  have hs : q.ws ≤ 9223372036854775807 := hw.ws.2
  have k1 := fun W (h : RdQ W p q) => great08_calls p q W h
  have k2 := fun W (h : RdQ W p q) b1 b2 b4 => twin_calls p q W h hn b1 b2 b4
  have k3 := fun W (h : RdQ W p q) => check10_calls p q W h hs
  unfold qval at k1 k2 k3
  have K1 := Lib.hid k1
  have K2 := Lib.hid k2
  have K3 := Lib.hid k3
  clear k1 k2 k3
  have m0 := hl.1
  unfold qval
  cases hg : greatQ q with
  | true =>
    have Hg := Lib.hid hg
    clear hg
    go_enter Try.func3, Try.ntmps3
    go_wp2_with fail
    refine (K1.out _ (hr.below (below_alloc HB _))).mono ?_
    rw [Hg.out]
    rintro e w1 ⟨rfl, hb⟩
    go_wp2_with fail
    go_ret
    exact ⟨rfl, below_trans (below_alloc HB _) hb⟩
  | false =>
    have hgb : q.arg.length ≤ 100 ∧ q.src.length ≤ 100 ∧ q.wh.length ≤ 100 := by
      unfold greatQ at hg
      rw [decide_eq_false_iff_not] at hg
      omega
    obtain ⟨b1, b2, b4⟩ := hgb
    have Hg := Lib.hid hg
    clear hg
    by_cases h70 : 70 < l.length
    · have d70 : decide (70 < l.length) = true := decide_eq_true h70
      go_enter Try.func3, Try.ntmps3
      go_wp2_with fail
      refine (K1.out _ (hr.below (below_alloc HB _))).mono ?_
      rw [Hg.out]
      rintro e w1 ⟨rfl, hb⟩
      go_wp2_with fail
      refine (great04_calls _ _ _ _ m0).mono ?_
      rintro e w2 ⟨rfl, rfl⟩
      go_wp2_with fail
      go_ret
      exact ⟨rfl, below_trans (below_alloc HB _) hb⟩
    · have d70 : decide (70 < l.length) = false := decide_eq_false h70
      go_enter Try.func3, Try.ntmps3
      go_wp2_with fail
      refine (K1.out _ (hr.below (below_alloc HB _))).mono ?_
      rw [Hg.out]
      rintro e w1 ⟨rfl, hb⟩
      have X1 : Bx w1 w.heap.size 27 #[.int .u8 q.ag, .slice p.a1 q.arg.length p.c1, .slice p.a2 q.src.length p.c2, .bool q.jn, .slice p.a4 q.wh.length p.c4, .int .u8 q.wk, .int .i64 q.ws, .int .i64 q.we, .bool q.bk, .int .u8 q.lt] := (Bx.new w _ _).below hb
      have hb1 := below_trans (below_alloc HB _) hb
      have hlt := X1.lt
      have ⟨x0, x1, x2, x3, x4, x5, x6, x7, x8, x9, _⟩ := X1.ten
      go_wp2_with fail
      refine (great04_calls _ _ _ _ m0).mono ?_
      rintro e w2 ⟨rfl, rfl⟩
      go_wp2_with fail
      refine (K2.out _ (hr.below hb1) b1 b2 b4).mono ?_
      rintro e w2 ⟨hb2, p', rfl, hr', _⟩
      clear X1 x0 x1 x2 x3 x4 x5 x6 x7 x8 x9
      have X1 : Bx w2 w.heap.size 27 #[.int .u8 q.ag, .slice p.a1 q.arg.length p.c1, .slice p.a2 q.src.length p.c2, .bool q.jn, .slice p.a4 q.wh.length p.c4, .int .u8 q.wk, .int .i64 q.ws, .int .i64 q.we, .bool q.bk, .int .u8 q.lt] := ((Bx.new w _ _).below hb).below hb2
      have hb3 := below_trans hb1 hb2
      have k4 := fun W (h : RdQ W p' q) => check_calls p' q W h
      have k5 := fun W (h1 : RdQ W p' q) (h2 : RdQ W p q) => equal08_calls p' p q q W h1 h2
      unfold qval at k4 k5
      have K4 := Lib.hid k4
      have K5 := Lib.hid k5
      clear k4 k5
      unfold qval
      have hlt := X1.lt
      go_wp2_with fail
      refine (K4.out _ (hr'.below (below_alloc (Below.refl _ _) _))).mono ?_
      rintro e w3 ⟨rfl, hb4⟩
      have Y1 : Bx w3 w2.heap.size 27 #[.int .u8 q.ag, .slice p'.a1 q.arg.length p'.c1, .slice p'.a2 q.src.length p'.c2, .bool q.jn, .slice p'.a4 q.wh.length p'.c4, .int .u8 q.wk, .int .i64 q.ws, .int .i64 q.we, .bool q.bk, .int .u8 q.lt] := (Bx.new w2 _ _).below hb4
      have X2 := (X1.alloc (.cells #[.int .u8 q.ag, .slice p'.a1 q.arg.length p'.c1, .slice p'.a2 q.src.length p'.c2, .bool q.jn, .slice p'.a4 q.wh.length p'.c4, .int .u8 q.wk, .int .i64 q.ws, .int .i64 q.we, .bool q.bk, .int .u8 q.lt] 27)).below hb4
      have hb5 := below_trans (below_alloc hb3 (.cells #[.int .u8 q.ag, .slice p'.a1 q.arg.length p'.c1, .slice p'.a2 q.src.length p'.c2, .bool q.jn, .slice p'.a4 q.wh.length p'.c4, .int .u8 q.wk, .int .i64 q.ws, .int .i64 q.we, .bool q.bk, .int .u8 q.lt] 27)) hb4
      have hb6 := below_trans (below_alloc (Below.refl w2.heap.size w2) (.cells #[.int .u8 q.ag, .slice p'.a1 q.arg.length p'.c1, .slice p'.a2 q.src.length p'.c2, .bool q.jn, .slice p'.a4 q.wh.length p'.c4, .int .u8 q.wk, .int .i64 q.ws, .int .i64 q.we, .bool q.bk, .int .u8 q.lt] 27)) hb4
      have hlt2 := X2.lt
      have hlt3 := Y1.lt
      have ⟨x0, x1, x2, x3, x4, x5, x6, x7, x8, x9, _⟩ := X2.ten
      clear X1
      go_wp2_with fail
      refine (K3.out _ (hr.below hb5)).mono ?_
      rintro e w4 ⟨rfl, hb7⟩
      have hb8 := below_trans hb5 hb7
      go_wp2_with fail
      refine (constant_calls _ _ _ _ (hl.below hb8)).mono ?_
      rintro e w5 ⟨rfl, hb9⟩
      have hb10 := below_trans hb8 hb9
      go_wp2_with fail
      refine (constant10_calls _ _ _ _ (hl.below hb10)).mono ?_
      rintro e w6 ⟨rfl, hb11⟩
      have hb12 := below_trans hb10 hb11
      have hb13 := below_trans hb7 (below_trans hb9 hb11)
      have hb14 := below_trans hb6 hb13
      have X3 := X2.below hb13
      have Y3 := Y1.below hb13
      clear x0 x1 x2 x3 x4 x5 x6 x7 x8 x9
      have ⟨x0, x1, x2, x3, x4, x5, x6, x7, x8, x9, _⟩ := X3.ten
      have ⟨y0, y1, y2, y3, y4, y5, y6, y7, y8, y9, _⟩ := Y3.ten
      go_wp2_with fail
      refine (K5.out _ (hr'.below hb14) (hr.below hb12)).mono ?_
      rw [equalQ_self]
      rintro e w7 ⟨rfl, hb15⟩
      go_wp2_with fail
      go_ret
      exact ⟨rfl, below_trans hb12 hb15⟩
end Go.Proofs.Ytjafnaifcmnkkaa
