import Derived.Test.YtjafnaifcmnkkaaTwin
/-! The reference of layer 8: Alike, Equal. -/
namespace Go.Proofs.Ytjafnaifcmnkkaa
open Go.RowKit Tw
set_option linter.unusedVariables false
set_option linter.unusedSimpArgs false
def alikeQ (a b : Qr) : Bool := a.ag == b.ag && (decide (a.arg.map strip = b.arg.map strip) && (decide (a.src = b.src) && (a.jn == b.jn && (decide (a.wh.map strip = b.wh.map strip) && ((a.wk == b.wk && (a.ws == b.ws && a.we == b.we)) && (a.bk == b.bk && a.lt == b.lt))))))
def equalQ (a b : Qr) : Bool := alikeQ a b && (decide (a.arg = b.arg) && decide (a.wh = b.wh))
theorem eqWin (d : Nat) (w : World) (x0 y0 x1 y1 x2 y2 : Int) :
    (Op.equalIn (d + 2) 25 (.agg #[.int .u8 x0, .int .i64 x1, .int .i64 x2]) (.agg #[.int .u8 y0, .int .i64 y1, .int .i64 y2])).run Try.prog w = .ok (x0 == y0 && (x1 == y1 && (x2 == y2))) w := by
  refine eqA_of Try.underlying25 (by kernel_rfl) ?_
  refine eqf_cons (by rfl) (by go_simp; rfl) (by go_simp; rfl) (by go_simp) ?_
  refine eqf_cons (by rfl) (by go_simp; rfl) (by go_simp; rfl) (by go_simp) ?_
  exact eqf_last (by rfl) (by go_simp; rfl) (by go_simp; rfl) (by go_simp)
attribute [local go_sem high] eqWin
def qcells (p : QAt) (q : Qr) : Array Value := #[.int .u8 q.ag, .slice p.a1 q.arg.length p.c1, .slice p.a2 q.src.length p.c2, .bool q.jn, .slice p.a4 q.wh.length p.c4, .int .u8 q.wk, .int .i64 q.ws, .int .i64 q.we, .bool q.bk, .int .u8 q.lt]
/-- Two queries' boxes. -/
structure TwoAt (w : World) (p1 p2 : QAt) (q1 q2 : Qr) (wx : World) : Prop where
  hB : Below w.heap.size w wx
  hX : Bx wx w.heap.size 27 #[.int .u8 q1.ag, .slice p1.a1 q1.arg.length p1.c1, .slice p1.a2 q1.src.length p1.c2, .bool q1.jn, .slice p1.a4 q1.wh.length p1.c4, .int .u8 q1.wk, .int .i64 q1.ws, .int .i64 q1.we, .bool q1.bk, .int .u8 q1.lt]
  hY : Bx wx (w.heap.size + 1) 27 #[.int .u8 q2.ag, .slice p2.a1 q2.arg.length p2.c1, .slice p2.a2 q2.src.length p2.c2, .bool q2.jn, .slice p2.a4 q2.wh.length p2.c4, .int .u8 q2.wk, .int .i64 q2.ws, .int .i64 q2.we, .bool q2.bk, .int .u8 q2.lt]
theorem TwoAt.next {w wx w1 : World} {p1 p2 : QAt} {q1 q2 : Qr} (h : TwoAt w p1 p2 q1 q2 wx) (hb : Below wx.heap.size wx w1) : TwoAt w p1 p2 q1 q2 w1 := ⟨below_trans h.hB hb, h.hX.below hb, h.hY.below hb⟩
theorem two_start (w : World) (p1 p2 : QAt) (q1 q2 : Qr) : TwoAt w p1 p2 q1 q2 ((w.alloc (.cells #[.int .u8 q1.ag, .slice p1.a1 q1.arg.length p1.c1, .slice p1.a2 q1.src.length p1.c2, .bool q1.jn, .slice p1.a4 q1.wh.length p1.c4, .int .u8 q1.wk, .int .i64 q1.ws, .int .i64 q1.we, .bool q1.bk, .int .u8 q1.lt] 27)).alloc (.cells #[.int .u8 q2.ag, .slice p2.a1 q2.arg.length p2.c1, .slice p2.a2 q2.src.length p2.c2, .bool q2.jn, .slice p2.a4 q2.wh.length p2.c4, .int .u8 q2.wk, .int .i64 q2.ws, .int .i64 q2.we, .bool q2.bk, .int .u8 q2.lt] 27)) :=
  ⟨below_alloc (below_alloc (Below.refl _ _) _) _, (Bx.new w _ _).alloc _, Bx.new' (by simp) _ _⟩
set_option maxHeartbeats 4000000 in
theorem alike08_calls (p1 p2 : QAt) (q1 q2 : Qr) (w : World) (h1 : RdQ w p1 q1) (h2 : RdQ w p2 q2) :
    Calls Try.prog 23 #[qval p1 q1, qval p2 q2] w fun e w' => e = .returned (.bool (alikeQ q1 q2)) ∧ Below w.heap.size w w' := by
  unfold qval
  go_enter Try.func23, Try.ntmps23
  go_upto_region 1 with fail
  have T := two_start w p1 p2 q1 q2
  generalize ((w.alloc (.cells #[.int .u8 q1.ag, .slice p1.a1 q1.arg.length p1.c1, .slice p1.a2 q1.src.length p1.c2, .bool q1.jn, .slice p1.a4 q1.wh.length p1.c4, .int .u8 q1.wk, .int .i64 q1.ws, .int .i64 q1.we, .bool q1.bk, .int .u8 q1.lt] 27)).alloc (.cells #[.int .u8 q2.ag, .slice p2.a1 q2.arg.length p2.c1, .slice p2.a2 q2.src.length p2.c2, .bool q2.jn, .slice p2.a4 q2.wh.length p2.c4, .int .u8 q2.wk, .int .i64 q2.ws, .int .i64 q2.we, .bool q2.bk, .int .u8 q2.lt] 27)) = wx at T ⊢
  have ⟨x0, x1, x2, x3, x4, x5, x6, x7, x8, x9, _⟩ := T.hX.ten
  have ⟨y0, y1, y2, y3, y4, y5, y6, y7, y8, y9, _⟩ := T.hY.ten
  go_wp2_with (first
    | (go_at_call 34; ((with_reducible refine (alike04_calls p1.a1 p2.a1 p1.c1 p2.c1 q1.arg q2.arg _ ?_ ?_).mono ?_)); (exact h1.arg.below T.hB); (exact h2.arg.below T.hB); rintro e w1 ⟨rfl, hb⟩; have T := T.next hb; have ⟨x0, x1, x2, x3, x4, x5, x6, x7, x8, x9, _⟩ := T.hX.ten; have ⟨y0, y1, y2, y3, y4, y5, y6, y7, y8, y9, _⟩ := T.hY.ten)
    | (go_at_call 34; ((with_reducible refine (alike04_calls p1.a4 p2.a4 p1.c4 p2.c4 q1.wh q2.wh _ ?_ ?_).mono ?_)); (exact h1.wh.below T.hB); (exact h2.wh.below T.hB); rintro e w1 ⟨rfl, hb⟩; have T := T.next hb; have ⟨x0, x1, x2, x3, x4, x5, x6, x7, x8, x9, _⟩ := T.hX.ten; have ⟨y0, y1, y2, y3, y4, y5, y6, y7, y8, y9, _⟩ := T.hY.ten)
    | (go_at_call 35; ((with_reducible refine (sameS_calls p1.a2 p2.a2 p1.c2 p2.c2 q1.src q2.src _ ?_ ?_).mono ?_)); (exact h1.src.below T.hB); (exact h2.src.below T.hB); rintro e w1 ⟨rfl, nd, rfl⟩; have T := T.next (drewN_below (Below.refl _ _) nd); have ⟨x0, x1, x2, x3, x4, x5, x6, x7, x8, x9, _⟩ := T.hX.ten; have ⟨y0, y1, y2, y3, y4, y5, y6, y7, y8, y9, _⟩ := T.hY.ten))
  all_goals
    go_ret
    refine ⟨ret_bool ?_, T.hB⟩
    clear T x0 x1 x2 x3 x4 x5 x6 x7 x8 x9 y0 y1 y2 y3 y4 y5 y6 y7 y8 y9
    unfold alikeQ
    simp [*]
set_option maxHeartbeats 4000000 in
theorem equal08_calls (p1 p2 : QAt) (q1 q2 : Qr) (w : World) (h1 : RdQ w p1 q1) (h2 : RdQ w p2 q2) :
    Calls Try.prog 11 #[qval p1 q1, qval p2 q2] w fun e w' => e = .returned (.bool (equalQ q1 q2)) ∧ Below w.heap.size w w' := by
  have hc := fun W (h1 : RdQ W p1 q1) (h2 : RdQ W p2 q2) => alike08_calls p1 p2 q1 q2 W h1 h2
  unfold qval at hc
  have Hc := Lib.hid hc
  clear hc
  unfold qval
  go_enter Try.func11, Try.ntmps11
  go_upto_region 1 with fail
  have T := two_start w p1 p2 q1 q2
  generalize ((w.alloc (.cells #[.int .u8 q1.ag, .slice p1.a1 q1.arg.length p1.c1, .slice p1.a2 q1.src.length p1.c2, .bool q1.jn, .slice p1.a4 q1.wh.length p1.c4, .int .u8 q1.wk, .int .i64 q1.ws, .int .i64 q1.we, .bool q1.bk, .int .u8 q1.lt] 27)).alloc (.cells #[.int .u8 q2.ag, .slice p2.a1 q2.arg.length p2.c1, .slice p2.a2 q2.src.length p2.c2, .bool q2.jn, .slice p2.a4 q2.wh.length p2.c4, .int .u8 q2.wk, .int .i64 q2.ws, .int .i64 q2.we, .bool q2.bk, .int .u8 q2.lt] 27)) = wx at T ⊢
  have ⟨x0, x1, x2, x3, x4, x5, x6, x7, x8, x9, _⟩ := T.hX.ten
  have ⟨y0, y1, y2, y3, y4, y5, y6, y7, y8, y9, _⟩ := T.hY.ten
  go_wp2_with (first
    | (go_at_call 23; refine (Hc.out _ (h1.below T.hB) (h2.below T.hB)).mono ?_; rintro e w1 ⟨rfl, hb⟩; have T := T.next hb; have ⟨x0, x1, x2, x3, x4, x5, x6, x7, x8, x9, _⟩ := T.hX.ten; have ⟨y0, y1, y2, y3, y4, y5, y6, y7, y8, y9, _⟩ := T.hY.ten)
    | (go_at_call 24; ((with_reducible refine (equal04_calls p1.a1 p2.a1 p1.c1 p2.c1 q1.arg q2.arg _ ?_ ?_).mono ?_)); (exact h1.arg.below T.hB); (exact h2.arg.below T.hB); rintro e w1 ⟨rfl, nd, rfl⟩; have T := T.next (drewN_below (Below.refl _ _) nd); have ⟨x0, x1, x2, x3, x4, x5, x6, x7, x8, x9, _⟩ := T.hX.ten; have ⟨y0, y1, y2, y3, y4, y5, y6, y7, y8, y9, _⟩ := T.hY.ten)
    | (go_at_call 24; ((with_reducible refine (equal04_calls p1.a4 p2.a4 p1.c4 p2.c4 q1.wh q2.wh _ ?_ ?_).mono ?_)); (exact h1.wh.below T.hB); (exact h2.wh.below T.hB); rintro e w1 ⟨rfl, nd, rfl⟩; have T := T.next (drewN_below (Below.refl _ _) nd); have ⟨x0, x1, x2, x3, x4, x5, x6, x7, x8, x9, _⟩ := T.hX.ten; have ⟨y0, y1, y2, y3, y4, y5, y6, y7, y8, y9, _⟩ := T.hY.ten))
  all_goals
    go_ret
    refine ⟨ret_bool ?_, by first | exact T.hB | (rw [← drewN_N]; exact T.hB)⟩
    clear T x0 x1 x2 x3 x4 x5 x6 x7 x8 x9 y0 y1 y2 y3 y4 y5 y6 y7 y8 y9
    unfold equalQ
    simp [*]
theorem equalQ_self (q : Qr) : equalQ q q = true := by simp [equalQ, alikeQ]
end Go.Proofs.Ytjafnaifcmnkkaa
