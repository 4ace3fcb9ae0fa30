import Derived.Test.YthijjpbkpmojbaaDoorTwin
/-! The reference of layer 8: Alike, Equal. -/
namespace Go.Proofs.YthijjpbkpmojbaaDoor
open Go.RowKit Tw
set_option linter.unusedVariables false
set_option linter.unusedSimpArgs false
def alikeQ (a b : Qr) : Bool := a.ag == b.ag && (decide (a.arg.map strip = b.arg.map strip) && (decide (a.src = b.src) && (a.jn == b.jn && (decide (a.wh.map strip = b.wh.map strip) && ((a.wk == b.wk && (a.ws == b.ws && a.we == b.we)) && (a.bk == b.bk && a.lt == b.lt))))))
def equalQ (a b : Qr) : Bool := alikeQ a b && (decide (a.arg = b.arg) && decide (a.wh = b.wh))
theorem eqWin (d : Nat) (w : World) (x0 y0 x1 y1 x2 y2 : Int) :
    (Op.equalIn (d + 2) 25 (.agg #[.int .u8 x0, .int .i64 x1, .int .i64 x2]) (.agg #[.int .u8 y0, .int .i64 y1, .int .i64 y2])).run Tryd.prog w = .ok (x0 == y0 && (x1 == y1 && (x2 == y2))) w := by
  refine eqA_of Tryd.underlying25 (by kernel_rfl) ?_
  refine eqf_cons (by rfl) (by go_simp; rfl) (by go_simp; rfl) (by go_simp) ?_
  refine eqf_cons (by rfl) (by go_simp; rfl) (by go_simp; rfl) (by go_simp) ?_
  exact eqf_last (by rfl) (by go_simp; rfl) (by go_simp; rfl) (by go_simp)
attribute [local go_sem high] eqWin
def qcells (p : QAt) (q : Qr) : Array Value := #[.int .u8 q.ag, .slice p.a1 q.arg.length p.c1, .slice p.a2 q.src.length p.c2, .bool q.jn, .slice p.a4 q.wh.length p.c4, .int .u8 q.wk, .int .i64 q.ws, .int .i64 q.we, .bool q.bk, .int .u8 q.lt]
/-- Two queries' boxes. -/
structure TwoAt (w : World) (p1 p2 : QAt) (q1 q2 : Qr) (wx : World) : Prop where
  hB : Below w.heap.size w wx
  hX : Bx wx w.heap.size 27 #[.int .u8 q1.ag, .slice p1.a1 q1.arg.length p1.c1, .slice p1.a2 q1.src.length p1.c2, .bool q1.jn, .slice p1.a4 q1.wh.length p1.c4, .int .u8 q1.wk, .int .i64 q1.ws, .int .i64 q1.we, .bool q1.bk, .int .u8 q1.lt]
  hY : Bx wx (w.heap.size + 1) 27 #[.int .u8 q2.ag, .slice p2.a1 q2.arg.length p2.c1, .slice p2.a2 q2.src.length p2.c2, .bool q2.jn, .slice p2.a4 q2.wh.length p2.c4, .int .u8 q2.wk, .int .i64 q2.ws, .int .i64 q2.we, .bool q2.bk, .int .u8 q2.lt]
theorem TwoAt.next {w wx w1 : World} {p1 p2 : QAt} {q1 q2 : Qr} (h : TwoAt w p1 p2 q1 q2 wx) (hb : Below wx.heap.size wx w1) : TwoAt w p1 p2 q1 q2 w1 := ⟨below_trans h.hB hb, h.hX.below hb, h.hY.below hb⟩
theorem two_start (w : World) (p1 p2 : QAt) (q1 q2 : Qr) : TwoAt w p1 p2 q1 q2 ((w.alloc (.cells #[.int .u8 q1.ag, .slice p1.a1 q1.arg.length p1.c1, .slice p1.a2 q1.src.length p1.c2, .bool q1.jn, .slice p1.a4 q1.wh.length p1.c4, .int .u8 q1.wk, .int .i64 q1.ws, .int .i64 q1.we, .bool q1.bk, .int .u8 q1.lt] 27)).alloc (.cells #[.int .u8 q2.ag, .slice p2.a1 q2.arg.length p2.c1, .slice p2.a2 q2.src.length p2.c2, .bool q2.jn, .slice p2.a4 q2.wh.length p2.c4, .int .u8 q2.wk, .int .i64 q2.ws, .int .i64 q2.we, .bool q2.bk, .int .u8 q2.lt] 27)) :=
  ⟨below_alloc (below_alloc (Below.refl _ _) _) _, (Bx.new w _ _).alloc _, Bx.new' (by simp) _ _⟩
theorem equalQ_self (q : Qr) : equalQ q q = true := by simp [equalQ, alikeQ]
end Go.Proofs.YthijjpbkpmojbaaDoor
