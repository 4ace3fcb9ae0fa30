import Derived.Test.YthijjpbkpmojbaaDoorBox
/-! The reference of layer 8: Twin, Alike, Equal. -/
namespace Go.Proofs.YthijjpbkpmojbaaDoor
open Go.RowKit Tw
set_option linter.unusedVariables false
set_option linter.unusedSimpArgs false
/-- What Twin comes to: the same query in rows of its own. -/
def TwinPost (q : Qr) (w : World) (e : Ending) (w' : World) : Prop :=
  Below w.heap.size w w' ∧ ∃ p', e = .returned (qval p' q) ∧ RdQ w' p' q ∧
    w'.ownsRow w.heap.size 50 5 (.slice p'.a1 q.arg.length p'.c1) q.arg.length (ndcells q.arg) ∧ w'.ownsRow w.heap.size 3 1 (.slice p'.a2 q.src.length p'.c2) q.src.length (ivals q.src) ∧ w'.ownsRow w.heap.size 50 5 (.slice p'.a4 q.wh.length p'.c4) q.wh.length (ndcells q.wh)
/-- Nil rows have no room. -/
structure NilQ (p : QAt) (q : Qr) : Prop where
  n1 : p.a1 = none → q.arg.length = 0 ∧ p.c1 = 0
  n2 : p.a2 = none → q.src.length = 0 ∧ p.c2 = 0
  n4 : p.a4 = none → q.wh.length = 0 ∧ p.c4 = 0
structure TwinAt (w : World) (q : Qr) (s1 s2 s4 : Value) (wx : World) : Prop where
  hB : Below w.heap.size w wx
  hX : Bx wx w.heap.size 27 #[.int .u8 q.ag, s1, s2, .bool q.jn, s4, .int .u8 q.wk, .int .i64 q.ws, .int .i64 q.we, .bool q.bk, .int .u8 q.lt]
  hY : Bx wx (w.heap.size + 1) 27 #[.int .u8 0, .slice none 0 0, .slice none 0 0, .bool false, .slice none 0 0, .int .u8 0, .int .i64 0, .int .i64 0, .bool false, .int .u8 0]
theorem slice_none {A : Option Addr} {n c : Nat} : (Value.slice A n c).ownBlock = A.map (·.block) := by cases A <;> rfl
theorem old_row {w wc w1 : World} {e row : TypeId} {size n : Nat} {v : Value} {xs : List Value} (h : wc.ownsRow w.heap.size e size v n xs) (hg : (wc.alloc (.cells #[] row)).grownBy w1 (Value.slice (some ⟨wc.heap.size, 0, none⟩) 0 0).ownBlock) : w1.ownsRow w.heap.size e size v n xs := by
  refine (own_below h (below_alloc (Below.refl _ _) _)).kept hg ?_
  cases hv : v.ownBlock with
  | none => exact .inl rfl
  | some g =>
    refine .inr (fun he => ?_)
    have := (h.lt g hv).2
    simp only [Value.ownBlock] at he
    injection he with he
    omega
set_option maxHeartbeats 4000000 in
theorem twin_calls (p : QAt) (q : Qr) (w : World) (hr : RdQ w p q) (hn : NilQ p q) (b1 : q.arg.length ≤ 100) (b2 : q.src.length ≤ 100) (b4 : q.wh.length ≤ 100) :
    Calls Tryd.prog 19 #[qval p q] w (TwinPost q w) := by
  obtain ⟨q0, l1, l2, b3, l4, q5, q6, q7, b8, q9⟩ := q
  obtain ⟨a1, c1, a2, c2, a4, c4⟩ := p
  obtain ⟨h1, h2, h4, g1, g2, g4⟩ := hr
  obtain ⟨n1, n2, n4⟩ := hn
  simp only at *
  unfold qval
  simp only
  have N1 := Lib.hid n1
  have N2 := Lib.hid n2
  have N4 := Lib.hid n4
  clear n1 n2 n4
  have m1 := h1.1
  have m2 := h2.1
  have m4 := h4.1
  have HB := Below.refl w.heap.size w
  go_enter Tryd.func19, Tryd.ntmps19
  go_upto_region 1 with fail
  have T0 : TwinAt w ⟨q0, l1, l2, b3, l4, q5, q6, q7, b8, q9⟩ (.slice a1 l1.length c1) (.slice a2 l2.length c2) (.slice a4 l4.length c4) ((w.alloc (.cells #[.int .u8 q0, .slice a1 l1.length c1, .slice a2 l2.length c2, .bool b3, .slice a4 l4.length c4, .int .u8 q5, .int .i64 q6, .int .i64 q7, .bool b8, .int .u8 q9] 27)).alloc (.cells #[.int .u8 0, .slice none 0 0, .slice none 0 0, .bool false, .slice none 0 0, .int .u8 0, .int .i64 0, .int .i64 0, .bool false, .int .u8 0] 27)) :=
    ⟨below_alloc (below_alloc HB _) _, (Bx.new w _ _).alloc _, Bx.new' (by simp) _ _⟩
  generalize ((w.alloc (.cells #[.int .u8 q0, .slice a1 l1.length c1, .slice a2 l2.length c2, .bool b3, .slice a4 l4.length c4, .int .u8 q5, .int .i64 q6, .int .i64 q7, .bool b8, .int .u8 q9] 27)).alloc (.cells #[.int .u8 0, .slice none 0 0, .slice none 0 0, .bool false, .slice none 0 0, .int .u8 0, .int .i64 0, .int .i64 0, .bool false, .int .u8 0] 27)) = wx at T0 ⊢
  go_cut [] (fun wx => ∃ A c, TwinAt w ⟨q0, l1, l2, b3, l4, q5, q6, q7, b8, q9⟩ (.slice A l1.length c) (.slice a2 l2.length c2) (.slice a4 l4.length c4) wx ∧ wx.ownsRow w.heap.size 50 5 (.slice A l1.length c) l1.length (ndcells l1))
  case first =>
    obtain ⟨hB, hX, hY⟩ := T0
    have hlt := hX.lt
    have hlt2 := hY.lt
    have ⟨p0, p1, p2, p3, p4, p5, p6, p7, p8, p9, _⟩ := hX.ten
    go_wp2_with (at_builtin; refine app_many (w0 := w) (wr := wx.alloc (.cells #[] 50)) (World.ownsRow_lit (size := 5) wx #[] 0 hB.size (by simp) rfl) (hB.alloc hB.size _) rfl _ _ rfl Tryd.underlying22 infoNode rfl hs5 h0_40 (ndcells l1) (by rfl) a1 l1.length c1 (by rfl) N1.out (by simp [ndcells_length]) ndcells_one (by omega) (fun ad e => news_nodes (e ▸ (h1.below (below_alloc hB _)))) (Below.refl _ _) ?_; intro v1 w1 hown1 hB1 hg1 hat1; have hown1 : w1.ownsRow w.heap.size 50 5 v1 l1.length (ndcells l1) := (by simpa using hown1); obtain ⟨A1, n1, rfl, hn1, hm1⟩ := own_slice hown1; have X1 := (hX.alloc (.cells #[] 50)).grown (by simp [Value.ownBlock]; omega) hg1; have X2 := (hY.alloc (.cells #[] 50)).grown (by simp [Value.ownBlock]; omega) hg1; have ⟨p0, p1, p2, p3, p4, p5, p6, p7, p8, p9, f0, f1, f2, f3, f4, f5, f6, f7, f8, f9⟩ := X1.ten)
    go_meet
    exact ⟨A1, n1, ⟨hB1.setCell (p := ⟨w.heap.size, 1, none⟩) (Nat.le_refl _) _, X1.set 1 _, X2.other (by omega) 1 _⟩, ownsRow_setCell_other hown1 (row_box hown1 X1 (by decide)) _⟩
  case rest =>
    clear T0
    obtain ⟨A1, d1, T1, R1⟩ := hcut
    go_upto_region 2 with fail
    go_cut [] (fun wx => ∃ A c, TwinAt w ⟨q0, l1, l2, b3, l4, q5, q6, q7, b8, q9⟩ (.slice A1 l1.length d1) (.slice a2 l2.length c2) (.slice A l4.length c) wx ∧ wx.ownsRow w.heap.size 50 5 (.slice A1 l1.length d1) l1.length (ndcells l1) ∧ wx.ownsRow w.heap.size 50 5 (.slice A l4.length c) l4.length (ndcells l4))
    case first =>
      obtain ⟨hB, hX, hY⟩ := T1
      have hlt := hX.lt
      have hlt2 := hY.lt
      have ⟨p0, p1, p2, p3, p4, p5, p6, p7, p8, p9, _⟩ := hX.ten
      go_wp2_with (at_builtin; refine app_many (w0 := w) (wr := wc.alloc (.cells #[] 50)) (World.ownsRow_lit (size := 5) wc #[] 0 hB.size (by simp) rfl) (hB.alloc hB.size _) rfl _ _ rfl Tryd.underlying22 infoNode rfl hs5 h0_40 (ndcells l4) (by rfl) a4 l4.length c4 (by rfl) N4.out (by simp [ndcells_length]) ndcells_one (by omega) (fun ad e => news_nodes (e ▸ (h4.below (below_alloc hB _)))) (Below.refl _ _) ?_; intro v1 w1 hown1 hB1 hg1 hat1; have hown1 : w1.ownsRow w.heap.size 50 5 v1 l4.length (ndcells l4) := (by simpa using hown1); obtain ⟨Ax, n1, rfl, hn1, hm1⟩ := own_slice hown1; have X1 := (hX.alloc (.cells #[] 50)).grown (by simp [Value.ownBlock]; omega) hg1; have X2 := (hY.alloc (.cells #[] 50)).grown (by simp [Value.ownBlock]; omega) hg1; have ⟨p0, p1, p2, p3, p4, p5, p6, p7, p8, p9, f0, f1, f2, f3, f4, f5, f6, f7, f8, f9⟩ := X1.ten)
      go_meet
      exact ⟨Ax, n1, ⟨hB1.setCell (p := ⟨w.heap.size, 4, none⟩) (Nat.le_refl _) _, X1.set 4 _, X2.other (by omega) 4 _⟩, ownsRow_setCell_other (old_row R1 hg1) (row_box (old_row R1 hg1) X1 (by decide)) _, ownsRow_setCell_other hown1 (row_box hown1 X1 (by decide)) _⟩
    case rest =>
      clear T1 R1
      obtain ⟨A4, d4, T2, R1, R4⟩ := hcut
      go_upto_region 3 with fail
      go_cut [] (fun wx => ∃ A c, TwinAt w ⟨q0, l1, l2, b3, l4, q5, q6, q7, b8, q9⟩ (.slice A1 l1.length d1) (.slice A l2.length c) (.slice A4 l4.length d4) wx ∧ wx.ownsRow w.heap.size 50 5 (.slice A1 l1.length d1) l1.length (ndcells l1) ∧ wx.ownsRow w.heap.size 50 5 (.slice A4 l4.length d4) l4.length (ndcells l4) ∧ wx.ownsRow w.heap.size 3 1 (.slice A l2.length c) l2.length (ivals l2))
      case first =>
        obtain ⟨hB, hX, hY⟩ := T2
        have hlt := hX.lt
        have hlt2 := hY.lt
        have ⟨p0, p1, p2, p3, p4, p5, p6, p7, p8, p9, _⟩ := hX.ten
        go_wp2_with (at_builtin; refine app_many (w0 := w) (wr := wc.alloc (.cells #[] 3)) (World.ownsRow_lit (size := 1) wc #[] 0 hB.size (by simp) rfl) (hB.alloc hB.size _) rfl _ _ rfl Tryd.underlying23 infoInt rfl h01 h08 (ivals l2) (by rfl) a2 l2.length c2 (by rfl) N2.out (by simp [ivals]) ivals_one (by omega) (fun ad e => news_ints (e ▸ (h2.below (below_alloc hB _)))) (Below.refl _ _) ?_; intro v1 w1 hown1 hB1 hg1 hat1; have hown1 : w1.ownsRow w.heap.size 3 1 v1 l2.length (ivals l2) := (by simpa using hown1); obtain ⟨Ax, n1, rfl, hn1, hm1⟩ := own_slice hown1; have X1 := (hX.alloc (.cells #[] 3)).grown (by simp [Value.ownBlock]; omega) hg1; have X2 := (hY.alloc (.cells #[] 3)).grown (by simp [Value.ownBlock]; omega) hg1; have ⟨p0, p1, p2, p3, p4, p5, p6, p7, p8, p9, f0, f1, f2, f3, f4, f5, f6, f7, f8, f9⟩ := X1.ten)
        go_meet
        exact ⟨Ax, n1, ⟨hB1.setCell (p := ⟨w.heap.size, 2, none⟩) (Nat.le_refl _) _, X1.set 2 _, X2.other (by omega) 2 _⟩, ownsRow_setCell_other (old_row R1 hg1) (row_box (old_row R1 hg1) X1 (by decide)) _, ownsRow_setCell_other (old_row R4 hg1) (row_box (old_row R4 hg1) X1 (by decide)) _, ownsRow_setCell_other hown1 (row_box hown1 X1 (by decide)) _⟩
      case rest =>
        clear T2 R1 R4
        obtain ⟨A2, d2, ⟨hB, hX, hY⟩, R1, R4, R2⟩ := hcut
        have hlt := hX.lt
        have hlt2 := hY.lt
        have ⟨p0, p1, p2, p3, p4, p5, p6, p7, p8, p9, _⟩ := hX.ten
        have ⟨z0, z1, z2, z3, z4, z5, z6, z7, z8, z9, f0, f1, f2, f3, f4, f5, f6, f7, f8, f9⟩ := hY.ten
        go_wp2_with fail
        have e1 := row_box R1 hY (by decide)
        have e2 := row_box R2 hY (by decide)
        have e4 := row_box R4 hY (by decide)
        have hle : w.heap.size ≤ w.heap.size + 1 := by omega
        have S1 := R1
        have S2 := R2
        have S4 := R4
        have y0 : Bx (wc.setCell ⟨w.heap.size + 1, 0, none⟩ (.int .u8 q0)) (w.heap.size + 1) 27 #[.int .u8 q0, .slice none 0 0, .slice none 0 0, .bool false, .slice none 0 0, .int .u8 0, .int .i64 0, .int .i64 0, .bool false, .int .u8 0] := hY.set 0 (.int .u8 q0)
        have y1 : Bx ((wc.setCell ⟨w.heap.size + 1, 0, none⟩ (.int .u8 q0)).setCell ⟨w.heap.size + 1, 1, none⟩ (.slice A1 l1.length d1)) (w.heap.size + 1) 27 #[.int .u8 q0, .slice A1 l1.length d1, .slice none 0 0, .bool false, .slice none 0 0, .int .u8 0, .int .i64 0, .int .i64 0, .bool false, .int .u8 0] := y0.set 1 (.slice A1 l1.length d1)
        have y2 : Bx (((wc.setCell ⟨w.heap.size + 1, 0, none⟩ (.int .u8 q0)).setCell ⟨w.heap.size + 1, 1, none⟩ (.slice A1 l1.length d1)).setCell ⟨w.heap.size + 1, 2, none⟩ (.slice A2 l2.length d2)) (w.heap.size + 1) 27 #[.int .u8 q0, .slice A1 l1.length d1, .slice A2 l2.length d2, .bool false, .slice none 0 0, .int .u8 0, .int .i64 0, .int .i64 0, .bool false, .int .u8 0] := y1.set 2 (.slice A2 l2.length d2)
        have y3 : Bx ((((wc.setCell ⟨w.heap.size + 1, 0, none⟩ (.int .u8 q0)).setCell ⟨w.heap.size + 1, 1, none⟩ (.slice A1 l1.length d1)).setCell ⟨w.heap.size + 1, 2, none⟩ (.slice A2 l2.length d2)).setCell ⟨w.heap.size + 1, 3, none⟩ (.bool b3)) (w.heap.size + 1) 27 #[.int .u8 q0, .slice A1 l1.length d1, .slice A2 l2.length d2, .bool b3, .slice none 0 0, .int .u8 0, .int .i64 0, .int .i64 0, .bool false, .int .u8 0] := y2.set 3 (.bool b3)
        have y4 : Bx (((((wc.setCell ⟨w.heap.size + 1, 0, none⟩ (.int .u8 q0)).setCell ⟨w.heap.size + 1, 1, none⟩ (.slice A1 l1.length d1)).setCell ⟨w.heap.size + 1, 2, none⟩ (.slice A2 l2.length d2)).setCell ⟨w.heap.size + 1, 3, none⟩ (.bool b3)).setCell ⟨w.heap.size + 1, 4, none⟩ (.slice A4 l4.length d4)) (w.heap.size + 1) 27 #[.int .u8 q0, .slice A1 l1.length d1, .slice A2 l2.length d2, .bool b3, .slice A4 l4.length d4, .int .u8 0, .int .i64 0, .int .i64 0, .bool false, .int .u8 0] := y3.set 4 (.slice A4 l4.length d4)
        have y5 : Bx ((((((wc.setCell ⟨w.heap.size + 1, 0, none⟩ (.int .u8 q0)).setCell ⟨w.heap.size + 1, 1, none⟩ (.slice A1 l1.length d1)).setCell ⟨w.heap.size + 1, 2, none⟩ (.slice A2 l2.length d2)).setCell ⟨w.heap.size + 1, 3, none⟩ (.bool b3)).setCell ⟨w.heap.size + 1, 4, none⟩ (.slice A4 l4.length d4)).setCell ⟨w.heap.size + 1, 5, none⟩ (.int .u8 q5)) (w.heap.size + 1) 27 #[.int .u8 q0, .slice A1 l1.length d1, .slice A2 l2.length d2, .bool b3, .slice A4 l4.length d4, .int .u8 q5, .int .i64 0, .int .i64 0, .bool false, .int .u8 0] := y4.set 5 (.int .u8 q5)
        have y6 : Bx (((((((wc.setCell ⟨w.heap.size + 1, 0, none⟩ (.int .u8 q0)).setCell ⟨w.heap.size + 1, 1, none⟩ (.slice A1 l1.length d1)).setCell ⟨w.heap.size + 1, 2, none⟩ (.slice A2 l2.length d2)).setCell ⟨w.heap.size + 1, 3, none⟩ (.bool b3)).setCell ⟨w.heap.size + 1, 4, none⟩ (.slice A4 l4.length d4)).setCell ⟨w.heap.size + 1, 5, none⟩ (.int .u8 q5)).setCell ⟨w.heap.size + 1, 6, none⟩ (.int .i64 q6)) (w.heap.size + 1) 27 #[.int .u8 q0, .slice A1 l1.length d1, .slice A2 l2.length d2, .bool b3, .slice A4 l4.length d4, .int .u8 q5, .int .i64 q6, .int .i64 0, .bool false, .int .u8 0] := y5.set 6 (.int .i64 q6)
        have y7 : Bx ((((((((wc.setCell ⟨w.heap.size + 1, 0, none⟩ (.int .u8 q0)).setCell ⟨w.heap.size + 1, 1, none⟩ (.slice A1 l1.length d1)).setCell ⟨w.heap.size + 1, 2, none⟩ (.slice A2 l2.length d2)).setCell ⟨w.heap.size + 1, 3, none⟩ (.bool b3)).setCell ⟨w.heap.size + 1, 4, none⟩ (.slice A4 l4.length d4)).setCell ⟨w.heap.size + 1, 5, none⟩ (.int .u8 q5)).setCell ⟨w.heap.size + 1, 6, none⟩ (.int .i64 q6)).setCell ⟨w.heap.size + 1, 7, none⟩ (.int .i64 q7)) (w.heap.size + 1) 27 #[.int .u8 q0, .slice A1 l1.length d1, .slice A2 l2.length d2, .bool b3, .slice A4 l4.length d4, .int .u8 q5, .int .i64 q6, .int .i64 q7, .bool false, .int .u8 0] := y6.set 7 (.int .i64 q7)
        have y8 : Bx (((((((((wc.setCell ⟨w.heap.size + 1, 0, none⟩ (.int .u8 q0)).setCell ⟨w.heap.size + 1, 1, none⟩ (.slice A1 l1.length d1)).setCell ⟨w.heap.size + 1, 2, none⟩ (.slice A2 l2.length d2)).setCell ⟨w.heap.size + 1, 3, none⟩ (.bool b3)).setCell ⟨w.heap.size + 1, 4, none⟩ (.slice A4 l4.length d4)).setCell ⟨w.heap.size + 1, 5, none⟩ (.int .u8 q5)).setCell ⟨w.heap.size + 1, 6, none⟩ (.int .i64 q6)).setCell ⟨w.heap.size + 1, 7, none⟩ (.int .i64 q7)).setCell ⟨w.heap.size + 1, 8, none⟩ (.bool b8)) (w.heap.size + 1) 27 #[.int .u8 q0, .slice A1 l1.length d1, .slice A2 l2.length d2, .bool b3, .slice A4 l4.length d4, .int .u8 q5, .int .i64 q6, .int .i64 q7, .bool b8, .int .u8 0] := y7.set 8 (.bool b8)
        have hZ : Bx ((((((((((wc.setCell ⟨w.heap.size + 1, 0, none⟩ (.int .u8 q0)).setCell ⟨w.heap.size + 1, 1, none⟩ (.slice A1 l1.length d1)).setCell ⟨w.heap.size + 1, 2, none⟩ (.slice A2 l2.length d2)).setCell ⟨w.heap.size + 1, 3, none⟩ (.bool b3)).setCell ⟨w.heap.size + 1, 4, none⟩ (.slice A4 l4.length d4)).setCell ⟨w.heap.size + 1, 5, none⟩ (.int .u8 q5)).setCell ⟨w.heap.size + 1, 6, none⟩ (.int .i64 q6)).setCell ⟨w.heap.size + 1, 7, none⟩ (.int .i64 q7)).setCell ⟨w.heap.size + 1, 8, none⟩ (.bool b8)).setCell ⟨w.heap.size + 1, 9, none⟩ (.int .u8 q9)) (w.heap.size + 1) 27 #[.int .u8 q0, .slice A1 l1.length d1, .slice A2 l2.length d2, .bool b3, .slice A4 l4.length d4, .int .u8 q5, .int .i64 q6, .int .i64 q7, .bool b8, .int .u8 q9] := y8.set 9 (.int .u8 q9)
        clear y0 y1 y2 y3 y4 y5 y6 y7 y8
        have r1 : ((((((((((wc.setCell ⟨w.heap.size + 1, 0, none⟩ (.int .u8 q0)).setCell ⟨w.heap.size + 1, 1, none⟩ (.slice A1 l1.length d1)).setCell ⟨w.heap.size + 1, 2, none⟩ (.slice A2 l2.length d2)).setCell ⟨w.heap.size + 1, 3, none⟩ (.bool b3)).setCell ⟨w.heap.size + 1, 4, none⟩ (.slice A4 l4.length d4)).setCell ⟨w.heap.size + 1, 5, none⟩ (.int .u8 q5)).setCell ⟨w.heap.size + 1, 6, none⟩ (.int .i64 q6)).setCell ⟨w.heap.size + 1, 7, none⟩ (.int .i64 q7)).setCell ⟨w.heap.size + 1, 8, none⟩ (.bool b8)).setCell ⟨w.heap.size + 1, 9, none⟩ (.int .u8 q9)).ownsRow w.heap.size 50 5 (.slice A1 l1.length d1) l1.length (ndcells l1) := by with_reducible repeat (first | exact R1 | exact e1 | refine ownsRow_setCell_other ?_ ?_ _)
        have r4 : ((((((((((wc.setCell ⟨w.heap.size + 1, 0, none⟩ (.int .u8 q0)).setCell ⟨w.heap.size + 1, 1, none⟩ (.slice A1 l1.length d1)).setCell ⟨w.heap.size + 1, 2, none⟩ (.slice A2 l2.length d2)).setCell ⟨w.heap.size + 1, 3, none⟩ (.bool b3)).setCell ⟨w.heap.size + 1, 4, none⟩ (.slice A4 l4.length d4)).setCell ⟨w.heap.size + 1, 5, none⟩ (.int .u8 q5)).setCell ⟨w.heap.size + 1, 6, none⟩ (.int .i64 q6)).setCell ⟨w.heap.size + 1, 7, none⟩ (.int .i64 q7)).setCell ⟨w.heap.size + 1, 8, none⟩ (.bool b8)).setCell ⟨w.heap.size + 1, 9, none⟩ (.int .u8 q9)).ownsRow w.heap.size 50 5 (.slice A4 l4.length d4) l4.length (ndcells l4) := by with_reducible repeat (first | exact R4 | exact e4 | refine ownsRow_setCell_other ?_ ?_ _)
        have r2 : ((((((((((wc.setCell ⟨w.heap.size + 1, 0, none⟩ (.int .u8 q0)).setCell ⟨w.heap.size + 1, 1, none⟩ (.slice A1 l1.length d1)).setCell ⟨w.heap.size + 1, 2, none⟩ (.slice A2 l2.length d2)).setCell ⟨w.heap.size + 1, 3, none⟩ (.bool b3)).setCell ⟨w.heap.size + 1, 4, none⟩ (.slice A4 l4.length d4)).setCell ⟨w.heap.size + 1, 5, none⟩ (.int .u8 q5)).setCell ⟨w.heap.size + 1, 6, none⟩ (.int .i64 q6)).setCell ⟨w.heap.size + 1, 7, none⟩ (.int .i64 q7)).setCell ⟨w.heap.size + 1, 8, none⟩ (.bool b8)).setCell ⟨w.heap.size + 1, 9, none⟩ (.int .u8 q9)).ownsRow w.heap.size 3 1 (.slice A2 l2.length d2) l2.length (ivals l2) := by with_reducible repeat (first | exact R2 | exact e2 | refine ownsRow_setCell_other ?_ ?_ _)
        have hb : Below w.heap.size w ((((((((((wc.setCell ⟨w.heap.size + 1, 0, none⟩ (.int .u8 q0)).setCell ⟨w.heap.size + 1, 1, none⟩ (.slice A1 l1.length d1)).setCell ⟨w.heap.size + 1, 2, none⟩ (.slice A2 l2.length d2)).setCell ⟨w.heap.size + 1, 3, none⟩ (.bool b3)).setCell ⟨w.heap.size + 1, 4, none⟩ (.slice A4 l4.length d4)).setCell ⟨w.heap.size + 1, 5, none⟩ (.int .u8 q5)).setCell ⟨w.heap.size + 1, 6, none⟩ (.int .i64 q6)).setCell ⟨w.heap.size + 1, 7, none⟩ (.int .i64 q7)).setCell ⟨w.heap.size + 1, 8, none⟩ (.bool b8)).setCell ⟨w.heap.size + 1, 9, none⟩ (.int .u8 q9)) := by with_reducible repeat (first | exact hB | exact hle | refine Below.setCell ?_ ?_ _)
        generalize ((((((((((wc.setCell ⟨w.heap.size + 1, 0, none⟩ (.int .u8 q0)).setCell ⟨w.heap.size + 1, 1, none⟩ (.slice A1 l1.length d1)).setCell ⟨w.heap.size + 1, 2, none⟩ (.slice A2 l2.length d2)).setCell ⟨w.heap.size + 1, 3, none⟩ (.bool b3)).setCell ⟨w.heap.size + 1, 4, none⟩ (.slice A4 l4.length d4)).setCell ⟨w.heap.size + 1, 5, none⟩ (.int .u8 q5)).setCell ⟨w.heap.size + 1, 6, none⟩ (.int .i64 q6)).setCell ⟨w.heap.size + 1, 7, none⟩ (.int .i64 q7)).setCell ⟨w.heap.size + 1, 8, none⟩ (.bool b8)).setCell ⟨w.heap.size + 1, 9, none⟩ (.int .u8 q9)) = W at hZ r1 r2 r4 hb ⊢
        clear hX hY R1 R2 R4 p0 p1 p2 p3 p4 p5 p6 p7 p8 p9 z0 z1 z2 z3 z4 z5 z6 z7 z8 z9 f0 f1 f2 f3 f4 f5 f6 f7 f8 f9 hB e1 e2 e4
        have hlt := hZ.lt
        have ⟨p0, p1, p2, p3, p4, p5, p6, p7, p8, p9, _⟩ := hZ.ten
        refine bodyPost_ret (v := qval ⟨A1, d1, A2, d2, A4, d4⟩ ⟨q0, l1, l2, b3, l4, q5, q6, q7, b8, q9⟩) (by unfold qval; simp [results, Tryd.results19, go_sem, p0, p1, p2, p3, p4, p5, p6, p7, p8, p9]) rfl ?_
        refine ⟨hb, _, rfl, ⟨rdn_own r1 (Below.refl _ _), rdi_own r2 (Below.refl _ _), rdn_own r4 (Below.refl _ _), ?_, ?_, ?_⟩, r1, r2, r4⟩
        · obtain ⟨_, _, h, hh, _⟩ := own_slice r1; injection h with _ _ h; simp only; omega
        · obtain ⟨_, _, h, hh, _⟩ := own_slice r2; injection h with _ _ h; simp only; omega
        · obtain ⟨_, _, h, hh, _⟩ := own_slice r4; injection h with _ _ h; simp only; omega
end Go.Proofs.YthijjpbkpmojbaaDoor
