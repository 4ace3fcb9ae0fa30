import Derived.Test.YthijjpbkpmojbaaDoorPtext
/-! Layer 22: the law PlanTells, walked. -/
namespace Go.Proofs.YthijjpbkpmojbaaDoor
open Go.RowKit Tw
set_option linter.unusedVariables false
set_option linter.unusedSimpArgs false
set_option maxHeartbeats 4000000 in
set_option maxRecDepth 100000 in
theorem same22_calls (S1 S2 : Option Addr) (st : List Int) (c1 c2 : Nat) (p1 p2 : QAt) (q : Qr) (w : World) (h1 : RdU w S1 st) (h2 : RdU w S2 st) (r1 : RdQ w p1 q) (r2 : RdQ w p2 q) :
    Calls Tryd.prog 9 #[planval S1 st.length c1 p1 q, planval S2 st.length c2 p2 q] w fun e w' => e = .returned (.bool true) ∧ Below w.heap.size w w' := by
  have k1 := fun W (h : RdQ W p1 q) (h' : RdQ W p2 q) => sameQ_calls p1 p2 q q W h h'
  rw [exactQ_self] at k1
  unfold qval at k1
  replace k1 := Lib.hid k1
  unfold planval
  have HB := below_alloc (below_alloc (Below.refl w.heap.size w) (.cells #[.slice S1 st.length c1, .int .u8 q.ag, .slice p1.a1 q.arg.length p1.c1, .slice p1.a2 q.src.length p1.c2, .bool q.jn, .slice p1.a4 q.wh.length p1.c4, .int .u8 q.wk, .int .i64 q.ws, .int .i64 q.we, .bool q.bk, .int .u8 q.lt] 30)) (.cells #[.slice S2 st.length c2, .int .u8 q.ag, .slice p2.a1 q.arg.length p2.c1, .slice p2.a2 q.src.length p2.c2, .bool q.jn, .slice p2.a4 q.wh.length p2.c4, .int .u8 q.wk, .int .i64 q.ws, .int .i64 q.we, .bool q.bk, .int .u8 q.lt] 30)
  have HX := (Bx.new w 30 #[.slice S1 st.length c1, .int .u8 q.ag, .slice p1.a1 q.arg.length p1.c1, .slice p1.a2 q.src.length p1.c2, .bool q.jn, .slice p1.a4 q.wh.length p1.c4, .int .u8 q.wk, .int .i64 q.ws, .int .i64 q.we, .bool q.bk, .int .u8 q.lt]).alloc (.cells #[.slice S2 st.length c2, .int .u8 q.ag, .slice p2.a1 q.arg.length p2.c1, .slice p2.a2 q.src.length p2.c2, .bool q.jn, .slice p2.a4 q.wh.length p2.c4, .int .u8 q.wk, .int .i64 q.ws, .int .i64 q.we, .bool q.bk, .int .u8 q.lt] 30)
  have HY := Bx.new' (w := w.alloc (.cells #[.slice S1 st.length c1, .int .u8 q.ag, .slice p1.a1 q.arg.length p1.c1, .slice p1.a2 q.src.length p1.c2, .bool q.jn, .slice p1.a4 q.wh.length p1.c4, .int .u8 q.wk, .int .i64 q.ws, .int .i64 q.we, .bool q.bk, .int .u8 q.lt] 30)) (b := w.heap.size + 1) (by simp) 30 #[.slice S2 st.length c2, .int .u8 q.ag, .slice p2.a1 q.arg.length p2.c1, .slice p2.a2 q.src.length p2.c2, .bool q.jn, .slice p2.a4 q.wh.length p2.c4, .int .u8 q.wk, .int .i64 q.ws, .int .i64 q.we, .bool q.bk, .int .u8 q.lt]
  go_enter Tryd.func9, Tryd.ntmps9
  go_upto_region 1 with fail
  generalize (w.alloc (.cells #[.slice S1 st.length c1, .int .u8 q.ag, .slice p1.a1 q.arg.length p1.c1, .slice p1.a2 q.src.length p1.c2, .bool q.jn, .slice p1.a4 q.wh.length p1.c4, .int .u8 q.wk, .int .i64 q.ws, .int .i64 q.we, .bool q.bk, .int .u8 q.lt] 30)).alloc (.cells #[.slice S2 st.length c2, .int .u8 q.ag, .slice p2.a1 q.arg.length p2.c1, .slice p2.a2 q.src.length p2.c2, .bool q.jn, .slice p2.a4 q.wh.length p2.c4, .int .u8 q.wk, .int .i64 q.ws, .int .i64 q.we, .bool q.bk, .int .u8 q.lt] 30) = W at HB HX HY ⊢
  have hc1 := conv_bytes S1 c1 st W (h1.below HB)
  have hc2 := conv_bytes S2 c2 st W (h2.below HB)
  have ⟨x0, x1, x2, x3, x4, x5, x6, x7, x8, x9, x10, _⟩ := HX.eleven
  have ⟨y0, y1, y2, y3, y4, y5, y6, y7, y8, y9, y10, _⟩ := HY.eleven
  go_wp2_with (go_at_call 24; (with_reducible refine (k1.out _ (r1.below HB) (r2.below HB)).mono ?_); rintro e w1 ⟨rfl, hb1⟩)
  go_ret
  exact ⟨rfl, below_trans HB hb1⟩
set_option maxHeartbeats 8000000 in
set_option maxRecDepth 100000 in
theorem ptells_calls (p : QAt) (q : Qr) (S : Option Addr) (st : List Int) (c : Nat) (pp : QAt) (pq : Qr) (w : World) (hr : RdQ w p q) (hn : NilQ p q) (hw : QWf q) (hS : RdU w S st) (hu : ∀ x ∈ st, U8 x) (hrp : RdQ w pp pq) (hwp : QWf pq) (hT : Tab w) :
    Calls Tryd.prog 3 #[qval p q, planval S st.length c pp pq] w fun e w' => e = .returned (.bool true) ∧ Below w.heap.size w w' := by
  have k1 := fun W (h : RdQ W p q) => great08_calls p q W h
  have k1' := fun W (h : RdQ W pp pq) => great08_calls pp pq W h
  have k2 := fun W (h : RdQ W p q) b1 b2 b4 => pof_calls p q W h hn b1 b2 b4
  have k3 := fun W (h : RdQ W p q) b1 b2 b4 => of22_calls p q W h hn hw.ws.2 b1 b2 b4
  have k4 := fun W (h : RdU W S st) (h' : RdQ W pp pq) (ht : Tab W) => ptext_calls S st c pp pq W h h' ht hwp
  have k5 := fun W (h : RdU W S st) (h' : RdQ W pp pq) => ptext22_calls S st c pp pq W h h' hu hwp
  have k6 := fun W (h : RdU W S st) (h' : RdQ W pp pq) => pcheck_calls S st c pp pq W h h'
  have k7 := fun W (h : RdU W S st) (h' : RdQ W pp pq) => pcheck22_calls S st c pp pq W h h' hu hwp.ws.2
  unfold qval at k1 k1' k2 k3 ⊢
  unfold planval at k4 k5 k6 k7 ⊢
  replace k1 := Lib.hid k1
  replace k1' := Lib.hid k1'
  replace k2 := Lib.hid k2
  replace k3 := Lib.hid k3
  replace k4 := Lib.hid k4
  replace k5 := Lib.hid k5
  replace k6 := Lib.hid k6
  replace k7 := Lib.hid k7
  have hm := hS.1
  have HB := below_alloc (below_alloc (Below.refl w.heap.size w) (.cells #[.int .u8 q.ag, .slice p.a1 q.arg.length p.c1, .slice p.a2 q.src.length p.c2, .bool q.jn, .slice p.a4 q.wh.length p.c4, .int .u8 q.wk, .int .i64 q.ws, .int .i64 q.we, .bool q.bk, .int .u8 q.lt] 27)) (.cells #[.slice S st.length c, .int .u8 pq.ag, .slice pp.a1 pq.arg.length pp.c1, .slice pp.a2 pq.src.length pp.c2, .bool pq.jn, .slice pp.a4 pq.wh.length pp.c4, .int .u8 pq.wk, .int .i64 pq.ws, .int .i64 pq.we, .bool pq.bk, .int .u8 pq.lt] 30)
  have HX := (Bx.new w 27 #[.int .u8 q.ag, .slice p.a1 q.arg.length p.c1, .slice p.a2 q.src.length p.c2, .bool q.jn, .slice p.a4 q.wh.length p.c4, .int .u8 q.wk, .int .i64 q.ws, .int .i64 q.we, .bool q.bk, .int .u8 q.lt]).alloc (.cells #[.slice S st.length c, .int .u8 pq.ag, .slice pp.a1 pq.arg.length pp.c1, .slice pp.a2 pq.src.length pp.c2, .bool pq.jn, .slice pp.a4 pq.wh.length pp.c4, .int .u8 pq.wk, .int .i64 pq.ws, .int .i64 pq.we, .bool pq.bk, .int .u8 pq.lt] 30)
  have HY := Bx.new' (w := w.alloc (.cells #[.int .u8 q.ag, .slice p.a1 q.arg.length p.c1, .slice p.a2 q.src.length p.c2, .bool q.jn, .slice p.a4 q.wh.length p.c4, .int .u8 q.wk, .int .i64 q.ws, .int .i64 q.we, .bool q.bk, .int .u8 q.lt] 27)) (b := w.heap.size + 1) (by simp) 30 #[.slice S st.length c, .int .u8 pq.ag, .slice pp.a1 pq.arg.length pp.c1, .slice pp.a2 pq.src.length pp.c2, .bool pq.jn, .slice pp.a4 pq.wh.length pp.c4, .int .u8 pq.wk, .int .i64 pq.ws, .int .i64 pq.we, .bool pq.bk, .int .u8 pq.lt]
  by_cases hg : greatQ q = false ∧ greatQ pq = false ∧ st.length ≤ 30
  · obtain ⟨g1, g2, g3⟩ := hg
    have hgb : q.arg.length ≤ 100 ∧ q.src.length ≤ 100 ∧ q.wh.length ≤ 100 := by
      unfold greatQ at g1
      rw [decide_eq_false_iff_not] at g1
      omega
    obtain ⟨b1, b2, b4⟩ := hgb
    have G1 := Lib.hid g1
    have G2 := Lib.hid g2
    clear g1 g2
    go_enter Tryd.func3, Tryd.ntmps3
    go_upto_region 1 with fail
    generalize (w.alloc (.cells #[.int .u8 q.ag, .slice p.a1 q.arg.length p.c1, .slice p.a2 q.src.length p.c2, .bool q.jn, .slice p.a4 q.wh.length p.c4, .int .u8 q.wk, .int .i64 q.ws, .int .i64 q.we, .bool q.bk, .int .u8 q.lt] 27)).alloc (.cells #[.slice S st.length c, .int .u8 pq.ag, .slice pp.a1 pq.arg.length pp.c1, .slice pp.a2 pq.src.length pp.c2, .bool pq.jn, .slice pp.a4 pq.wh.length pp.c4, .int .u8 pq.wk, .int .i64 pq.ws, .int .i64 pq.we, .bool pq.bk, .int .u8 pq.lt] 30) = W at HB HX HY ⊢
    have ⟨x0, x1, x2, x3, x4, x5, x6, x7, x8, x9, _⟩ := HX.ten
    have ⟨y0, y1, y2, y3, y4, y5, y6, y7, y8, y9, y10, _⟩ := HY.eleven
    go_upto_region 7 with (first
      | (go_at_call 4; (with_reducible refine (k1.out _ (hr.below HB)).mono ?_); rw [G1.out]; rintro e w1 ⟨rfl, hb1⟩; have B1 := below_trans HB hb1; have X1 := HX.below hb1; have Y1 := HY.below hb1; have ⟨x0, x1, x2, x3, x4, x5, x6, x7, x8, x9, _⟩ := X1.ten; have ⟨y0, y1, y2, y3, y4, y5, y6, y7, y8, y9, y10, _⟩ := Y1.eleven)
      | (go_at_call 4; (with_reducible refine (k1'.out _ (hrp.below B1)).mono ?_); rw [G2.out]; rintro e w2 ⟨rfl, hb2⟩; have B2 := below_trans B1 hb2; have X2 := X1.below hb2; have Y2 := Y1.below hb2; have ⟨x0, x1, x2, x3, x4, x5, x6, x7, x8, x9, _⟩ := X2.ten; have ⟨y0, y1, y2, y3, y4, y5, y6, y7, y8, y9, y10, _⟩ := Y2.eleven)
      | (go_at_call 5; (with_reducible refine (k2.out _ (hr.below B2) b1 b2 b4).mono ?_); rintro e w3 ⟨hb3, S1, c1, p1, rfl, s1, r1⟩; unfold planval; have B3 := below_alloc (below_trans B2 hb3) (.cells #[.slice S1 (planOf q).1.length c1, .int .u8 (planOf q).2.ag, .slice p1.a1 (planOf q).2.arg.length p1.c1, .slice p1.a2 (planOf q).2.src.length p1.c2, .bool (planOf q).2.jn, .slice p1.a4 (planOf q).2.wh.length p1.c4, .int .u8 (planOf q).2.wk, .int .i64 (planOf q).2.ws, .int .i64 (planOf q).2.we, .bool (planOf q).2.bk, .int .u8 (planOf q).2.lt] 30); have X3 := (X2.below hb3).alloc (.cells #[.slice S1 (planOf q).1.length c1, .int .u8 (planOf q).2.ag, .slice p1.a1 (planOf q).2.arg.length p1.c1, .slice p1.a2 (planOf q).2.src.length p1.c2, .bool (planOf q).2.jn, .slice p1.a4 (planOf q).2.wh.length p1.c4, .int .u8 (planOf q).2.wk, .int .i64 (planOf q).2.ws, .int .i64 (planOf q).2.we, .bool (planOf q).2.bk, .int .u8 (planOf q).2.lt] 30); have Y3 := (Y2.below hb3).alloc (.cells #[.slice S1 (planOf q).1.length c1, .int .u8 (planOf q).2.ag, .slice p1.a1 (planOf q).2.arg.length p1.c1, .slice p1.a2 (planOf q).2.src.length p1.c2, .bool (planOf q).2.jn, .slice p1.a4 (planOf q).2.wh.length p1.c4, .int .u8 (planOf q).2.wk, .int .i64 (planOf q).2.ws, .int .i64 (planOf q).2.we, .bool (planOf q).2.bk, .int .u8 (planOf q).2.lt] 30); have Z3 := Bx.new w3 30 #[.slice S1 (planOf q).1.length c1, .int .u8 (planOf q).2.ag, .slice p1.a1 (planOf q).2.arg.length p1.c1, .slice p1.a2 (planOf q).2.src.length p1.c2, .bool (planOf q).2.jn, .slice p1.a4 (planOf q).2.wh.length p1.c4, .int .u8 (planOf q).2.wk, .int .i64 (planOf q).2.ws, .int .i64 (planOf q).2.we, .bool (planOf q).2.bk, .int .u8 (planOf q).2.lt]; have s1 := s1.below (below_alloc (Below.refl _ _) (.cells #[.slice S1 (planOf q).1.length c1, .int .u8 (planOf q).2.ag, .slice p1.a1 (planOf q).2.arg.length p1.c1, .slice p1.a2 (planOf q).2.src.length p1.c2, .bool (planOf q).2.jn, .slice p1.a4 (planOf q).2.wh.length p1.c4, .int .u8 (planOf q).2.wk, .int .i64 (planOf q).2.ws, .int .i64 (planOf q).2.we, .bool (planOf q).2.bk, .int .u8 (planOf q).2.lt] 30)); have r1 := r1.below (below_alloc (Below.refl _ _) (.cells #[.slice S1 (planOf q).1.length c1, .int .u8 (planOf q).2.ag, .slice p1.a1 (planOf q).2.arg.length p1.c1, .slice p1.a2 (planOf q).2.src.length p1.c2, .bool (planOf q).2.jn, .slice p1.a4 (planOf q).2.wh.length p1.c4, .int .u8 (planOf q).2.wk, .int .i64 (planOf q).2.ws, .int .i64 (planOf q).2.we, .bool (planOf q).2.bk, .int .u8 (planOf q).2.lt] 30)); have ⟨x0, x1, x2, x3, x4, x5, x6, x7, x8, x9, _⟩ := X3.ten; have ⟨y0, y1, y2, y3, y4, y5, y6, y7, y8, y9, y10, _⟩ := Y3.eleven; have hl3 := X3.lt)
      | (go_at_call 6; (with_reducible refine (k3.out _ (hr.below B3) b1 b2 b4).mono ?_); rintro e w4 ⟨hb4, S2, c2, p2, rfl, s2, r2⟩; unfold planval; have hb4' := below_alloc hb4 (.cells #[.slice S2 (planOf q).1.length c2, .int .u8 (planOf q).2.ag, .slice p2.a1 (planOf q).2.arg.length p2.c1, .slice p2.a2 (planOf q).2.src.length p2.c2, .bool (planOf q).2.jn, .slice p2.a4 (planOf q).2.wh.length p2.c4, .int .u8 (planOf q).2.wk, .int .i64 (planOf q).2.ws, .int .i64 (planOf q).2.we, .bool (planOf q).2.bk, .int .u8 (planOf q).2.lt] 30); have B4 := below_trans B3 hb4'; have X4 := X3.below hb4'; have Y4 := Y3.below hb4'; have Z4 := Z3.below hb4'; have s1 := s1.below hb4'; have r1 := r1.below hb4'; have V4 := Bx.new w4 30 #[.slice S2 (planOf q).1.length c2, .int .u8 (planOf q).2.ag, .slice p2.a1 (planOf q).2.arg.length p2.c1, .slice p2.a2 (planOf q).2.src.length p2.c2, .bool (planOf q).2.jn, .slice p2.a4 (planOf q).2.wh.length p2.c4, .int .u8 (planOf q).2.wk, .int .i64 (planOf q).2.ws, .int .i64 (planOf q).2.we, .bool (planOf q).2.bk, .int .u8 (planOf q).2.lt]; have s2 := s2.below (below_alloc (Below.refl _ _) (.cells #[.slice S2 (planOf q).1.length c2, .int .u8 (planOf q).2.ag, .slice p2.a1 (planOf q).2.arg.length p2.c1, .slice p2.a2 (planOf q).2.src.length p2.c2, .bool (planOf q).2.jn, .slice p2.a4 (planOf q).2.wh.length p2.c4, .int .u8 (planOf q).2.wk, .int .i64 (planOf q).2.ws, .int .i64 (planOf q).2.we, .bool (planOf q).2.bk, .int .u8 (planOf q).2.lt] 30)); have r2 := r2.below (below_alloc (Below.refl _ _) (.cells #[.slice S2 (planOf q).1.length c2, .int .u8 (planOf q).2.ag, .slice p2.a1 (planOf q).2.arg.length p2.c1, .slice p2.a2 (planOf q).2.src.length p2.c2, .bool (planOf q).2.jn, .slice p2.a4 (planOf q).2.wh.length p2.c4, .int .u8 (planOf q).2.wk, .int .i64 (planOf q).2.ws, .int .i64 (planOf q).2.we, .bool (planOf q).2.bk, .int .u8 (planOf q).2.lt] 30)); have ⟨x0, x1, x2, x3, x4, x5, x6, x7, x8, x9, _⟩ := X4.ten; have ⟨y0, y1, y2, y3, y4, y5, y6, y7, y8, y9, y10, _⟩ := Y4.eleven; have hl4 := X4.lt)
      | (go_at_call 7; (with_reducible refine (k4.out _ (hS.below B4) (hrp.below B4) (hT.below B4)).mono ?_); rintro e w5 ⟨rfl, hb5⟩; have B5 := below_trans B4 hb5; have Y5 := Y4.below hb5; have Z5 := Z4.below hb5; have V5 := V4.below hb5; have s1 := s1.below hb5; have r1 := r1.below hb5; have s2 := s2.below hb5; have r2 := r2.below hb5; have ⟨y0, y1, y2, y3, y4, y5, y6, y7, y8, y9, y10, _⟩ := Y5.eleven)
      | (go_at_call 8; (with_reducible refine (k5.out _ (hS.below B5) (hrp.below B5)).mono ?_); rintro e w6 ⟨rfl, hb6⟩; have B6 := below_trans B5 hb6; have Y6 := Y5.below hb6; have Z6 := Z5.below hb6; have V6 := V5.below hb6; have s1 := s1.below hb6; have r1 := r1.below hb6; have s2 := s2.below hb6; have r2 := r2.below hb6))
    have k8 := fun W (a : RdU W S1 (planOf q).1) (b : RdU W S2 (planOf q).1) (d : RdQ W p1 (planOf q).2) (e : RdQ W p2 (planOf q).2) => same22_calls S1 S2 (planOf q).1 c1 c2 p1 p2 (planOf q).2 W a b d e
    unfold planval at k8
    replace k8 := Lib.hid k8
    have hbd := below_drew (Below.refl w6.heap.size w6)
    have Yd := Y6.drew
    have Zd := Z6.drew
    have Vd := V6.drew
    have Bd := below_drew B6
    clear HB HX HY B1 B2 B3 B4 B5 x0 x1 x2 x3 x4 x5 x6 x7 x8 x9 y0 y1 y2 y3 y4 y5 y6 y7 y8 y9 y10 X1 X2 X3 X4 Y1 Y2 Y3 Y4 Y5 Z3 Z4 Z5 V4 V5 k1 k1' k2 k3 k4 k5
    refine wp_region_noPanic ?_
    refine wp_region_held_drew (S := fun W => Bx W (w.heap.size + 1) 30 #[.slice S st.length c, .int .u8 pq.ag, .slice pp.a1 pq.arg.length pp.c1, .slice pp.a2 pq.src.length pp.c2, .bool pq.jn, .slice pp.a4 pq.wh.length pp.c4, .int .u8 pq.wk, .int .i64 pq.ws, .int .i64 pq.we, .bool pq.bk, .int .u8 pq.lt] ∧ Bx W w3.heap.size 30 #[.slice S1 (planOf q).1.length c1, .int .u8 (planOf q).2.ag, .slice p1.a1 (planOf q).2.arg.length p1.c1, .slice p1.a2 (planOf q).2.src.length p1.c2, .bool (planOf q).2.jn, .slice p1.a4 (planOf q).2.wh.length p1.c4, .int .u8 (planOf q).2.wk, .int .i64 (planOf q).2.ws, .int .i64 (planOf q).2.we, .bool (planOf q).2.bk, .int .u8 (planOf q).2.lt] ∧ Bx W w4.heap.size 30 #[.slice S2 (planOf q).1.length c2, .int .u8 (planOf q).2.ag, .slice p2.a1 (planOf q).2.arg.length p2.c1, .slice p2.a2 (planOf q).2.src.length p2.c2, .bool (planOf q).2.jn, .slice p2.a4 (planOf q).2.wh.length p2.c4, .int .u8 (planOf q).2.wk, .int .i64 (planOf q).2.ws, .int .i64 (planOf q).2.we, .bool (planOf q).2.bk, .int .u8 (planOf q).2.lt]) (by kernel_rfl) (And.intro Yd (And.intro Zd Vd)) (fun hHeld => ?_)
    (refine wpAnyH_take (i := 0) (oi := _) (v := ?_) rfl (by kernel_rfl) (by kernel_rfl) (by kernel_rfl) (fun _ _ _ h => h) (Or.inl ⟨by rfl, ?_⟩) (by assumption) ?_); rotate_left; (intro W hS; have ⟨g0, g1, g2, g3, g4, g5, g6, g7, g8, g9, g10, _⟩ := hS.2.1.eleven; clear hS; go_simp; try with_reducible rfl); (try simp only [Act.put, List.setIfInBounds_toArray, List.set_cons_zero, List.set_cons_succ, List.getElem_toArray, List.getElem_cons_zero, List.getElem_cons_succ])
    (refine wpAnyH_take (i := 1) (oi := _) (v := ?_) rfl (by kernel_rfl) (by kernel_rfl) (by kernel_rfl) (fun _ _ _ h => h) (Or.inl ⟨by rfl, ?_⟩) (by assumption) ?_); rotate_left; (intro W hS; have ⟨g0, g1, g2, g3, g4, g5, g6, g7, g8, g9, g10, _⟩ := hS.2.2.eleven; clear hS; go_simp; try with_reducible rfl); (try simp only [Act.put, List.setIfInBounds_toArray, List.set_cons_zero, List.set_cons_succ, List.getElem_toArray, List.getElem_cons_zero, List.getElem_cons_succ])
    (refine wpAnyH_ready (rs := [2]) (by kernel_rfl) (by simp) ?_); (refine AllReadyH.cons (o := _) rfl (fun K hK => ?_) AllReadyH.nil); go_simp
    (with_reducible refine (k8.out _ (s1.below hbd) (s2.below hbd) (r1.below hbd) (r2.below hbd)).mono ?_); rintro e w7 ⟨rfl, hb7⟩; have B7 := below_trans Bd hb7; have Y7 := Yd.below hb7; have Z7 := Zd.below hb7; have V7 := Vd.below hb7
    go_wp2_with fail
    refine hK.out _ _ (And.intro Y7 (And.intro Z7 V7)) (fun hHeld => ?_)
    clear hK K; (try simp only [Act.put, List.setIfInBounds_toArray, List.set_cons_zero, List.set_cons_succ, List.getElem_toArray, List.getElem_cons_zero, List.getElem_cons_succ])
    (refine wpAnyH_take (i := 3) (oi := _) (v := ?_) rfl (by kernel_rfl) (by kernel_rfl) (by kernel_rfl) (fun _ _ _ h => h) (Or.inl ⟨by rfl, ?_⟩) (by assumption) ?_); rotate_left; (intro W hS; clear hS; go_simp; try with_reducible rfl); (try simp only [Act.put, List.setIfInBounds_toArray, List.set_cons_zero, List.set_cons_succ, List.getElem_toArray, List.getElem_cons_zero, List.getElem_cons_succ])
    (refine wpAnyH_take (i := 4) (oi := _) (v := ?_) rfl (by kernel_rfl) (by kernel_rfl) (by kernel_rfl) (fun _ _ _ h => h) (Or.inl ⟨by rfl, ?_⟩) (by assumption) ?_); rotate_left; (intro W hS; clear hS; go_simp; try with_reducible rfl); (try simp only [Act.put, List.setIfInBounds_toArray, List.set_cons_zero, List.set_cons_succ, List.getElem_toArray, List.getElem_cons_zero, List.getElem_cons_succ])
    (refine wpAnyH_take (i := 5) (oi := _) (v := ?_) rfl (by kernel_rfl) (by kernel_rfl) (by kernel_rfl) (fun _ _ _ h => h) (Or.inl ⟨by rfl, ?_⟩) (by assumption) ?_); rotate_left; (intro W hS; clear hS; go_simp; try with_reducible rfl); (try simp only [Act.put, List.setIfInBounds_toArray, List.set_cons_zero, List.set_cons_succ, List.getElem_toArray, List.getElem_cons_zero, List.getElem_cons_succ])
    (refine wpAnyH_take (i := 6) (oi := _) (v := ?_) rfl (by kernel_rfl) (by kernel_rfl) (by kernel_rfl) (fun _ _ _ h => h) (Or.inl ⟨by rfl, ?_⟩) (by assumption) ?_); rotate_left; (intro W hS; clear hS; go_simp; try with_reducible rfl); (try simp only [Act.put, List.setIfInBounds_toArray, List.set_cons_zero, List.set_cons_succ, List.getElem_toArray, List.getElem_cons_zero, List.getElem_cons_succ])
    (refine wpAnyH_take (i := 7) (oi := _) (v := ?_) rfl (by kernel_rfl) (by kernel_rfl) (by kernel_rfl) (fun _ _ _ h => h) (Or.inl ⟨by rfl, ?_⟩) (by assumption) ?_); rotate_left; (intro W hS; clear hS; go_simp; try with_reducible rfl); (try simp only [Act.put, List.setIfInBounds_toArray, List.set_cons_zero, List.set_cons_succ, List.getElem_toArray, List.getElem_cons_zero, List.getElem_cons_succ])
    (refine wpAnyH_take (i := 8) (oi := _) (v := ?_) rfl (by kernel_rfl) (by kernel_rfl) (by kernel_rfl) (fun _ _ _ h => h) (Or.inl ⟨by rfl, ?_⟩) (by assumption) ?_); rotate_left; (intro W hS; clear hS; go_simp; try with_reducible rfl); (try simp only [Act.put, List.setIfInBounds_toArray, List.set_cons_zero, List.set_cons_succ, List.getElem_toArray, List.getElem_cons_zero, List.getElem_cons_succ])
    (refine wpAnyH_take (i := 9) (oi := _) (v := ?_) rfl (by kernel_rfl) (by kernel_rfl) (by kernel_rfl) (fun _ _ _ h => h) (Or.inl ⟨by rfl, ?_⟩) (by assumption) ?_); rotate_left; (intro W hS; clear hS; go_simp; try with_reducible rfl); (try simp only [Act.put, List.setIfInBounds_toArray, List.set_cons_zero, List.set_cons_succ, List.getElem_toArray, List.getElem_cons_zero, List.getElem_cons_succ])
    (refine wpAnyH_take (i := 10) (oi := _) (v := ?_) rfl (by kernel_rfl) (by kernel_rfl) (by kernel_rfl) (fun _ _ _ h => h) (Or.inl ⟨by rfl, ?_⟩) (by assumption) ?_); rotate_left; (intro W hS; clear hS; go_simp; try with_reducible rfl); (try simp only [Act.put, List.setIfInBounds_toArray, List.set_cons_zero, List.set_cons_succ, List.getElem_toArray, List.getElem_cons_zero, List.getElem_cons_succ])
    (refine wpAnyH_take (i := 11) (oi := _) (v := ?_) rfl (by kernel_rfl) (by kernel_rfl) (by kernel_rfl) (fun _ _ _ h => h) (Or.inl ⟨by rfl, ?_⟩) (by assumption) ?_); rotate_left; (intro W hS; clear hS; go_simp; try with_reducible rfl); (try simp only [Act.put, List.setIfInBounds_toArray, List.set_cons_zero, List.set_cons_succ, List.getElem_toArray, List.getElem_cons_zero, List.getElem_cons_succ])
    (refine wpAnyH_take (i := 12) (oi := _) (v := ?_) rfl (by kernel_rfl) (by kernel_rfl) (by kernel_rfl) (fun _ _ _ h => h) (Or.inl ⟨by rfl, ?_⟩) (by assumption) ?_); rotate_left; (intro W hS; clear hS; go_simp; try with_reducible rfl); (try simp only [Act.put, List.setIfInBounds_toArray, List.set_cons_zero, List.set_cons_succ, List.getElem_toArray, List.getElem_cons_zero, List.getElem_cons_succ])
    (refine wpAnyH_take (i := 13) (oi := _) (v := ?_) rfl (by kernel_rfl) (by kernel_rfl) (by kernel_rfl) (fun _ _ _ h => h) (Or.inl ⟨by rfl, ?_⟩) (by assumption) ?_); rotate_left; (intro W hS; clear hS; go_simp; try with_reducible rfl); (try simp only [Act.put, List.setIfInBounds_toArray, List.set_cons_zero, List.set_cons_succ, List.getElem_toArray, List.getElem_cons_zero, List.getElem_cons_succ])
    (refine wpAnyH_take (i := 14) (oi := _) (v := ?_) rfl (by kernel_rfl) (by kernel_rfl) (by kernel_rfl) (fun _ _ _ h => h) (Or.inl ⟨by rfl, ?_⟩) (by assumption) ?_); rotate_left; (intro W hS; clear hS; go_simp; try with_reducible rfl); (try simp only [Act.put, List.setIfInBounds_toArray, List.set_cons_zero, List.set_cons_succ, List.getElem_toArray, List.getElem_cons_zero, List.getElem_cons_succ])
    (refine wpAnyH_take (i := 15) (oi := _) (v := ?_) rfl (by kernel_rfl) (by kernel_rfl) (by kernel_rfl) (fun _ _ _ h => h) (Or.inl ⟨by rfl, ?_⟩) (by assumption) ?_); rotate_left; (intro W hS; clear hS; go_simp; try with_reducible rfl); (try simp only [Act.put, List.setIfInBounds_toArray, List.set_cons_zero, List.set_cons_succ, List.getElem_toArray, List.getElem_cons_zero, List.getElem_cons_succ])
    (refine wpAnyH_take (i := 16) (oi := _) (v := ?_) rfl (by kernel_rfl) (by kernel_rfl) (by kernel_rfl) (fun _ _ _ h => h) (Or.inl ⟨by rfl, ?_⟩) (by assumption) ?_); rotate_left; (intro W hS; clear hS; go_simp; try with_reducible rfl); (try simp only [Act.put, List.setIfInBounds_toArray, List.set_cons_zero, List.set_cons_succ, List.getElem_toArray, List.getElem_cons_zero, List.getElem_cons_succ])
    (refine wpAnyH_take (i := 17) (oi := _) (v := ?_) rfl (by kernel_rfl) (by kernel_rfl) (by kernel_rfl) (fun _ _ _ h => h) (Or.inl ⟨by rfl, ?_⟩) (by assumption) ?_); rotate_left; (intro W hS; clear hS; go_simp; try with_reducible rfl); (try simp only [Act.put, List.setIfInBounds_toArray, List.set_cons_zero, List.set_cons_succ, List.getElem_toArray, List.getElem_cons_zero, List.getElem_cons_succ])
    (refine wpAnyH_take (i := 18) (oi := _) (v := ?_) rfl (by kernel_rfl) (by kernel_rfl) (by kernel_rfl) (fun _ _ _ h => h) (Or.inl ⟨by rfl, ?_⟩) (by assumption) ?_); rotate_left; (intro W hS; clear hS; go_simp; try with_reducible rfl); (try simp only [Act.put, List.setIfInBounds_toArray, List.set_cons_zero, List.set_cons_succ, List.getElem_toArray, List.getElem_cons_zero, List.getElem_cons_succ])
    (refine wpAnyH_take (i := 19) (oi := _) (v := ?_) rfl (by kernel_rfl) (by kernel_rfl) (by kernel_rfl) (fun _ _ _ h => h) (Or.inl ⟨by rfl, ?_⟩) (by assumption) ?_); rotate_left; (intro W hS; have ⟨g0, g1, g2, g3, g4, g5, g6, g7, g8, g9, g10, _⟩ := hS.1.eleven; clear hS; go_simp; try with_reducible rfl); (try simp only [Act.put, List.setIfInBounds_toArray, List.set_cons_zero, List.set_cons_succ, List.getElem_toArray, List.getElem_cons_zero, List.getElem_cons_succ])
    (refine wpAnyH_take (i := 21) (oi := _) (v := ?_) rfl (by kernel_rfl) (by kernel_rfl) (by kernel_rfl) (fun _ _ _ h => h) (Or.inl ⟨by rfl, ?_⟩) (by assumption) ?_); rotate_left; (intro W hS; have ⟨g0, g1, g2, g3, g4, g5, g6, g7, g8, g9, g10, _⟩ := hS.1.eleven; clear hS; go_simp; try with_reducible rfl); (try simp only [Act.put, List.setIfInBounds_toArray, List.set_cons_zero, List.set_cons_succ, List.getElem_toArray, List.getElem_cons_zero, List.getElem_cons_succ])
    (refine wpAnyH_ready (rs := [20]) (by kernel_rfl) (by simp) ?_); (refine AllReadyH.cons (o := _) rfl (fun K hK => ?_) AllReadyH.nil); go_simp
    (with_reducible refine (k6.out _ (hS.below B7) (hrp.below B7)).mono ?_); rintro e w8 ⟨rfl, hb8⟩; have B8 := below_trans B7 hb8; have Y8 := Y7.below hb8; have Z8 := Z7.below hb8; have V8 := V7.below hb8
    go_wp2_with fail
    refine hK.out _ _ (And.intro Y8 (And.intro Z8 V8)) (fun hHeld => ?_)
    clear hK K; (try simp only [Act.put, List.setIfInBounds_toArray, List.set_cons_zero, List.set_cons_succ, List.getElem_toArray, List.getElem_cons_zero, List.getElem_cons_succ])
    (refine wpAnyH_ready (rs := [22]) (by kernel_rfl) (by simp) ?_); (refine AllReadyH.cons (o := _) rfl (fun K hK => ?_) AllReadyH.nil); go_simp
    (with_reducible refine (k7.out _ (hS.below B8) (hrp.below B8)).mono ?_); rintro e w9 ⟨rfl, hb9⟩; have B9 := below_trans B8 hb9; have Y9 := Y8.below hb9; have Z9 := Z8.below hb9; have V9 := V8.below hb9
    go_wp2_with fail
    refine hK.out _ _ (And.intro Y9 (And.intro Z9 V9)) (fun hHeld => ?_)
    clear hK K; (try simp only [Act.put, List.setIfInBounds_toArray, List.set_cons_zero, List.set_cons_succ, List.getElem_toArray, List.getElem_cons_zero, List.getElem_cons_succ])
    (refine wpAnyH_take (i := 23) (oi := _) (v := ?_) rfl (by kernel_rfl) (by kernel_rfl) (by kernel_rfl) (fun _ _ _ h => h) (Or.inl ⟨by rfl, ?_⟩) (by assumption) ?_); rotate_left; (intro W hS; clear hS; go_simp; try with_reducible rfl); (try simp only [Act.put, List.setIfInBounds_toArray, List.set_cons_zero, List.set_cons_succ, List.getElem_toArray, List.getElem_cons_zero, List.getElem_cons_succ])
    (refine wpAnyH_take (i := 24) (oi := _) (v := ?_) rfl (by kernel_rfl) (by kernel_rfl) (by kernel_rfl) (fun _ _ _ h => h) (Or.inl ⟨by rfl, ?_⟩) (by assumption) ?_); rotate_left; (intro W hS; clear hS; go_simp; try with_reducible rfl); (try simp only [Act.put, List.setIfInBounds_toArray, List.set_cons_zero, List.set_cons_succ, List.getElem_toArray, List.getElem_cons_zero, List.getElem_cons_succ])
    (refine wpAnyH_take (i := 25) (oi := _) (v := ?_) rfl (by kernel_rfl) (by kernel_rfl) (by kernel_rfl) (fun _ _ _ h => h) (Or.inl ⟨by rfl, ?_⟩) (by assumption) ?_); rotate_left; (intro W hS; clear hS; go_simp; try with_reducible rfl); (try simp only [Act.put, List.setIfInBounds_toArray, List.set_cons_zero, List.set_cons_succ, List.getElem_toArray, List.getElem_cons_zero, List.getElem_cons_succ])
    refine wpAnyH_done (by kernel_rfl) ?_ _
    refine NoPanic.normal ?_
    clear hHeld
    go_wp2_with fail
    go_ret
    exact ⟨rfl, B9⟩
  · cases g1 : greatQ q with
    | true =>
      have G1 := Lib.hid g1
      clear g1 hg
      go_enter Tryd.func3, Tryd.ntmps3
      go_upto_region 1 with fail
      generalize (w.alloc (.cells #[.int .u8 q.ag, .slice p.a1 q.arg.length p.c1, .slice p.a2 q.src.length p.c2, .bool q.jn, .slice p.a4 q.wh.length p.c4, .int .u8 q.wk, .int .i64 q.ws, .int .i64 q.we, .bool q.bk, .int .u8 q.lt] 27)).alloc (.cells #[.slice S st.length c, .int .u8 pq.ag, .slice pp.a1 pq.arg.length pp.c1, .slice pp.a2 pq.src.length pp.c2, .bool pq.jn, .slice pp.a4 pq.wh.length pp.c4, .int .u8 pq.wk, .int .i64 pq.ws, .int .i64 pq.we, .bool pq.bk, .int .u8 pq.lt] 30) = W at HB HX HY ⊢
      have ⟨x0, x1, x2, x3, x4, x5, x6, x7, x8, x9, _⟩ := HX.ten
      have ⟨y0, y1, y2, y3, y4, y5, y6, y7, y8, y9, y10, _⟩ := HY.eleven
      go_wp2_with (first
        | (go_at_call 4; (with_reducible refine (k1.out _ (hr.below HB)).mono ?_); rw [G1.out]; rintro e w1 ⟨rfl, hb1⟩; have B1 := below_trans HB hb1; have X1 := HX.below hb1; have Y1 := HY.below hb1; have ⟨x0, x1, x2, x3, x4, x5, x6, x7, x8, x9, _⟩ := X1.ten; have ⟨y0, y1, y2, y3, y4, y5, y6, y7, y8, y9, y10, _⟩ := Y1.eleven)
        | (go_at_call 4; (with_reducible refine (k1'.out _ (hrp.below B1)).mono ?_); rw [G2.out]; rintro e w2 ⟨rfl, hb2⟩; have B2 := below_trans B1 hb2; have X2 := X1.below hb2; have Y2 := Y1.below hb2; have ⟨x0, x1, x2, x3, x4, x5, x6, x7, x8, x9, _⟩ := X2.ten; have ⟨y0, y1, y2, y3, y4, y5, y6, y7, y8, y9, y10, _⟩ := Y2.eleven))
      go_ret
      exact ⟨rfl, B1⟩
    | false =>
      cases g2 : greatQ pq with
      | true =>
        have G1 := Lib.hid g1
        have G2 := Lib.hid g2
        clear g1 g2 hg
        go_enter Tryd.func3, Tryd.ntmps3
        go_upto_region 1 with fail
        generalize (w.alloc (.cells #[.int .u8 q.ag, .slice p.a1 q.arg.length p.c1, .slice p.a2 q.src.length p.c2, .bool q.jn, .slice p.a4 q.wh.length p.c4, .int .u8 q.wk, .int .i64 q.ws, .int .i64 q.we, .bool q.bk, .int .u8 q.lt] 27)).alloc (.cells #[.slice S st.length c, .int .u8 pq.ag, .slice pp.a1 pq.arg.length pp.c1, .slice pp.a2 pq.src.length pp.c2, .bool pq.jn, .slice pp.a4 pq.wh.length pp.c4, .int .u8 pq.wk, .int .i64 pq.ws, .int .i64 pq.we, .bool pq.bk, .int .u8 pq.lt] 30) = W at HB HX HY ⊢
        have ⟨x0, x1, x2, x3, x4, x5, x6, x7, x8, x9, _⟩ := HX.ten
        have ⟨y0, y1, y2, y3, y4, y5, y6, y7, y8, y9, y10, _⟩ := HY.eleven
        go_wp2_with (first
          | (go_at_call 4; (with_reducible refine (k1.out _ (hr.below HB)).mono ?_); rw [G1.out]; rintro e w1 ⟨rfl, hb1⟩; have B1 := below_trans HB hb1; have X1 := HX.below hb1; have Y1 := HY.below hb1; have ⟨x0, x1, x2, x3, x4, x5, x6, x7, x8, x9, _⟩ := X1.ten; have ⟨y0, y1, y2, y3, y4, y5, y6, y7, y8, y9, y10, _⟩ := Y1.eleven)
          | (go_at_call 4; (with_reducible refine (k1'.out _ (hrp.below B1)).mono ?_); rw [G2.out]; rintro e w2 ⟨rfl, hb2⟩; have B2 := below_trans B1 hb2; have X2 := X1.below hb2; have Y2 := Y1.below hb2; have ⟨x0, x1, x2, x3, x4, x5, x6, x7, x8, x9, _⟩ := X2.ten; have ⟨y0, y1, y2, y3, y4, y5, y6, y7, y8, y9, y10, _⟩ := Y2.eleven))
        go_ret
        exact ⟨rfl, B2⟩
      | false =>
        have h30 : 30 < st.length := by
          by_cases h : st.length ≤ 30
          · exact absurd ⟨g1, g2, h⟩ hg
          · omega
        have G1 := Lib.hid g1
        have G2 := Lib.hid g2
        clear g1 g2 hg
        go_enter Tryd.func3, Tryd.ntmps3
        go_upto_region 1 with fail
        generalize (w.alloc (.cells #[.int .u8 q.ag, .slice p.a1 q.arg.length p.c1, .slice p.a2 q.src.length p.c2, .bool q.jn, .slice p.a4 q.wh.length p.c4, .int .u8 q.wk, .int .i64 q.ws, .int .i64 q.we, .bool q.bk, .int .u8 q.lt] 27)).alloc (.cells #[.slice S st.length c, .int .u8 pq.ag, .slice pp.a1 pq.arg.length pp.c1, .slice pp.a2 pq.src.length pp.c2, .bool pq.jn, .slice pp.a4 pq.wh.length pp.c4, .int .u8 pq.wk, .int .i64 pq.ws, .int .i64 pq.we, .bool pq.bk, .int .u8 pq.lt] 30) = W at HB HX HY ⊢
        have ⟨x0, x1, x2, x3, x4, x5, x6, x7, x8, x9, _⟩ := HX.ten
        have ⟨y0, y1, y2, y3, y4, y5, y6, y7, y8, y9, y10, _⟩ := HY.eleven
        go_wp2_with (first
          | (go_at_call 4; (with_reducible refine (k1.out _ (hr.below HB)).mono ?_); rw [G1.out]; rintro e w1 ⟨rfl, hb1⟩; have B1 := below_trans HB hb1; have X1 := HX.below hb1; have Y1 := HY.below hb1; have ⟨x0, x1, x2, x3, x4, x5, x6, x7, x8, x9, _⟩ := X1.ten; have ⟨y0, y1, y2, y3, y4, y5, y6, y7, y8, y9, y10, _⟩ := Y1.eleven)
          | (go_at_call 4; (with_reducible refine (k1'.out _ (hrp.below B1)).mono ?_); rw [G2.out]; rintro e w2 ⟨rfl, hb2⟩; have B2 := below_trans B1 hb2; have X2 := X1.below hb2; have Y2 := Y1.below hb2; have ⟨x0, x1, x2, x3, x4, x5, x6, x7, x8, x9, _⟩ := X2.ten; have ⟨y0, y1, y2, y3, y4, y5, y6, y7, y8, y9, y10, _⟩ := Y2.eleven))
        go_ret
        exact ⟨rfl, B2⟩
end Go.Proofs.YthijjpbkpmojbaaDoor
