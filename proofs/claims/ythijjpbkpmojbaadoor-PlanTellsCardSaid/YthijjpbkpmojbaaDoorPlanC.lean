import Derived.Test.YthijjpbkpmojbaaDoorPlanB
import Derived.Test.YthijjpbkpmojbaaDoorRegion
import Derived.Deep.RegionWith
import Derived.Laws.Cover3
/-! Layer 22: Of and Check, the program's and the reference's. -/
namespace Go.Proofs.YthijjpbkpmojbaaDoor
open Go.RowKit Tw
set_option linter.unusedVariables false
set_option linter.unusedSimpArgs false
theorem own_mono {w : World} {B B' n : Nat} {e : TypeId} {size : Nat} {v : Value} {xs : List Value} (h : w.ownsRow B e size v n xs) (hB : B' ≤ B) : w.ownsRow B' e size v n xs := by
  refine ⟨h.1, ?_⟩
  rcases h.2 with h | ⟨g, cap, cur, h1, h2, h3⟩
  · exact .inl h
  · exact .inr ⟨g, cap, cur, h1, Nat.le_trans hB h2, h3⟩
theorem eqnilN (w : World) (a : Option Addr) (l c : Nat) : (binOp .eql 22 (.slice a l c) (.slice none 0 0)).run Tryd.prog w = .ok (.bool a.isNone) w := by
  simp only [binOp]
  simp [Go.run_equal_slice_nil w _ _ a l c Tryd.underlying22]
theorem eqnilI (w : World) (a : Option Addr) (l c : Nat) : (binOp .eql 23 (.slice a l c) (.slice none 0 0)).run Tryd.prog w = .ok (.bool a.isNone) w := by
  simp only [binOp]
  simp [Go.run_equal_slice_nil w _ _ a l c Tryd.underlying23]
attribute [local go_sem] eqnilN eqnilI
def CloneN (l : List Nd) (w : World) (e : Ending) (w' : World) : Prop := ∃ A c, e = .returned (.slice A l.length c) ∧ w'.ownsRow w.heap.size 50 5 (.slice A l.length c) l.length (ndcells l) ∧ Below w.heap.size w w'
def CloneI (l : List Int) (w : World) (e : Ending) (w' : World) : Prop := ∃ A c, e = .returned (.slice A l.length c) ∧ w'.ownsRow w.heap.size 3 1 (.slice A l.length c) l.length (ivals l) ∧ Below w.heap.size w w'
set_option maxHeartbeats 1000000 in
set_option maxRecDepth 100000 in
theorem cloneN_calls (A : Option Addr) (c : Nat) (l : List Nd) (w : World) (hR : RdN w A l) (hN : A = none → l.length = 0 ∧ c = 0) (hb : l.length ≤ 100) :
    Calls Tryd.prog 14 #[.slice A l.length c] w (CloneN l w) := by
  have HN := Lib.hid hN
  clear hN
  cases A with
  | none =>
    obtain ⟨h0, rfl⟩ := HN.out rfl
    obtain rfl : l = [] := List.length_eq_zero_iff.1 h0
    simp only [List.length_nil]
    go_enter Tryd.func14, Tryd.ntmps14
    go_wp2
    go_ret
    exact ⟨none, 0, rfl, World.ownsRow_nil _ _ _ _, Below.refl _ _⟩
  | some ad =>
    go_enter Tryd.func14, Tryd.ntmps14
    go_wp2_with (at_builtin; refine app_many (w0 := w) (wr := w.alloc (.cells #[] 50)) (World.ownsRow_lit (size := 5) w #[] 0 (Nat.le_refl _) (by simp) rfl) ((Below.refl _ _).alloc (Nat.le_refl _) _) rfl _ _ rfl Tryd.underlying22 infoNode rfl hs5 h0_40 (ndcells l) (by rfl) (some ad) l.length c (by rfl) HN.out (by simp [ndcells_length]) ndcells_one (by omega) (fun ad e => news_nodes (e ▸ (hR.below (below_alloc (Below.refl _ _) _)))) (Below.refl _ _) ?_; intro v1 w1 hown1 hB1 hg1 hat1; have hown1 : w1.ownsRow w.heap.size 50 5 v1 l.length (ndcells l) := (by simpa using hown1); obtain ⟨A1, n1, rfl, hn1, hm1⟩ := own_slice hown1)
    go_ret
    exact ⟨A1, n1, rfl, hown1, hB1⟩
set_option maxHeartbeats 1000000 in
set_option maxRecDepth 100000 in
theorem cloneI_calls (A : Option Addr) (c : Nat) (l : List Int) (w : World) (hR : RdI w A l) (hN : A = none → l.length = 0 ∧ c = 0) (hb : l.length ≤ 100) :
    Calls Tryd.prog 15 #[.slice A l.length c] w (CloneI l w) := by
  have HN := Lib.hid hN
  clear hN
  cases A with
  | none =>
    obtain ⟨h0, rfl⟩ := HN.out rfl
    obtain rfl : l = [] := List.length_eq_zero_iff.1 h0
    simp only [List.length_nil]
    go_enter Tryd.func15, Tryd.ntmps15
    go_wp2
    go_ret
    exact ⟨none, 0, rfl, World.ownsRow_nil _ _ _ _, Below.refl _ _⟩
  | some ad =>
    go_enter Tryd.func15, Tryd.ntmps15
    go_wp2_with (at_builtin; refine app_many (w0 := w) (wr := w.alloc (.cells #[] 3)) (World.ownsRow_lit (size := 1) w #[] 0 (Nat.le_refl _) (by simp) rfl) ((Below.refl _ _).alloc (Nat.le_refl _) _) rfl _ _ rfl Tryd.underlying23 infoInt rfl h01 h08 (ivals l) (by rfl) (some ad) l.length c (by rfl) HN.out (by simp [ivals]) ivals_one (by omega) (fun ad e => news_ints (e ▸ (hR.below (below_alloc (Below.refl _ _) _)))) (Below.refl _ _) ?_; intro v1 w1 hown1 hB1 hg1 hat1; have hown1 : w1.ownsRow w.heap.size 3 1 v1 l.length (ivals l) := (by simpa using hown1); obtain ⟨A1, n1, rfl, hn1, hm1⟩ := own_slice hown1)
    go_ret
    exact ⟨A1, n1, rfl, hown1, hB1⟩
/-- A plan as a value. -/
def planval (S : Option Addr) (n c : Nat) (p : QAt) (q : Qr) : Value := .agg #[.slice S n c, .int .u8 q.ag, .slice p.a1 q.arg.length p.c1, .slice p.a2 q.src.length p.c2, .bool q.jn, .slice p.a4 q.wh.length p.c4, .int .u8 q.wk, .int .i64 q.ws, .int .i64 q.we, .bool q.bk, .int .u8 q.lt]
def zeroQ : Qr := ⟨0, [], [], false, [], 0, 0, 0, false, 0⟩
/-- The plan of a query: its steps and its query. -/
def planOf (q : Qr) : List Int × Qr := if qE q = 0 then (stepsQ q, q) else ([], zeroQ)
def OfPost (q : Qr) (w : World) (e : Ending) (w' : World) : Prop :=
  Below w.heap.size w w' ∧ ∃ S c p', e = .returned (.tuple #[planval S (planOf q).1.length c p' (planOf q).2, .int .i64 (qE q)]) ∧ RdU w' S (planOf q).1 ∧ RdQ w' p' (planOf q).2
theorem rdq_zero (w : World) : RdQ w ⟨none, 0, none, 0, none, 0⟩ zeroQ :=
  ⟨⟨by simp [zeroQ], fun h => by simp [zeroQ] at h⟩, ⟨by simp [zeroQ], fun h => by simp [zeroQ] at h⟩, ⟨by simp [zeroQ], fun h => by simp [zeroQ] at h⟩, by simp [zeroQ], by simp [zeroQ], by simp [zeroQ]⟩
theorem of_bad {q : Qr} {w w' : World} (h : qE q ≠ 0) (hb : Below w.heap.size w w') : OfPost q w (.returned (.tuple #[planval none 0 0 ⟨none, 0, none, 0, none, 0⟩ zeroQ, .int .i64 (qE q)])) w' :=
  ⟨hb, none, 0, ⟨none, 0, none, 0, none, 0⟩, by simp only [planOf, if_neg h]; rfl, by simp only [planOf, if_neg h]; exact ⟨by simp, fun h => by simp at h⟩, by simp only [planOf, if_neg h]; exact rdq_zero _⟩
theorem Bx.eleven {w : World} {b : Nat} {t : TypeId} {x0 x1 x2 x3 x4 x5 x6 x7 x8 x9 x10 : Value} (h : Bx w b t #[x0, x1, x2, x3, x4, x5, x6, x7, x8, x9, x10]) :
    w.cell? ⟨b, 0, none⟩ = some x0 ∧ w.cell? ⟨b, 1, none⟩ = some x1 ∧ w.cell? ⟨b, 2, none⟩ = some x2 ∧ w.cell? ⟨b, 3, none⟩ = some x3 ∧ w.cell? ⟨b, 4, none⟩ = some x4 ∧ w.cell? ⟨b, 5, none⟩ = some x5 ∧ w.cell? ⟨b, 6, none⟩ = some x6 ∧ w.cell? ⟨b, 7, none⟩ = some x7 ∧ w.cell? ⟨b, 8, none⟩ = some x8 ∧ w.cell? ⟨b, 9, none⟩ = some x9 ∧ w.cell? ⟨b, 10, none⟩ = some x10 ∧
    w.frozen? ⟨b, 0, none⟩ = false ∧ w.frozen? ⟨b, 1, none⟩ = false ∧ w.frozen? ⟨b, 2, none⟩ = false ∧ w.frozen? ⟨b, 3, none⟩ = false ∧ w.frozen? ⟨b, 4, none⟩ = false ∧ w.frozen? ⟨b, 5, none⟩ = false ∧ w.frozen? ⟨b, 6, none⟩ = false ∧ w.frozen? ⟨b, 7, none⟩ = false ∧ w.frozen? ⟨b, 8, none⟩ = false ∧ w.frozen? ⟨b, 9, none⟩ = false ∧ w.frozen? ⟨b, 10, none⟩ = false :=
  ⟨h.cell 0 _ rfl, h.cell 1 _ rfl, h.cell 2 _ rfl, h.cell 3 _ rfl, h.cell 4 _ rfl, h.cell 5 _ rfl, h.cell 6 _ rfl, h.cell 7 _ rfl, h.cell 8 _ rfl, h.cell 9 _ rfl, h.cell 10 _ rfl, h.free 0, h.free 1, h.free 2, h.free 3, h.free 4, h.free 5, h.free 6, h.free 7, h.free 8, h.free 9, h.free 10⟩
theorem of_good {q : Qr} {w w' : World} {S : Option Addr} {c : Nat} {p' : QAt} (h : qE q = 0) (hb : Below w.heap.size w w') (hs : RdU w' S (stepsQ q)) (hq : RdQ w' p' q) : OfPost q w (.returned (.tuple #[planval S (stepsQ q).length c p' q, .int .i64 0])) w' :=
  ⟨hb, S, c, p', by simp only [planOf, if_pos h]; rw [h], by simp only [planOf, if_pos h]; exact hs, by simp only [planOf, if_pos h]; exact hq⟩
/-- A struct of two boxes: the query's and the plan's. -/
structure PlAt (w : World) (p : QAt) (q : Qr) (wx : World) : Prop where
  hB : Below w.heap.size w wx
  hX : Bx wx w.heap.size 27 #[.int .u8 q.ag, .slice p.a1 q.arg.length p.c1, .slice p.a2 q.src.length p.c2, .bool q.jn, .slice p.a4 q.wh.length p.c4, .int .u8 q.wk, .int .i64 q.ws, .int .i64 q.we, .bool q.bk, .int .u8 q.lt]
  hY : Bx wx (w.heap.size + 1) 30 #[.slice none 0 0, .int .u8 0, .slice none 0 0, .slice none 0 0, .bool false, .slice none 0 0, .int .u8 0, .int .i64 0, .int .i64 0, .bool false, .int .u8 0]
theorem PlAt.next {w wx w1 : World} {p : QAt} {q : Qr} (h : PlAt w p q wx) (hb : Below wx.heap.size wx w1) : PlAt w p q w1 := ⟨below_trans h.hB hb, h.hX.below hb, h.hY.below hb⟩
theorem plAt_start (w : World) (p : QAt) (q : Qr) : PlAt w p q ((w.alloc (.cells #[.int .u8 q.ag, .slice p.a1 q.arg.length p.c1, .slice p.a2 q.src.length p.c2, .bool q.jn, .slice p.a4 q.wh.length p.c4, .int .u8 q.wk, .int .i64 q.ws, .int .i64 q.we, .bool q.bk, .int .u8 q.lt] 27)).alloc (.cells #[.slice none 0 0, .int .u8 0, .slice none 0 0, .slice none 0 0, .bool false, .slice none 0 0, .int .u8 0, .int .i64 0, .int .i64 0, .bool false, .int .u8 0] 30)) :=
  ⟨below_alloc (below_alloc (Below.refl _ _) _) _, (Bx.new w _ _).alloc _, Bx.new' (by simp) _ _⟩
/-- Behind the copies. -/
structure PlRows (w : World) (p : QAt) (q : Qr) (wx : World) : Prop where
  at_ : PlAt w p q wx
  o1 : wx.ownsRow w.heap.size 50 5 (.slice p.a1 q.arg.length p.c1) q.arg.length (ndcells q.arg)
  o2 : wx.ownsRow w.heap.size 3 1 (.slice p.a2 q.src.length p.c2) q.src.length (ivals q.src)
  o4 : wx.ownsRow w.heap.size 50 5 (.slice p.a4 q.wh.length p.c4) q.wh.length (ndcells q.wh)
theorem plRows_of {w w2 w3 w4 : World} {p : QAt} {q : Qr} {A1 A2 A4 : Option Addr} {d1 d2 d4 : Nat} (T2 : PlAt w p q w2) (T3 : PlAt w p q w3) (T4 : PlAt w p q w4) (hb3 : Below w2.heap.size w2 w3) (hb4 : Below w3.heap.size w3 w4)
    (R1 : w2.ownsRow w.heap.size 50 5 (.slice A1 q.arg.length d1) q.arg.length (ndcells q.arg)) (R2 : w3.ownsRow w.heap.size 3 1 (.slice A2 q.src.length d2) q.src.length (ivals q.src)) (R4 : w4.ownsRow w.heap.size 50 5 (.slice A4 q.wh.length d4) q.wh.length (ndcells q.wh)) :
    PlRows w ⟨A1, d1, A2, d2, A4, d4⟩ q (((w4.setCell ⟨w.heap.size, 1, none⟩ (.slice A1 q.arg.length d1)).setCell ⟨w.heap.size, 2, none⟩ (.slice A2 q.src.length d2)).setCell ⟨w.heap.size, 4, none⟩ (.slice A4 q.wh.length d4)) := by
  have r1 := own_below R1 (below_trans hb3 hb4)
  have r2 := own_below R2 hb4
  have X1 := T4.hX.set 1 (.slice A1 q.arg.length d1)
  have X2 := X1.set 2 (.slice A2 q.src.length d2)
  have X3 := X2.set 4 (.slice A4 q.wh.length d4)
  have e1 := ownsRow_setCell_other (a := ⟨w.heap.size, 1, none⟩) r1 (row_box r1 T4.hX (by decide)) (.slice A1 q.arg.length d1)
  have e2 := ownsRow_setCell_other (a := ⟨w.heap.size, 1, none⟩) r2 (row_box r2 T4.hX (by decide)) (.slice A1 q.arg.length d1)
  have e4 := ownsRow_setCell_other (a := ⟨w.heap.size, 1, none⟩) R4 (row_box R4 T4.hX (by decide)) (.slice A1 q.arg.length d1)
  have g1 := ownsRow_setCell_other (a := ⟨w.heap.size, 2, none⟩) e1 (row_box e1 X1 (by decide)) (.slice A2 q.src.length d2)
  have g2 := ownsRow_setCell_other (a := ⟨w.heap.size, 2, none⟩) e2 (row_box e2 X1 (by decide)) (.slice A2 q.src.length d2)
  have g4 := ownsRow_setCell_other (a := ⟨w.heap.size, 2, none⟩) e4 (row_box e4 X1 (by decide)) (.slice A2 q.src.length d2)
  have k1 := ownsRow_setCell_other (a := ⟨w.heap.size, 4, none⟩) g1 (row_box g1 X2 (by decide)) (.slice A4 q.wh.length d4)
  have k2 := ownsRow_setCell_other (a := ⟨w.heap.size, 4, none⟩) g2 (row_box g2 X2 (by decide)) (.slice A4 q.wh.length d4)
  have k4 := ownsRow_setCell_other (a := ⟨w.heap.size, 4, none⟩) g4 (row_box g4 X2 (by decide)) (.slice A4 q.wh.length d4)
  exact ⟨⟨((T4.hB.setCell (p := ⟨w.heap.size, 1, none⟩) (Nat.le_refl _) _).setCell (p := ⟨w.heap.size, 2, none⟩) (Nat.le_refl _) _).setCell (p := ⟨w.heap.size, 4, none⟩) (Nat.le_refl _) _, X3, ((T4.hY.other (by omega) 1 _).other (by omega) 2 _).other (by omega) 4 _⟩, k1, k2, k4⟩
theorem PlRows.next {w wx w1 : World} {p : QAt} {q : Qr} (h : PlRows w p q wx) (hb : Below wx.heap.size wx w1) : PlRows w p q w1 := ⟨h.at_.next hb, own_below h.o1 hb, own_below h.o2 hb, own_below h.o4 hb⟩
theorem rows_rdq {w : World} {B : Nat} {p : QAt} {q : Qr} (o1 : w.ownsRow B 50 5 (.slice p.a1 q.arg.length p.c1) q.arg.length (ndcells q.arg)) (o2 : w.ownsRow B 3 1 (.slice p.a2 q.src.length p.c2) q.src.length (ivals q.src)) (o4 : w.ownsRow B 50 5 (.slice p.a4 q.wh.length p.c4) q.wh.length (ndcells q.wh)) (l1 : q.arg.length ≤ 100) (l2 : q.src.length ≤ 100) (l4 : q.wh.length ≤ 100) : RdQ w p q := by
  refine ⟨rdn_own o1 (Below.refl _ _), rdi_own o2 (Below.refl _ _), rdn_own o4 (Below.refl _ _), ?_, ?_, ?_⟩
  · obtain ⟨A, c, e, h1, h2⟩ := own_slice o1; injection e with _ _ e; omega
  · obtain ⟨A, c, e, h1, h2⟩ := own_slice o2; injection e with _ _ e; omega
  · obtain ⟨A, c, e, h1, h2⟩ := own_slice o4; injection e with _ _ e; omega
theorem PlRows.rdq_store {w : World} {p : QAt} {q : Qr} {wx : World} (h : PlRows w p q wx) (vs : List Value) (i : Nat) (l1 : q.arg.length ≤ 100) (l2 : q.src.length ≤ 100) (l4 : q.wh.length ≤ 100) : RdQ (storeAll (w.heap.size + 1) i vs wx) p q :=
  rows_rdq (storeAll_own h.o1 (row_box h.o1 h.at_.hY (by decide)) vs i) (storeAll_own h.o2 (row_box h.o2 h.at_.hY (by decide)) vs i) (storeAll_own h.o4 (row_box h.o4 h.at_.hY (by decide)) vs i) l1 l2 l4
theorem PlRows.rdq {w : World} {p : QAt} {q : Qr} {wx w1 : World} (h : PlRows w p q wx) (hb : Below wx.heap.size wx w1) (l1 : q.arg.length ≤ 100) (l2 : q.src.length ≤ 100) (l4 : q.wh.length ≤ 100) : RdQ w1 p q := by
  have g1 := own_slice h.o1
  have g2 := own_slice h.o2
  have g4 := own_slice h.o4
  refine ⟨rdn_own h.o1 hb, rdi_own h.o2 hb, rdn_own h.o4 hb, ?_, ?_, ?_⟩
  · obtain ⟨A, c, e, h1, h2⟩ := g1; injection e with _ _ e; omega
  · obtain ⟨A, c, e, h1, h2⟩ := g2; injection e with _ _ e; omega
  · obtain ⟨A, c, e, h1, h2⟩ := g4; injection e with _ _ e; omega
set_option maxHeartbeats 4000000 in
set_option maxRecDepth 100000 in
theorem pof_calls (p : QAt) (q : Qr) (w : World) (hr : RdQ w p q) (hn : NilQ p q) (b1 : q.arg.length ≤ 100) (b2 : q.src.length ≤ 100) (b4 : q.wh.length ≤ 100) :
    Calls Tryd.prog 5 #[qval p q] w (OfPost q w) := by
  have k1 := fun W (h : RdQ W p q) => check_calls p q W h
  unfold qval at k1 ⊢
  replace k1 := Lib.hid k1
  have T0 := plAt_start w p q
  by_cases hq : qE q = 0
  · have HQ := Lib.hid hq
    clear hq
    go_enter Tryd.func5, Tryd.ntmps5
    go_upto_region 4 with (go_at_call 13; (with_reducible refine (k1.out _ ?_).mono ?_); (exact hr.below (below_alloc (below_alloc (Below.refl _ _) _) _)); rw [HQ.out]; rintro e w1 ⟨rfl, hb1⟩; have T := T0.next hb1)
    have Td := T.next (below_drew (Below.refl _ _))
    have ⟨x0, x1, x2, x3, x4, x5, x6, x7, x8, x9, _⟩ := Td.hX.ten
    have hlt := Td.hX.lt
    go_cut [] (fun wx => ∃ p', PlRows w p' q wx)
    case first =>
      refine wp_region_U 10 (fun W => W.cell? ⟨w.heap.size, 1, none⟩ = some (.slice p.a1 q.arg.length p.c1) ∧ W.cell? ⟨w.heap.size, 2, none⟩ = some (.slice p.a2 q.src.length p.c2) ∧ W.cell? ⟨w.heap.size, 4, none⟩ = some (.slice p.a4 q.wh.length p.c4)) (by kernel_rfl) ?_
      have hHeld := (And.intro x1 (And.intro x2 x4))
      (refine wpAnyU_take (i := 0) (oi := _) (v := ?_) rfl (by kernel_rfl) (by kernel_rfl) (by kernel_rfl) (fun _ _ _ h => h) (by kernel_rfl) (Or.inl ⟨by rfl, ?_⟩) hHeld (by kernel_rfl) ?_); rotate_left; (intro W hS; (try dsimp only at hS); go_simp; try with_reducible rfl); (try simp only [Act.put, List.setIfInBounds_toArray, List.set_cons_zero, List.set_cons_succ, List.getElem_toArray, List.getElem_cons_zero, List.getElem_cons_succ])
      (refine wpAnyU_take (i := 1) (oi := _) (v := ?_) rfl (by kernel_rfl) (by kernel_rfl) (by kernel_rfl) (fun _ _ _ h => h) (by kernel_rfl) (Or.inl ⟨by rfl, ?_⟩) hHeld (by kernel_rfl) ?_); rotate_left; (intro W hS; (try dsimp only at hS); go_simp; try with_reducible rfl); (try simp only [Act.put, List.setIfInBounds_toArray, List.set_cons_zero, List.set_cons_succ, List.getElem_toArray, List.getElem_cons_zero, List.getElem_cons_succ])
      (refine wpAnyU_take (i := 3) (oi := _) (v := ?_) rfl (by kernel_rfl) (by kernel_rfl) (by kernel_rfl) (fun _ _ _ h => h) (by kernel_rfl) (Or.inl ⟨by rfl, ?_⟩) hHeld (by kernel_rfl) ?_); rotate_left; (intro W hS; (try dsimp only at hS); go_simp; try with_reducible rfl); (try simp only [Act.put, List.setIfInBounds_toArray, List.set_cons_zero, List.set_cons_succ, List.getElem_toArray, List.getElem_cons_zero, List.getElem_cons_succ])
      (refine wpAnyU_take (i := 4) (oi := _) (v := ?_) rfl (by kernel_rfl) (by kernel_rfl) (by kernel_rfl) (fun _ _ _ h => h) (by kernel_rfl) (Or.inl ⟨by rfl, ?_⟩) hHeld (by kernel_rfl) ?_); rotate_left; (intro W hS; (try dsimp only at hS); go_simp; try with_reducible rfl); (try simp only [Act.put, List.setIfInBounds_toArray, List.set_cons_zero, List.set_cons_succ, List.getElem_toArray, List.getElem_cons_zero, List.getElem_cons_succ])
      (refine wpAnyU_take (i := 6) (oi := _) (v := ?_) rfl (by kernel_rfl) (by kernel_rfl) (by kernel_rfl) (fun _ _ _ h => h) (by kernel_rfl) (Or.inl ⟨by rfl, ?_⟩) hHeld (by kernel_rfl) ?_); rotate_left; (intro W hS; (try dsimp only at hS); go_simp; try with_reducible rfl); (try simp only [Act.put, List.setIfInBounds_toArray, List.set_cons_zero, List.set_cons_succ, List.getElem_toArray, List.getElem_cons_zero, List.getElem_cons_succ])
      (refine wpAnyU_take (i := 7) (oi := _) (v := ?_) rfl (by kernel_rfl) (by kernel_rfl) (by kernel_rfl) (fun _ _ _ h => h) (by kernel_rfl) (Or.inl ⟨by rfl, ?_⟩) hHeld (by kernel_rfl) ?_); rotate_left; (intro W hS; (try dsimp only at hS); go_simp; try with_reducible rfl); (try simp only [Act.put, List.setIfInBounds_toArray, List.set_cons_zero, List.set_cons_succ, List.getElem_toArray, List.getElem_cons_zero, List.getElem_cons_succ])
      (refine wpAnyU_one (i := 2) (o := _) (by kernel_rfl) rfl (fun K hK => ?_)); go_simp
      (with_reducible refine (cloneN_calls p.a1 p.c1 q.arg _ (hr.arg.below Td.hB) hn.n1 b1).mono ?_); rintro e w2 ⟨A1, d1, rfl, R1, hb2⟩; have T2 := Td.next hb2; have ⟨u0, u1, u2, u3, u4, u5, u6, u7, u8, u9, _⟩ := T2.hX.ten
      go_wp2_with fail
      refine hK.out _ _ (fun _ => (And.intro u1 (And.intro u2 u4))) ?_
      replace hHeld := (And.intro u1 (And.intro u2 u4))
      clear hK K; (try simp only [Act.put, List.setIfInBounds_toArray, List.set_cons_zero, List.set_cons_succ, List.getElem_toArray, List.getElem_cons_zero, List.getElem_cons_succ])
      (refine wpAnyU_take (i := 9) (oi := _) (v := ?_) rfl (by kernel_rfl) (by kernel_rfl) (by kernel_rfl) (fun _ _ _ h => h) (by kernel_rfl) (Or.inl ⟨by rfl, ?_⟩) hHeld (by kernel_rfl) ?_); rotate_left; (intro W hS; (try dsimp only at hS); go_simp; try with_reducible rfl); (try simp only [Act.put, List.setIfInBounds_toArray, List.set_cons_zero, List.set_cons_succ, List.getElem_toArray, List.getElem_cons_zero, List.getElem_cons_succ])
      (refine wpAnyU_one (i := 5) (o := _) (by kernel_rfl) rfl (fun K hK => ?_)); go_simp
      (with_reducible refine (cloneI_calls p.a2 p.c2 q.src _ (hr.src.below T2.hB) hn.n2 b2).mono ?_); rintro e w3 ⟨A2, d2, rfl, R2, hb3⟩; have T3 := T2.next hb3; have ⟨v0, v1, v2, v3, v4, v5, v6, v7, v8, v9, _⟩ := T3.hX.ten
      go_wp2_with fail
      refine hK.out _ _ (fun _ => (And.intro v1 (And.intro v2 v4))) ?_
      replace hHeld := (And.intro v1 (And.intro v2 v4))
      clear hK K; (try simp only [Act.put, List.setIfInBounds_toArray, List.set_cons_zero, List.set_cons_succ, List.getElem_toArray, List.getElem_cons_zero, List.getElem_cons_succ])
      (refine wpAnyU_one (i := 8) (o := _) (by kernel_rfl) rfl (fun K hK => ?_)); go_simp
      (with_reducible refine (cloneN_calls p.a4 p.c4 q.wh _ (hr.wh.below T3.hB) hn.n4 b4).mono ?_); rintro e w4 ⟨A4, d4, rfl, R4, hb4⟩; have T4 := T3.next hb4; have ⟨z0, z1, z2, z3, z4, z5, z6, z7, z8, z9, f0, f1, f2, f3, f4, f5, f6, f7, f8, f9⟩ := T4.hX.ten
      go_wp2_with fail
      refine hK.out _ _ (fun _ => (And.intro z1 (And.intro z2 z4))) ?_
      replace hHeld := (And.intro z1 (And.intro z2 z4))
      clear hK K; (try simp only [Act.put, List.setIfInBounds_toArray, List.set_cons_zero, List.set_cons_succ, List.getElem_toArray, List.getElem_cons_zero, List.getElem_cons_succ])
      have hl4 := T4.hX.lt
      (refine wpAnyU_one (i := 10) (o := _) (by kernel_rfl) rfl (fun K hK => ?_)); go_simp
      refine hK.out _ _ (fun h => by simp at h) ?_
      clear hK K; (try simp only [Act.put, List.setIfInBounds_toArray, List.set_cons_zero, List.set_cons_succ, List.getElem_toArray, List.getElem_cons_zero, List.getElem_cons_succ])
      (refine wpAnyU_one (i := 11) (o := _) (by kernel_rfl) rfl (fun K hK => ?_)); go_simp
      refine hK.out _ _ (fun h => by simp at h) ?_
      clear hK K; (try simp only [Act.put, List.setIfInBounds_toArray, List.set_cons_zero, List.set_cons_succ, List.getElem_toArray, List.getElem_cons_zero, List.getElem_cons_succ])
      (refine wpAnyU_one (i := 12) (o := _) (by kernel_rfl) rfl (fun K hK => ?_)); go_simp
      refine hK.out _ _ (fun h => by simp at h) ?_
      clear hK K; (try simp only [Act.put, List.setIfInBounds_toArray, List.set_cons_zero, List.set_cons_succ, List.getElem_toArray, List.getElem_cons_zero, List.getElem_cons_succ])
      (refine wpAnyU_one (i := 13) (o := _) (by kernel_rfl) rfl (fun K hK => ?_)); go_simp
      refine hK.out _ _ (fun h => by simp at h) ?_
      clear hK K; (try simp only [Act.put, List.setIfInBounds_toArray, List.set_cons_zero, List.set_cons_succ, List.getElem_toArray, List.getElem_cons_zero, List.getElem_cons_succ])
      (refine wpAnyU_one (i := 14) (o := _) (by kernel_rfl) rfl (fun K hK => ?_)); go_simp
      refine hK.out _ _ (fun h => by simp at h) ?_
      clear hK K; (try simp only [Act.put, List.setIfInBounds_toArray, List.set_cons_zero, List.set_cons_succ, List.getElem_toArray, List.getElem_cons_zero, List.getElem_cons_succ])
      refine wpAnyU_done (by kernel_rfl) ?_ _
      go_wp2_with fail
      go_meet
      exact ⟨_, plRows_of T2 T3 T4 hb3 hb4 (own_mono R1 Td.hB.size) (own_mono R2 T2.hB.size) (own_mono R4 T3.hB.size)⟩
    case rest =>
      obtain ⟨p', P⟩ := hcut
      have hs := fun W => steps_calls p' q W hr.wh.1
      unfold qval at hs
      replace hs := Lib.hid hs
      clear x0 x1 x2 x3 x4 x5 x6 x7 x8 x9 Td T0 hlt T
      have Td := P.at_.next (below_drew (Below.refl _ _))
      have ⟨x0, x1, x2, x3, x4, x5, x6, x7, x8, x9, _⟩ := Td.hX.ten
      go_upto_region 5 with fail
      refine wp_region_noPanic ?_
      refine wp_region_U 4 (fun W => W.cell? ⟨w.heap.size, 0, none⟩ = some (.int .u8 q.ag) ∧ W.cell? ⟨w.heap.size, 1, none⟩ = some (.slice p'.a1 q.arg.length p'.c1) ∧ W.cell? ⟨w.heap.size, 2, none⟩ = some (.slice p'.a2 q.src.length p'.c2) ∧ W.cell? ⟨w.heap.size, 3, none⟩ = some (.bool q.jn) ∧ W.cell? ⟨w.heap.size, 4, none⟩ = some (.slice p'.a4 q.wh.length p'.c4) ∧ W.cell? ⟨w.heap.size, 5, none⟩ = some (.int .u8 q.wk) ∧ W.cell? ⟨w.heap.size, 6, none⟩ = some (.int .i64 q.ws) ∧ W.cell? ⟨w.heap.size, 7, none⟩ = some (.int .i64 q.we) ∧ W.cell? ⟨w.heap.size, 8, none⟩ = some (.bool q.bk) ∧ W.cell? ⟨w.heap.size, 9, none⟩ = some (.int .u8 q.lt)) (by kernel_rfl) ?_
      have hHeld := (And.intro x0 (And.intro x1 (And.intro x2 (And.intro x3 (And.intro x4 (And.intro x5 (And.intro x6 (And.intro x7 (And.intro x8 x9)))))))))
      (refine wpAnyU_take (i := 0) (oi := _) (v := ?_) rfl (by kernel_rfl) (by kernel_rfl) (by kernel_rfl) (fun _ _ _ h => h) (by kernel_rfl) (Or.inl ⟨by rfl, ?_⟩) hHeld (by kernel_rfl) ?_); rotate_left; (intro W hS; (try dsimp only at hS); go_simp; try with_reducible rfl); (try simp only [Act.put, List.setIfInBounds_toArray, List.set_cons_zero, List.set_cons_succ, List.getElem_toArray, List.getElem_cons_zero, List.getElem_cons_succ])
      (refine wpAnyU_take (i := 2) (oi := _) (v := ?_) rfl (by kernel_rfl) (by kernel_rfl) (by kernel_rfl) (fun _ _ _ h => h) (by kernel_rfl) (Or.inl ⟨by rfl, ?_⟩) hHeld (by kernel_rfl) ?_); rotate_left; (intro W hS; (try dsimp only at hS); go_simp; try with_reducible rfl); (try simp only [Act.put, List.setIfInBounds_toArray, List.set_cons_zero, List.set_cons_succ, List.getElem_toArray, List.getElem_cons_zero, List.getElem_cons_succ])
      (refine wpAnyU_one (i := 1) (o := _) (by kernel_rfl) rfl (fun K hK => ?_)); go_simp
      (with_reducible refine (hs.out _).mono ?_); rintro e w5 ⟨S, cS, rfl, RS, hb5⟩; have T5 := Td.next hb5; have ⟨u0, u1, u2, u3, u4, u5, u6, u7, u8, u9, _⟩ := T5.hX.ten; have hl5 := T5.hY.lt; have ⟨y0, y1, y2, y3, y4, y5, y6, y7, y8, y9, y10, f0, f1, f2, f3, f4, f5, f6, f7, f8, f9, f10⟩ := T5.hY.eleven
      go_wp2_with fail
      refine hK.out _ _ (fun _ => (And.intro u0 (And.intro u1 (And.intro u2 (And.intro u3 (And.intro u4 (And.intro u5 (And.intro u6 (And.intro u7 (And.intro u8 u9)))))))))) ?_
      replace hHeld := (And.intro u0 (And.intro u1 (And.intro u2 (And.intro u3 (And.intro u4 (And.intro u5 (And.intro u6 (And.intro u7 (And.intro u8 u9)))))))))
      clear hK K; (try simp only [Act.put, List.setIfInBounds_toArray, List.set_cons_zero, List.set_cons_succ, List.getElem_toArray, List.getElem_cons_zero, List.getElem_cons_succ])
      (refine wpAnyU_take (i := 3) (oi := _) (v := ?_) rfl (by kernel_rfl) (by kernel_rfl) (by kernel_rfl) (fun _ _ _ h => h) (by kernel_rfl) (Or.inl ⟨by rfl, ?_⟩) hHeld (by kernel_rfl) ?_); rotate_left; (intro W hS; (try dsimp only at hS); go_simp; try with_reducible rfl); (try simp only [Act.put, List.setIfInBounds_toArray, List.set_cons_zero, List.set_cons_succ, List.getElem_toArray, List.getElem_cons_zero, List.getElem_cons_succ])
      (refine wpAnyU_one (i := 4) (o := _) (by kernel_rfl) rfl (fun K hK => ?_)); go_simp
      refine hK.out _ _ (fun h => by simp at h) ?_
      clear hK K; (try simp only [Act.put, List.setIfInBounds_toArray, List.set_cons_zero, List.set_cons_succ, List.getElem_toArray, List.getElem_cons_zero, List.getElem_cons_succ])
      (refine wpAnyU_one (i := 5) (o := _) (by kernel_rfl) rfl (fun K hK => ?_)); go_simp
      refine hK.out _ _ (fun h => by simp at h) ?_
      clear hK K; (try simp only [Act.put, List.setIfInBounds_toArray, List.set_cons_zero, List.set_cons_succ, List.getElem_toArray, List.getElem_cons_zero, List.getElem_cons_succ])
      refine wpAnyU_done (by kernel_rfl) ?_ _
      refine NoPanic.normal ?_
      go_wp2_with fail
      have P5 := P.next (below_trans (below_drew (Below.refl wc.heap.size wc)) hb5)
      have hZ := storeAll_bx T5.hY [.slice S (stepsQ q).length cS, .int .u8 q.ag, .slice p'.a1 q.arg.length p'.c1, .slice p'.a2 q.src.length p'.c2, .bool q.jn, .slice p'.a4 q.wh.length p'.c4, .int .u8 q.wk, .int .i64 q.ws, .int .i64 q.we, .bool q.bk, .int .u8 q.lt] rfl
      simp only [storeAll, Nat.zero_add, Nat.reduceAdd] at hZ
      have ⟨p0, p1, p2, p3, p4, p5, p6, p7, p8, p9, p10, _⟩ := hZ.eleven
      refine bodyPost_ret (v := .tuple #[planval S (stepsQ q).length cS p' q, .int .i64 0]) (by unfold planval; simp [results, Tryd.results5, go_sem, p0, p1, p2, p3, p4, p5, p6, p7, p8, p9, p10]) rfl ?_
      exact of_good HQ.out (storeAll_below (by omega) [.slice S (stepsQ q).length cS, .int .u8 q.ag, .slice p'.a1 q.arg.length p'.c1, .slice p'.a2 q.src.length p'.c2, .bool q.jn, .slice p'.a4 q.wh.length p'.c4, .int .u8 q.wk, .int .i64 q.ws, .int .i64 q.we, .bool q.bk, .int .u8 q.lt] 0 _ _ T5.hB) (rdu_own (storeAll_own RS (row_box RS T5.hY (by decide)) [.slice S (stepsQ q).length cS, .int .u8 q.ag, .slice p'.a1 q.arg.length p'.c1, .slice p'.a2 q.src.length p'.c2, .bool q.jn, .slice p'.a4 q.wh.length p'.c4, .int .u8 q.wk, .int .i64 q.ws, .int .i64 q.we, .bool q.bk, .int .u8 q.lt] 0) (Below.refl _ _)) (P5.rdq_store [.slice S (stepsQ q).length cS, .int .u8 q.ag, .slice p'.a1 q.arg.length p'.c1, .slice p'.a2 q.src.length p'.c2, .bool q.jn, .slice p'.a4 q.wh.length p'.c4, .int .u8 q.wk, .int .i64 q.ws, .int .i64 q.we, .bool q.bk, .int .u8 q.lt] 0 b1 b2 b4)
  · have hne : (qE q != 0) = true := bne_iff_ne.2 hq
    have HQ := Lib.hid hq
    clear hq
    go_enter Tryd.func5, Tryd.ntmps5
    go_wp2_with (go_at_call 13; (with_reducible refine (k1.out _ ?_).mono ?_); (exact hr.below (below_alloc (below_alloc (Below.refl _ _) _) _)); rintro e w1 ⟨rfl, hb1⟩; have T := T0.next hb1; have hlt := T.hY.lt; have ⟨y0, y1, y2, y3, y4, y5, y6, y7, y8, y9, y10, f0, f1, f2, f3, f4, f5, f6, f7, f8, f9, f10⟩ := T.hY.eleven)
    have hZ := storeAll_bx T.hY [.slice none 0 0, .int .u8 0, .slice none 0 0, .slice none 0 0, .bool false, .slice none 0 0, .int .u8 0, .int .i64 0, .int .i64 0, .bool false, .int .u8 0] rfl
    simp only [storeAll, Nat.zero_add, Nat.reduceAdd] at hZ
    have ⟨p0, p1, p2, p3, p4, p5, p6, p7, p8, p9, p10, _⟩ := hZ.eleven
    refine bodyPost_ret (v := .tuple #[planval none 0 0 ⟨none, 0, none, 0, none, 0⟩ zeroQ, .int .i64 (qE q)]) (by unfold planval zeroQ; simp [results, Tryd.results5, go_sem, p0, p1, p2, p3, p4, p5, p6, p7, p8, p9, p10]) rfl ?_
    exact of_bad HQ.out (storeAll_below (by omega) [.slice none 0 0, .int .u8 0, .slice none 0 0, .slice none 0 0, .bool false, .slice none 0 0, .int .u8 0, .int .i64 0, .int .i64 0, .bool false, .int .u8 0] 0 _ _ T.hB)
end Go.Proofs.YthijjpbkpmojbaaDoor
