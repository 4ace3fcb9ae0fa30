import Derived.Test.YthijjpbkpmojbaaDoorRefG
import Derived.Test.YthijjpbkpmojbaaDoorBox
/-! Layer 22: the steps of a plan, the program's and the reference's. -/
namespace Go.Proofs.YthijjpbkpmojbaaDoor
open Go.RowKit Tw
set_option linter.unusedVariables false
set_option linter.unusedSimpArgs false
/-- A slice of bytes that is read. -/
def RdU (w : World) (A : Option Addr) (l : List Int) : Prop := l.length ≤ 9223372036854775807 ∧ (0 < l.length → ∃ ad, A = some ad ∧ ∀ (j : Nat) (x : Int), l[j]? = some x → w.cell? (ad.add j) = some (.int .u8 x))
theorem RdU.below {w w1 : World} {A : Option Addr} {l : List Int} (h : RdU w A l) (hb : Below w.heap.size w w1) : RdU w1 A l :=
  ⟨h.1, fun hp => by obtain ⟨ad, e, hc⟩ := h.2 hp; exact ⟨ad, e, fun j x hj => cell_below hb (hc j x hj)⟩⟩
def uvals (l : List Int) : List Value := l.map fun n : Int => Value.int .u8 n
theorem uvals_append (a b : List Int) : uvals (a ++ b) = uvals a ++ uvals b := List.map_append
theorem rdu_own {w W : World} {B n c : Nat} {A : Option Addr} {l : List Int} (h : w.ownsRow B 5 1 (.slice A n c) n (uvals l)) (hb : Below w.heap.size w W) : RdU W A l := by
  have hl : l.length = n := by have := h.1; unfold uvals at this; rw [List.length_map] at this; omega
  refine ⟨by obtain ⟨_, c', he, h1, h2⟩ := own_slice h; injection he with _ _ hc; omega, fun hp => ?_⟩
  rcases h.2 with ⟨_, h0⟩ | ⟨g, cap, cur, he, _⟩
  · omega
  · have hc := h.cells (g := g) (by rw [he]; rfl)
    injection he with he
    exact ⟨_, he, fun j x hj => cell_below hb (hc j _ (by unfold uvals; rw [List.getElem?_map, hj]; rfl))⟩
theorem infoU8 : (Tryd.prog.info? 5).map (fun i => (i.zero, i.size, i.bytes)) = some (some (.int .u8 0), 1, 1) := by kernel_rfl
/-- Has a query that is right a step? -/
def hasQ (q : Qr) (s : Int) : Bool := if s = 3 then decide (0 < q.wh.length) else if s = 5 then q.bk else if s = 7 then !q.jn else if s = 8 then q.jn else if s = 10 then q.lt == 2 else decide (1 ≤ s) && decide (s ≤ 10)
def stepsK (q : Qr) : Nat → List Int
  | 0 => []
  | k + 1 => stepsK q k ++ (if hasQ q k = true then [(k : Int)] else [])
/-- The steps of a query that is right. -/
def stepsQ (q : Qr) : List Int := stepsK q 11
theorem stepsQ_eq (q : Qr) : stepsQ q = [1, 2] ++ ((if 0 < q.wh.length then [3] else []) ++ ([4] ++ ((if q.bk = true then [5] else []) ++ ([6] ++ ((if q.jn = true then [8] else [7]) ++ ([9] ++ (if q.lt = 2 then [10] else []))))))) := by
  cases h : q.jn <;> simp [stepsQ, stepsK, hasQ, h]
theorem stepsK_len (q : Qr) : ∀ k, (stepsK q k).length ≤ k
  | 0 => Nat.le_refl _
  | k + 1 => by
    have := stepsK_len q k
    simp only [stepsK, List.length_append]
    split <;> simp <;> omega
def StepsPost (q : Qr) (w : World) (e : Ending) (w' : World) : Prop := ∃ A c, e = .returned (.slice A (stepsQ q).length c) ∧ w'.ownsRow w.heap.size 5 1 (.slice A (stepsQ q).length c) (stepsQ q).length (uvals (stepsQ q)) ∧ Below w.heap.size w w'
theorem steps_post {q : Qr} {w w' : World} {v : Value} {n : Nat} {xs : List Value} (h : w'.ownsRow w.heap.size 5 1 v n xs) (hn : n = (stepsQ q).length) (hx : xs = uvals (stepsQ q)) (hb : Below w.heap.size w w') : StepsPost q w (.returned v) w' := by
  subst hn hx
  obtain ⟨A, c, rfl, _⟩ := own_slice h
  exact ⟨A, c, rfl, h, hb⟩
set_option maxHeartbeats 4000000 in
set_option maxRecDepth 100000 in
theorem steps_calls (p : QAt) (q : Qr) (w : World) (hm : q.wh.length ≤ 9223372036854775807) : Calls Tryd.prog 16 #[qval p q] w (StepsPost q w) := by
  have E : Hid (stepsQ q = _) := stepsQ_eq q
  obtain ⟨q0, l1, l2, b3, l4, q5, q6, q7, b8, q9⟩ := q
  obtain ⟨a1, c1, a2, c2, a4, c4⟩ := p
  unfold qval
  simp only at *
  have hB0 := below_alloc (Below.refl w.heap.size w) (.cells #[.int .u8 q0, .slice a1 l1.length c1, .slice a2 l2.length c2, .bool b3, .slice a4 l4.length c4, .int .u8 q5, .int .i64 q6, .int .i64 q7, .bool b8, .int .u8 q9] 27)
  have hX0 := Bx.new w 27 #[.int .u8 q0, .slice a1 l1.length c1, .slice a2 l2.length c2, .bool b3, .slice a4 l4.length c4, .int .u8 q5, .int .i64 q6, .int .i64 q7, .bool b8, .int .u8 q9]
  obtain ⟨W, HW⟩ : ∃ W, Hid (w.alloc (.cells #[.int .u8 q0, .slice a1 l1.length c1, .slice a2 l2.length c2, .bool b3, .slice a4 l4.length c4, .int .u8 q5, .int .i64 q6, .int .i64 q7, .bool b8, .int .u8 q9] 27) = W) := ⟨_, rfl⟩
  rw [HW.out] at hB0 hX0
  have HO := World.ownsRow_lit (base := w.heap.size) (size := 1) (e := 5) W #[.int .u8 1, .int .u8 2] 2 hB0.size (by decide) rfl
  have HB := hB0.alloc hB0.size (.cells #[.int .u8 1, .int .u8 2] 5)
  have X := hX0.alloc (.cells #[.int .u8 1, .int .u8 2] 5)
  clear hB0 hX0
  have ⟨_, _, _, x3, x4, _, _, _, x8, x9, _⟩ := X.ten
  by_cases h4 : 0 < l4.length <;> cases b8 <;> cases b3 <;> by_cases h9 : q9 = 2
  all_goals first | (have H9 : Hid (¬ q9 = 2) := h9) | skip
  all_goals first | (have H4 : Hid (¬ 0 < l4.length) := h4) | skip
  all_goals first | (have H4 : Hid (0 < l4.length) := h4) | skip
  all_goals try subst h9
  all_goals try have h9' : (q9 == 2) = false := beq_eq_false_iff_ne.2 H9.out
  all_goals (
    go_enter Tryd.func16, Tryd.ntmps16
    go_upto_region 1 with fail
    rw [HW.out]
    go_wp2_with (at_builtin; refine app_row (w0 := w) HO HB rfl _ _ rfl Tryd.underlying28 infoU8 rfl h01 h01 _ (by rfl) _ (by rfl) ?_ rfl (one_int _ _) (by decide) (Below.refl _ _) ?_; (simp); intro v1 w1 HO1 HB1 hg1 hat1; have X1 := X.grown (row_box HO X (by decide)) hg1; clear hat1 hg1 x3 x4 x8 x9 X HO HB; have X := X1; have HO := HO1; have HB := HB1; clear X1 HO1 HB1; have ⟨_, _, _, x3, x4, _, _, _, x8, x9, _⟩ := X.ten)
    go_ret
    exact steps_post HO (by rw [E.out]; simp [*, H4.out]) (by rw [E.out]; simp [*, H4.out, uvals]) HB)
end Go.Proofs.YthijjpbkpmojbaaDoor
