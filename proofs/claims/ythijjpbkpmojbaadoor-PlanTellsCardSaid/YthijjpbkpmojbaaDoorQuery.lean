import Derived.Test.YthijjpbkpmojbaaDoorClauses
namespace Go.Proofs.YthijjpbkpmojbaaDoor
open Go.RowKit Tw
set_option linter.unusedVariables false
set_option linter.unusedSimpArgs false

/-! ### clauses.Window -/
/-- The error of windows. -/
def win (k s e : Int) : Int :=
  if s < 1 ∨ 1073741824 < s then 8 else if k = 2 then (if 1 ≤ e ∧ e ≤ s ∧ s ≤ 16 * e then 0 else 8) else if k = 1 ∨ k = 3 then (if e = 0 then 0 else 8) else 8
set_option maxHeartbeats 1000000 in
theorem window_calls (k s e : Int) (w : World) : Calls Tryd.prog 45 #[.agg #[.int .u8 k, .int .i64 s, .int .i64 e]] w fun r w' => r = .returned (.int .i64 (win k s e)) ∧ Below w.heap.size w w' := by
  have hB : ∀ o, Below w.heap.size w (w.alloc o) := fun o => (Below.refl _ _).alloc (Nat.le_refl _) _
  by_cases h1 : s < 1
  · rw [show win k s e = 8 from by unfold win; rw [if_pos (.inl h1)]]
    have d1 : decide (s < 1) = true := decide_eq_true h1
    go_enter Tryd.func45, Tryd.ntmps45
    go_wp2
    go_ret
    exact ⟨rfl, hB _⟩
  have d1 : decide (s < 1) = false := decide_eq_false h1
  by_cases h2 : 1073741824 < s
  · rw [show win k s e = 8 from by unfold win; rw [if_pos (.inr h2)]]
    have d2 : decide (1073741824 < s) = true := decide_eq_true h2
    go_enter Tryd.func45, Tryd.ntmps45
    go_wp2
    go_ret
    exact ⟨rfl, hB _⟩
  have d2 : decide (1073741824 < s) = false := decide_eq_false h2
  have e0 : win k s e = if k = 2 then (if 1 ≤ e ∧ e ≤ s ∧ s ≤ 16 * e then 0 else 8) else if k = 1 ∨ k = 3 then (if e = 0 then 0 else 8) else 8 := by unfold win; rw [if_neg (by omega)]
  by_cases h3 : k = 2
  · subst h3
    rw [if_pos rfl] at e0
    by_cases h4 : 1 ≤ e
    · have d4 : decide (1 ≤ e) = true := decide_eq_true h4
      by_cases h5 : e ≤ s
      · have d5 : decide (e ≤ s) = true := decide_eq_true h5
        have hw : IntKind.i64.wrap (16 * e) = 16 * e := IntWalk.i64_in _ (by omega)
        by_cases h6 : s ≤ 16 * e
        · have d6 : decide (s ≤ 16 * e) = true := decide_eq_true h6
          rw [if_pos ⟨h4, h5, h6⟩] at e0
          rw [e0]; clear e0
          go_enter Tryd.func45, Tryd.ntmps45
          go_wp2
          go_ret
          exact ⟨rfl, hB _⟩
        · have d6 : decide (s ≤ 16 * e) = false := decide_eq_false h6
          rw [if_neg (fun h => h6 h.2.2)] at e0
          rw [e0]; clear e0
          go_enter Tryd.func45, Tryd.ntmps45
          go_wp2
          go_ret
          exact ⟨rfl, hB _⟩
      · have d5 : decide (e ≤ s) = false := decide_eq_false h5
        rw [if_neg (fun h => h5 h.2.1)] at e0
        rw [e0]; clear e0
        go_enter Tryd.func45, Tryd.ntmps45
        go_wp2
        go_ret
        exact ⟨rfl, hB _⟩
    · have d4 : decide (1 ≤ e) = false := decide_eq_false h4
      rw [if_neg (fun h => h4 h.1)] at e0
      rw [e0]; clear e0
      go_enter Tryd.func45, Tryd.ntmps45
      go_wp2
      go_ret
      exact ⟨rfl, hB _⟩
  rw [if_neg h3] at e0
  have d3 : (k == 2) = false := beq_eq_false_iff_ne.2 h3
  by_cases h7 : k = 1 ∨ k = 3
  · rw [if_pos h7] at e0
    by_cases h8 : e = 0
    · rw [if_pos h8] at e0
      rw [e0]; clear e0
      subst h8
      rcases h7 with rfl | rfl
      all_goals
        go_enter Tryd.func45, Tryd.ntmps45
        go_wp2
        go_ret
        exact ⟨rfl, hB _⟩
    · rw [if_neg h8] at e0
      have d8 : (e == 0) = false := beq_eq_false_iff_ne.2 h8
      rw [e0]; clear e0
      rcases h7 with rfl | rfl
      all_goals
        go_enter Tryd.func45, Tryd.ntmps45
        go_wp2
        go_ret
        exact ⟨rfl, hB _⟩
  · rw [if_neg h7] at e0
    have d7 : (k == 1) = false := beq_eq_false_iff_ne.2 (fun h => h7 (.inl h))
    have d8 : (k == 3) = false := beq_eq_false_iff_ne.2 (fun h => h7 (.inr h))
    rw [e0]; clear e0
    go_enter Tryd.func45, Tryd.ntmps45
    go_wp2
    go_ret
    exact ⟨rfl, hB _⟩

/-! ### Queries -/
structure Qr where
  ag : Int
  arg : List Nd
  src : List Int
  jn : Bool
  wh : List Nd
  wk : Int
  ws : Int
  we : Int
  bk : Bool
  lt : Int
/-- A query as a value: where its rows begin, their capacities. -/
structure QAt where
  a1 : Option Addr
  c1 : Nat
  a2 : Option Addr
  c2 : Nat
  a4 : Option Addr
  c4 : Nat
def qval (p : QAt) (q : Qr) : Value := .agg #[.int .u8 q.ag, .slice p.a1 q.arg.length p.c1, .slice p.a2 q.src.length p.c2, .bool q.jn, .slice p.a4 q.wh.length p.c4, .int .u8 q.wk, .int .i64 q.ws, .int .i64 q.we, .bool q.bk, .int .u8 q.lt]
structure RdQ (w : World) (p : QAt) (q : Qr) : Prop where
  arg : RdN w p.a1 q.arg
  src : RdI w p.a2 q.src
  wh : RdN w p.a4 q.wh
  l1 : q.arg.length ≤ p.c1
  l2 : q.src.length ≤ p.c2
  l4 : q.wh.length ≤ p.c4
theorem RdQ.below {w w1 : World} {p : QAt} {q : Qr} (h : RdQ w p q) (hb : Below w.heap.size w w1) : RdQ w1 p q := ⟨h.arg.below hb, h.src.below hb, h.wh.below hb, h.l1, h.l2, h.l4⟩

/-! ### clauses.Check -/
/-- The first error that is not none. -/
def orE (a b : Int) : Int := if a = 0 then b else a
def badHead (q : Qr) : Bool := decide (q.ag < 1) || decide (4 < q.ag) || ((q.lt != 1) && (q.lt != 2))
def argE (q : Qr) : Int := if q.ag = 1 then (if 0 < q.arg.length then 8 else 0) else chk q.arg
def whE (q : Qr) : Int := if 0 < q.wh.length then chk q.wh else 0
def joinE (q : Qr) : Int := if q.jn = true ∧ q.wk ≠ 1 then 8 else 0
def cchk (q : Qr) : Int := orE (if badHead q then 8 else 0) (orE (argE q) (orE (whE q) (orE (srcs q.src q.jn) (orE (joinE q) (win q.wk q.ws q.we)))))
theorem orE_ne {a b : Int} (h : a ≠ 0) : orE a b = a := by unfold orE; rw [if_neg h]
theorem orE_zero {a b : Int} (h : a = 0) : orE a b = b := by unfold orE; rw [if_pos h]
theorem ne_bool {a b : Int} (h : a ≠ b) : (a != b) = true := by rw [bne_iff_ne]; exact h
theorem eq_bool {a b : Int} (h : a = b) : (a != b) = false := by rw [bne_eq_false_iff_eq]; exact h
/-- The world behind the checks so far: the query's box is there. -/
structure QCut (w : World) (p : QAt) (q : Qr) (wx : World) : Prop where
  below : Below w.heap.size w wx
  lt : w.heap.size < wx.heap.size
  c0 : wx.cell? ⟨w.heap.size, 0, none⟩ = some (.int .u8 q.ag)
  c1 : wx.cell? ⟨w.heap.size, 1, none⟩ = some (.slice p.a1 q.arg.length p.c1)
  c2 : wx.cell? ⟨w.heap.size, 2, none⟩ = some (.slice p.a2 q.src.length p.c2)
  c3 : wx.cell? ⟨w.heap.size, 3, none⟩ = some (.bool q.jn)
  c4 : wx.cell? ⟨w.heap.size, 4, none⟩ = some (.slice p.a4 q.wh.length p.c4)
  c5 : wx.cell? ⟨w.heap.size, 5, none⟩ = some (.int .u8 q.wk)
  c6 : wx.cell? ⟨w.heap.size, 6, none⟩ = some (.int .i64 q.ws)
  c7 : wx.cell? ⟨w.heap.size, 7, none⟩ = some (.int .i64 q.we)
  c8 : wx.cell? ⟨w.heap.size, 8, none⟩ = some (.bool q.bk)
  c9 : wx.cell? ⟨w.heap.size, 9, none⟩ = some (.int .u8 q.lt)
theorem QCut.next {w wx w1 : World} {p : QAt} {q : Qr} (h : QCut w p q wx) (hb : Below wx.heap.size wx w1) : QCut w p q w1 :=
  ⟨below_trans h.below hb, Nat.lt_of_lt_of_le h.lt hb.size, cell_below hb h.c0, cell_below hb h.c1, cell_below hb h.c2, cell_below hb h.c3, cell_below hb h.c4, cell_below hb h.c5, cell_below hb h.c6, cell_below hb h.c7, cell_below hb h.c8, cell_below hb h.c9⟩
set_option maxHeartbeats 4000000 in
theorem clauses_Check_calls (p : QAt) (q : Qr) (w : World) (hr : RdQ w p q) :
    Calls Tryd.prog 26 #[qval p q] w fun r w' => r = .returned (.int .i64 (cchk q)) ∧ Below w.heap.size w w' := by
  have hq : cchk q = orE (if badHead q then 8 else 0) (orE (argE q) (orE (whE q) (orE (srcs q.src q.jn) (orE (joinE q) (win q.wk q.ws q.we))))) := rfl
  unfold badHead argE whE joinE at hq
  obtain ⟨q0, l1, l2, b3, l4, q5, q6, q7, b8, q9⟩ := q
  obtain ⟨h1, h2, h4, g1, g2, g4⟩ := hr
  simp only at h1 h2 h4 g1 g2 g4 hq
  unfold qval
  simp only
  have HB := Below.refl w.heap.size w
  by_cases hbad : (decide (q0 < 1) || decide (4 < q0) || ((q9 != 1) && (q9 != 2))) = true
  · rw [hbad, if_pos rfl, orE_ne (by decide)] at hq
    have E := Lib.hid hq
    clear hq
    have hb3 : q0 < 1 ∨ 4 < q0 ∨ (1 ≤ q0 ∧ q0 ≤ 4 ∧ q9 ≠ 1 ∧ q9 ≠ 2) := by
      simp only [Bool.or_eq_true, decide_eq_true_eq, Bool.and_eq_true, bne_iff_ne] at hbad
      omega
    clear hbad
    rcases hb3 with d1 | d1 | ⟨d1, d2, d3, d4⟩
    · have d2 : decide (q0 < 1) = true := decide_eq_true d1
      go_enter Tryd.func26, Tryd.ntmps26
      go_wp2_with fail
      go_ret
      exact ⟨by rw [E.out]; rfl, below_alloc HB _⟩
    · have d2 : decide (q0 < 1) = false := decide_eq_false (by omega)
      have d3 : decide (4 < q0) = true := decide_eq_true d1
      go_enter Tryd.func26, Tryd.ntmps26
      go_wp2_with fail
      go_ret
      exact ⟨by rw [E.out]; rfl, below_alloc HB _⟩
    · have e1 : decide (q0 < 1) = false := decide_eq_false (by omega)
      have e2 : decide (4 < q0) = false := decide_eq_false (by omega)
      have e3 := ne_bool d3
      have e4 := ne_bool d4
      go_enter Tryd.func26, Tryd.ntmps26
      go_wp2_with fail
      go_ret
      exact ⟨by rw [E.out]; rfl, below_alloc HB _⟩
  · rw [if_neg hbad, orE_zero rfl] at hq
    have hok : (1 ≤ q0 ∧ q0 ≤ 4) ∧ (q9 = 1 ∨ q9 = 2) := by
      simp only [Bool.not_eq_true, Bool.or_eq_false_iff, decide_eq_false_iff_not, Bool.and_eq_false_iff, bne_eq_false_iff_eq] at hbad
      omega
    clear hbad
    obtain ⟨⟨d1, d2⟩, d3⟩ := hok
    have e1 : decide (q0 < 1) = false := decide_eq_false (by omega)
    have e2 : decide (4 < q0) = false := decide_eq_false (by omega)
    have E := Lib.hid hq
    clear hq
    go_enter Tryd.func26, Tryd.ntmps26
    go_upto_region 1 with fail
    go_cut [23] (fun s23 wx => s23 = .bool false ∧ wx = w.alloc (.cells #[.int .u8 q0, .slice p.a1 l1.length p.c1, .slice p.a2 l2.length p.c2, .bool b3, .slice p.a4 l4.length p.c4, .int .u8 q5, .int .i64 q6, .int .i64 q7, .bool b8, .int .u8 q9] 27))
    case first =>
      rcases d3 with rfl | rfl
      all_goals (go_wp2_with fail; go_meet; exact ⟨rfl, rfl⟩)
    case rest =>
      obtain ⟨rfl, rfl⟩ := hcut
      have hQ : QCut w p ⟨q0, l1, l2, b3, l4, q5, q6, q7, b8, q9⟩ (w.alloc (.cells #[.int .u8 q0, .slice p.a1 l1.length p.c1, .slice p.a2 l2.length p.c2, .bool b3, .slice p.a4 l4.length p.c4, .int .u8 q5, .int .i64 q6, .int .i64 q7, .bool b8, .int .u8 q9] 27)) :=
        ⟨below_alloc HB _, by simp, by go_simp, by go_simp, by go_simp, by go_simp, by go_simp, by go_simp, by go_simp, by go_simp, by go_simp, by go_simp⟩
      clear d3 e1 e2 d1 d2
      go_upto_if 26 with fail
      go_cut [2] (fun s2 wx => QCut w p ⟨q0, l1, l2, b3, l4, q5, q6, q7, b8, q9⟩ wx ∧ Hid (cchk ⟨q0, l1, l2, b3, l4, q5, q6, q7, b8, q9⟩ = orE (if 0 < l4.length then chk l4 else 0) (orE (srcs l2 b3) (orE (if b3 = true ∧ q5 ≠ 1 then 8 else 0) (win q5 q6 q7)))))
      case first =>
        by_cases ha : q0 = 1
        · rw [if_pos ha] at E
          have f1 := eq_bool ha
          have Ha := Lib.hid ha
          clear ha
          by_cases hl : 0 < l1.length
          · have f2 : decide (0 < l1.length) = true := decide_eq_true hl
            rw [if_pos hl, orE_ne (by decide)] at E
            go_wp2_with fail
            go_ret
            exact ⟨by rw [E.out]; rfl, hQ.below⟩
          · have f2 : decide (0 < l1.length) = false := decide_eq_false hl
            rw [if_neg hl, orE_zero rfl] at E
            go_wp2_with fail
            go_meet
            exact ⟨hQ, E⟩
        · rw [if_neg ha] at E
          have f1 := ne_bool ha
          by_cases hl : chk l1 = 0
          · have f2 := eq_bool hl
            rw [orE_zero hl] at E
            have Hl := Lib.hid hl
            clear hl ha
            go_wp2_with (go_at_call 43; refine (nodes_Check_calls _ _ l1 _ (h1.below hQ.below)).mono ?_; rintro e w1 ⟨rfl, hb⟩)
            go_meet
            exact ⟨hQ.next hb, E⟩
          · have f2 := ne_bool hl
            rw [orE_ne hl] at E
            clear hl ha
            go_wp2_with (go_at_call 43; refine (nodes_Check_calls _ _ l1 _ (h1.below hQ.below)).mono ?_; rintro e w1 ⟨rfl, hb⟩)
            go_ret
            exact ⟨by rw [E.out]; rfl, below_trans hQ.below hb⟩
      case rest =>
        clear hQ E
        obtain ⟨hQ, E⟩ := hcut
        have ⟨hb0, hlt, c0, c1, c2, c3, c4, c5, c6, c7, c8, c9⟩ := hQ
        go_upto_if 40 with fail
        go_cut [2] (fun s2 wx => QCut w p ⟨q0, l1, l2, b3, l4, q5, q6, q7, b8, q9⟩ wx ∧ Hid (cchk ⟨q0, l1, l2, b3, l4, q5, q6, q7, b8, q9⟩ = (orE (srcs l2 b3) (orE (if b3 = true ∧ q5 ≠ 1 then 8 else 0) (win q5 q6 q7)))))
        case first =>
          by_cases hl : 0 < l4.length
          · have f2 : decide (0 < l4.length) = true := decide_eq_true hl
            rw [if_pos hl] at E
            by_cases h0 : chk l4 = 0
            · have f3 := eq_bool h0
              rw [orE_zero h0] at E
              clear h0
              go_wp2_with (go_at_call 43; refine (nodes_Check_calls _ _ l4 _ (h4.below hQ.below)).mono ?_; rintro e w1 ⟨rfl, hb⟩)
              go_meet
              exact ⟨hQ.next hb, E⟩
            · have f3 := ne_bool h0
              rw [orE_ne h0] at E
              clear h0
              go_wp2_with (go_at_call 43; refine (nodes_Check_calls _ _ l4 _ (h4.below hQ.below)).mono ?_; rintro e w1 ⟨rfl, hb⟩)
              go_ret
              exact ⟨by rw [E.out]; rfl, below_trans hQ.below hb⟩
          · have f2 : decide (0 < l4.length) = false := decide_eq_false hl
            rw [if_neg hl, orE_zero rfl] at E
            go_wp2_with fail
            go_meet
            exact ⟨hQ, E⟩
        case rest =>
          clear hQ E hb0 hlt c0 c1 c2 c3 c4 c5 c6 c7 c8 c9
          obtain ⟨hQ, E⟩ := hcut
          have ⟨hb0, hlt, c0, c1, c2, c3, c4, c5, c6, c7, c8, c9⟩ := hQ
          by_cases h0 : srcs l2 b3 = 0
          · have f3 := eq_bool h0
            rw [orE_zero h0] at E
            clear h0
            go_wp2_with (go_at_call 44; refine (sources_calls _ _ l2 b3 _ (h2.below hQ.below)).mono ?_; rintro e w1 ⟨rfl, hb⟩; have hQ := hQ.next hb; clear hb hb0 hlt c0 c1 c2 c3 c4 c5 c6 c7 c8 c9; have ⟨hb0, hlt, c0, c1, c2, c3, c4, c5, c6, c7, c8, c9⟩ := hQ)
            · have hj : b3 = true ∧ q5 ≠ 1 := ⟨by assumption, bne_iff_ne.1 (by assumption)⟩
              rw [if_pos hj, orE_ne (by decide)] at E
              go_ret
              exact ⟨by rw [E.out]; rfl, hQ.below⟩
            · have hj : ¬ (b3 = true ∧ q5 ≠ 1) := fun h => h.2 (bne_eq_false_iff_eq.1 (by assumption))
              rw [if_neg hj, orE_zero rfl] at E
              refine (window_calls _ _ _ _).mono ?_
              rintro e w2 ⟨rfl, hb⟩
              go_wp2
              go_ret
              exact ⟨by rw [E.out]; rfl, below_trans hQ.below hb⟩
            · have hj : ¬ (b3 = true ∧ q5 ≠ 1) := fun h => absurd h.1 (by assumption)
              rw [if_neg hj, orE_zero rfl] at E
              refine (window_calls _ _ _ _).mono ?_
              rintro e w2 ⟨rfl, hb⟩
              go_wp2
              go_ret
              exact ⟨by rw [E.out]; rfl, below_trans hQ.below hb⟩
          · have f3 := ne_bool h0
            rw [orE_ne h0] at E
            clear h0
            go_wp2_with (go_at_call 44; refine (sources_calls _ _ l2 b3 _ (h2.below hQ.below)).mono ?_; rintro e w1 ⟨rfl, hb⟩)
            go_ret
            exact ⟨by rw [E.out]; rfl, below_trans hQ.below hb⟩
end Go.Proofs.YthijjpbkpmojbaaDoor
