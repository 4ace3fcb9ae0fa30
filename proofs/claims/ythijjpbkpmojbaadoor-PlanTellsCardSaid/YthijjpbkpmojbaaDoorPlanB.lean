import Derived.Test.YthijjpbkpmojbaaDoorPlanA
import Derived.Test.YthijjpbkpmojbaaDoorSame
/-! Layer 22: the reference's steps; copies of slices; comparisons. -/
namespace Go.Proofs.YthijjpbkpmojbaaDoor
open Go.RowKit Tw
set_option linter.unusedVariables false
set_option linter.unusedSimpArgs false
attribute [local go_sem high] eqNode eqWin
set_option maxHeartbeats 1000000 in
theorem has_calls (p : QAt) (q : Qr) (s : Int) (w : World) (hm : q.wh.length ≤ 9223372036854775807) : Calls Tryd.prog 32 #[qval p q, .int .u8 s] w fun e w' => e = .returned (.bool (hasQ q s)) ∧ Below w.heap.size w w' := by
  unfold qval
  go_enter Tryd.func32, Tryd.ntmps32
  go_wp2
  all_goals
    go_ret
    refine ⟨ret_bool ?_, below_alloc (Below.refl _ _) _⟩
    try simp only [beq_iff_eq, beq_eq_false_iff_ne, ne_eq] at *
    simp [hasQ, *] <;> omega
set_option maxHeartbeats 2000000 in
set_option maxRecDepth 100000 in
theorem steps22_calls (p : QAt) (q : Qr) (w : World) (hm : q.wh.length ≤ 9223372036854775807) : Calls Tryd.prog 18 #[qval p q] w (StepsPost q w) := by
  have hc := fun (k : Nat) W => has_calls p q k W hm
  unfold qval at hc ⊢
  replace hc := Lib.hid hc
  have h0 : hasQ q ((0 : Nat) : Int) = false := by simp [hasQ]
  replace h0 := Lib.hid h0
  go_enter Tryd.func18, Tryd.ntmps18
  go_wp2
  go_loopw [3, 4] (fun v s wr => ∃ k : Nat, 1 ≤ k ∧ k ≤ 11 ∧ s = .int .u8 k ∧ wr.ownsRow w.heap.size 5 1 v (stepsK q k).length (uvals (stepsK q k)) ∧ Below w.heap.size w wr ∧ Bx wr w.heap.size 27 #[.int .u8 q.ag, .slice p.a1 q.arg.length p.c1, .slice p.a2 q.src.length p.c2, .bool q.jn, .slice p.a4 q.wh.length p.c4, .int .u8 q.wk, .int .i64 q.ws, .int .i64 q.we, .bool q.bk, .int .u8 q.lt]) (fun _ s _ => 11 - (intOf s).toNat)
  case atStart => exact ⟨1, by omega, by omega, rfl, by simp only [stepsK, h0.out]; exact World.ownsRow_nil _ _ _ _, below_alloc (Below.refl _ _) _, Bx.new w _ _⟩
  case round =>
    obtain ⟨k, hk1, hk11, rfl, HO, HB, X⟩ := hrel
    have ⟨x0, x1, x2, x3, x4, x5, x6, x7, x8, x9, _⟩ := X.ten
    have hlen := stepsK_len q k
    have hkw : IntKind.u8.wrap ((k : Int) + 1) = (k : Int) + 1 := by simp [IntKind.wrap, IntKind.signed, IntKind.bits]; omega
    by_cases hlt : k ≤ 10
    · have hlt' : (k : Int) ≤ 10 := by omega
      cases hh : hasQ q k with
      | true =>
        have E : Hid (stepsK q (k + 1) = stepsK q k ++ [(k : Int)]) := by simp [stepsK, hh, Hid]
        replace hh := Lib.hid hh
        replace hlen := Lib.hid hlen
        replace HO := Lib.hid HO
        go_wp2_with (first
          | (go_at_call 32; refine (hc.out k _).mono ?_; rw [hh.out]; rintro e w1 ⟨rfl, hb1⟩; have HB1 := below_trans HB hb1; have X1 := X.below hb1; have HO1 := own_below HO.out hb1)
          | (at_builtin; refine app_row (w0 := w) HO1 HB1 rfl _ _ rfl Tryd.underlying28 infoU8 rfl h01 h01 _ (by rfl) _ (by rfl) ?_ rfl (one_int _ _) (by have := hlen.out; omega) (Below.refl _ _) ?_; (simp); intro v1 w2 HO2 HB2 hg1 hat1; have X2 := X1.grown (row_box HO1 X1 (by decide)) hg1))
        go_roundw
        case rel => exact ⟨k + 1, by omega, by omega, by go_num, by rw [E.out, List.length_append, uvals_append]; exact HO2, HB2, X2⟩
        case measure => simp [intOf]; omega
      | false =>
        have E : Hid (stepsK q (k + 1) = stepsK q k) := by simp [stepsK, hh, Hid]
        replace hh := Lib.hid hh
        replace hlen := Lib.hid hlen
        replace HO := Lib.hid HO
        go_wp2_with (first
          | (go_at_call 32; refine (hc.out k _).mono ?_; rw [hh.out]; rintro e w1 ⟨rfl, hb1⟩; have HB1 := below_trans HB hb1; have X1 := X.below hb1))
        go_roundw
        case rel => exact ⟨k + 1, by omega, by omega, by go_num, by rw [E.out]; exact own_below HO.out hb1, HB1, X1⟩
        case measure => simp [intOf]; omega
    · obtain rfl : k = 11 := by omega
      go_wp2
      go_ret
      exact steps_post HO rfl rfl HB
def bval (l : List Int) : List UInt8 := l.map fun n => UInt8.ofNat n.toNat
set_option maxHeartbeats 1000000 in
set_option maxRecDepth 100000 in
theorem equalU_calls (A B : Option Addr) (c d : Nat) (a b : List Int) (w : World) (ha : RdU w A a) (hb : RdU w B b) :
    Calls Tryd.prog 25 #[.slice A a.length c, .slice B b.length d] w fun e w' => e = .returned (.bool (decide (a = b))) ∧ ∃ n, w' = w.drewN n := by
  have l1 := ha.1
  have l2 := hb.1
  by_cases hl : a.length = b.length
  · have hn : ((a.length : Int) != (b.length : Int)) = false := by rw [bne_eq_false_iff_eq]; omega
    have Hl := Lib.hid hl
    have hl' : a.length ≤ b.length := by omega
    clear hl
    go_enter Tryd.func25, Tryd.ntmps25
    go_wp2
    go_loopw [13] (fun i wr => ∃ k n : Nat, k ≤ a.length ∧ i = .int .i64 k ∧ wr = w.drewN n ∧ ∀ (j : Nat) (x y : Int), j < k → a[j]? = some x → b[j]? = some y → x = y) (fun i _ => a.length - (intOf i).toNat)
    case atStart => exact ⟨0, 0, Nat.zero_le _, rfl, rfl, by intro j x y h; omega⟩
    case round =>
      obtain ⟨k, n, hk, rfl, rfl, hall⟩ := hrel
      by_cases hlt : k < a.length
      · obtain ⟨ad, rfl, hc⟩ := ha.2 (by omega)
        obtain ⟨ad2, rfl, hc2⟩ := hb.2 (by omega)
        obtain ⟨x, hx⟩ : ∃ x, a[k]? = some x := ⟨a[k], by simp [hlt]⟩
        obtain ⟨y, hy⟩ : ∃ y, b[k]? = some y := ⟨b[k]'(by omega), by simp⟩
        have hx0 := hc k x hx
        have hy0 := hc2 k y hy
        clear hc hc2
        have Hx := Lib.hid hx
        have Hy := Lib.hid hy
        have Hall := Lib.hid hall
        clear hx hy hall
        have hlt' : k < b.length := by omega
        go_wp2
        go_quiet (fail)
        by_cases hxy : x = y
        · have hb' : (x == y) = true := beq_iff_eq.2 hxy
          have hb2 : (x != y) = false := by rw [bne, hb']; rfl
          have Hxy := Lib.hid hxy
          clear hxy
          go_wp2
          go_roundw
          case rel => exact ⟨k + 1, n + nq, hlt, by go_num, rfl, snoc_all Hx.out Hy.out Hxy.out Hall.out⟩
          case measure => simp [intOf]; omega
        · have hb' : (x == y) = false := beq_eq_false_iff_ne.2 hxy
          have hb2 : (x != y) = true := by rw [bne, hb']; rfl
          have E : Hid (a ≠ b) := list_ne Hx.out Hy.out hxy
          clear hxy
          go_wp2
          go_ret
          exact ⟨ret_bool (by rw [decide_eq_false E.out]), _, drewN_N _ _ _⟩
      · obtain rfl : k = a.length := by omega
        have E : Hid (a = b) := list_eq Hl.out hall
        clear hall
        go_wp2
        go_ret
        exact ⟨ret_bool (by rw [decide_eq_true E.out]), n, rfl⟩
  · have hn : ((a.length : Int) != (b.length : Int)) = true := by rw [bne_iff_ne]; omega
    have E : Hid (a ≠ b) := fun h => hl (by rw [h])
    clear hl
    go_enter Tryd.func25, Tryd.ntmps25
    go_wp2
    go_ret
    exact ⟨ret_bool (by rw [decide_eq_false E.out]), 0, rfl⟩
set_option maxHeartbeats 1000000 in
set_option maxRecDepth 100000 in
theorem exact_calls (A B : Option Addr) (c d : Nat) (a b : List Nd) (w : World) (ha : RdN w A a) (hb : RdN w B b) :
    Calls Tryd.prog 41 #[.slice A a.length c, .slice B b.length d] w fun e w' => e = .returned (.bool (decide (a = b))) ∧ ∃ n, w' = w.drewN n := by
  have l1 := ha.1
  have l2 := hb.1
  by_cases hl : a.length = b.length
  · have hn : ((a.length : Int) != (b.length : Int)) = false := by rw [bne_eq_false_iff_eq]; omega
    have Hl := Lib.hid hl
    have hl' : a.length ≤ b.length := by omega
    clear hl
    go_enter Tryd.func41, Tryd.ntmps41
    go_wp2
    go_loopw [5] (fun i wr => ∃ k n : Nat, k ≤ a.length ∧ i = .int .i64 k ∧ wr = w.drewN n ∧ ∀ (j : Nat) (x y : Nd), j < k → a[j]? = some x → b[j]? = some y → x = y) (fun i _ => a.length - (intOf i).toNat)
    case atStart => exact ⟨0, 0, Nat.zero_le _, rfl, rfl, by intro j x y h; omega⟩
    case round =>
      obtain ⟨k, n, hk, rfl, rfl, hall⟩ := hrel
      by_cases hlt : k < a.length
      · obtain ⟨ad, rfl, hc⟩ := ha.2 (by omega)
        obtain ⟨ad2, rfl, hc2⟩ := hb.2 (by omega)
        obtain ⟨x, hx⟩ : ∃ x, a[k]? = some x := ⟨a[k], by simp [hlt]⟩
        obtain ⟨y, hy⟩ : ∃ y, b[k]? = some y := ⟨b[k]'(by omega), by simp⟩
        obtain ⟨hx0, hx1, hx2, hx3, hx4⟩ := hc k x hx
        obtain ⟨hy0, hy1, hy2, hy3, hy4⟩ := hc2 k y hy
        clear hc hc2
        have Hx := Lib.hid hx
        have Hy := Lib.hid hy
        have Hall := Lib.hid hall
        clear hx hy hall
        have hlt' : k < b.length := by omega
        go_wp2
        go_quiet (fail)
        rw [nd_ne]
        by_cases hxy : x = y
        · rw [decide_eq_true hxy]
          have Hxy := Lib.hid hxy
          clear hxy
          go_wp2
          go_roundw
          case rel => exact ⟨k + 1, n + nq, hlt, by go_num, rfl, snoc_all Hx.out Hy.out Hxy.out Hall.out⟩
          case measure => simp [intOf]; omega
        · rw [decide_eq_false hxy]
          have E : Hid (a ≠ b) := list_ne Hx.out Hy.out hxy
          clear hxy
          go_wp2
          go_ret
          exact ⟨ret_bool (by rw [decide_eq_false E.out]), _, drewN_N _ _ _⟩
      · obtain rfl : k = a.length := by omega
        have E : Hid (a = b) := list_eq Hl.out hall
        clear hall
        go_wp2
        go_ret
        exact ⟨ret_bool (by rw [decide_eq_true E.out]), n, rfl⟩
  · have hn : ((a.length : Int) != (b.length : Int)) = true := by rw [bne_iff_ne]; omega
    have E : Hid (a ≠ b) := fun h => hl (by rw [h])
    clear hl
    go_enter Tryd.func41, Tryd.ntmps41
    go_wp2
    go_ret
    exact ⟨ret_bool (by rw [decide_eq_false E.out]), 0, rfl⟩
theorem drew_below {w w' : World} (h : ∃ n, w' = w.drewN n) : Below w.heap.size w w' := by obtain ⟨n, rfl⟩ := h; exact drewN_below (Below.refl _ _) n
/-- Two queries are one, with all places. -/
def exactQ (a b : Qr) : Bool := a.ag == b.ag && (decide (a.arg = b.arg) && (decide (a.src = b.src) && (a.jn == b.jn && (decide (a.wh = b.wh) && ((a.wk == b.wk && (a.ws == b.ws && a.we == b.we)) && (a.bk == b.bk && a.lt == b.lt))))))
theorem exactQ_self (q : Qr) : exactQ q q = true := by simp [exactQ]
set_option maxHeartbeats 4000000 in
theorem sameQ_calls (p1 p2 : QAt) (q1 q2 : Qr) (w : World) (h1 : RdQ w p1 q1) (h2 : RdQ w p2 q2) :
    Calls Tryd.prog 24 #[qval p1 q1, qval p2 q2] w fun e w' => e = .returned (.bool (exactQ q1 q2)) ∧ Below w.heap.size w w' := by
  unfold qval
  go_enter Tryd.func24, Tryd.ntmps24
  go_upto_region 1 with fail
  have T := two_start w p1 p2 q1 q2
  generalize ((w.alloc (.cells #[.int .u8 q1.ag, .slice p1.a1 q1.arg.length p1.c1, .slice p1.a2 q1.src.length p1.c2, .bool q1.jn, .slice p1.a4 q1.wh.length p1.c4, .int .u8 q1.wk, .int .i64 q1.ws, .int .i64 q1.we, .bool q1.bk, .int .u8 q1.lt] 27)).alloc (.cells #[.int .u8 q2.ag, .slice p2.a1 q2.arg.length p2.c1, .slice p2.a2 q2.src.length p2.c2, .bool q2.jn, .slice p2.a4 q2.wh.length p2.c4, .int .u8 q2.wk, .int .i64 q2.ws, .int .i64 q2.we, .bool q2.bk, .int .u8 q2.lt] 27)) = wx at T ⊢
  have ⟨x0, x1, x2, x3, x4, x5, x6, x7, x8, x9, _⟩ := T.hX.ten
  have ⟨y0, y1, y2, y3, y4, y5, y6, y7, y8, y9, _⟩ := T.hY.ten
  go_wp2_with (first
    | (go_at_call 41; ((with_reducible refine (exact_calls p1.a1 p2.a1 p1.c1 p2.c1 q1.arg q2.arg _ ?_ ?_).mono ?_)); (exact h1.arg.below T.hB); (exact h2.arg.below T.hB); rintro e w1 ⟨rfl, hd⟩; have T := T.next (drew_below hd); clear hd; have ⟨x0, x1, x2, x3, x4, x5, x6, x7, x8, x9, _⟩ := T.hX.ten; have ⟨y0, y1, y2, y3, y4, y5, y6, y7, y8, y9, _⟩ := T.hY.ten)
    | (go_at_call 41; ((with_reducible refine (exact_calls p1.a4 p2.a4 p1.c4 p2.c4 q1.wh q2.wh _ ?_ ?_).mono ?_)); (exact h1.wh.below T.hB); (exact h2.wh.below T.hB); rintro e w1 ⟨rfl, hd⟩; have T := T.next (drew_below hd); clear hd; have ⟨x0, x1, x2, x3, x4, x5, x6, x7, x8, x9, _⟩ := T.hX.ten; have ⟨y0, y1, y2, y3, y4, y5, y6, y7, y8, y9, _⟩ := T.hY.ten)
    | (go_at_call 42; ((with_reducible refine (sameS_calls p1.a2 p2.a2 p1.c2 p2.c2 q1.src q2.src _ ?_ ?_).mono ?_)); (exact h1.src.below T.hB); (exact h2.src.below T.hB); rintro e w1 ⟨rfl, hd⟩; have T := T.next (drew_below hd); clear hd; have ⟨x0, x1, x2, x3, x4, x5, x6, x7, x8, x9, _⟩ := T.hX.ten; have ⟨y0, y1, y2, y3, y4, y5, y6, y7, y8, y9, _⟩ := T.hY.ten))
  all_goals
    go_ret
    refine ⟨ret_bool ?_, T.hB⟩
    clear T x0 x1 x2 x3 x4 x5 x6 x7 x8 x9 y0 y1 y2 y3 y4 y5 y6 y7 y8 y9
    unfold exactQ
    simp [*]
end Go.Proofs.YthijjpbkpmojbaaDoor
