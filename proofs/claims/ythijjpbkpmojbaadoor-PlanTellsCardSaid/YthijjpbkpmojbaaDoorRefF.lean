import Derived.Test.YthijjpbkpmojbaaDoorSizes
/-! The references of layers 6, 8, 10: Of, Want; Great, Check; Right, Check, Constant. -/
namespace Go.Proofs.YthijjpbkpmojbaaDoor
open Go.RowKit Tw
set_option linter.unusedVariables false
set_option linter.unusedSimpArgs false
/-- A node's cells in a list that is read. -/
theorem RdN.at {w : World} {A : Option Addr} {l : List Nd} (h : RdN w A l) {k : Nat} {x : Nd} (hx : l[k]? = some x) : ∃ ad, A = some ad ∧ NdAt w (ad.add (k * 5)) x := by
  obtain ⟨ad, e, hc⟩ := h.2 (by have := (List.getElem?_eq_some_iff.1 hx).1; omega)
  exact ⟨ad, e, hc k x hx⟩
set_option maxHeartbeats 1000000 in
theorem of06_calls (A : Option Addr) (c : Nat) (l : List Nd) (w : World) (hr : RdN w A l) :
    Calls Tryd.prog 63 #[.slice A l.length c] w fun e w' => e = .returned (.tuple #[.bool (ofT l), .int .i64 (ofI l), .int .i64 (ofE l)]) ∧ Below w.heap.size w w' := by
  have hle := wrongAt_le l
  have hl := hr.1
  by_cases h0 : chk l = 0
  · have f0 := eq_bool h0
    have hpos := pos_of h0
    have H0 := Lib.hid h0
    have hw := wrap_sub (n := l.length) (k := 1) hpos (by omega)
    by_cases hwr : wrongAt l = l.length
    · have E : Hid (ofT l = givesK (l.getD (l.length - 1) default).f0 ∧ ofI l = (l.length : Int) - 1 ∧ ofE l = 0) := by constructor <;> simp [ofT, ofI, ofE, h0, hwr]
      have d : decide ((wrongAt l : Int) < (l.length : Int)) = false := by simp; omega
      have d' : decide (wrongAt l < l.length) = false := by simp; omega
      obtain ⟨x, hx⟩ : ∃ x, l[l.length - 1]? = some x := ⟨l[l.length - 1], by simp [hpos]⟩
      have hxe : l.getD (l.length - 1) default = x := by rw [List.getD_eq_getElem?_getD, hx]; rfl
      rw [hxe] at E
      obtain ⟨ad, rfl, hx0, _⟩ := hr.at hx
      clear h0 hwr hx hxe
      go_enter Tryd.func63, Tryd.ntmps63
      go_wp2_with fail
      refine (check04_calls _ _ l _ hr).mono ?_
      rintro e w1 ⟨rfl, hb1⟩
      go_wp2_with fail
      refine (wrong06_calls _ _ l H0.out _ (hr.below hb1)).mono ?_
      rintro e w2 ⟨rfl, hb2⟩
      have hb := below_trans hb1 hb2
      have hx1 := cell_below hb hx0
      go_wp2_with fail
      refine (gives_calls _ _).mono ?_
      rintro e w3 ⟨rfl, rfl⟩
      go_wp2
      go_ret3
      exact ⟨ret_bii E.out.1.symm E.out.2.1.symm E.out.2.2.symm, hb⟩
    · have E : Hid (ofT l = false ∧ ofI l = wrongAt l ∧ ofE l = 42) := by constructor <;> simp [ofT, ofI, ofE, h0, hwr]
      have d : decide ((wrongAt l : Int) < (l.length : Int)) = true := by simp; omega
      have d' : decide (wrongAt l < l.length) = true := by simp; omega
      clear h0 hwr
      go_enter Tryd.func63, Tryd.ntmps63
      go_wp2_with fail
      refine (check04_calls _ _ l _ hr).mono ?_
      rintro e w1 ⟨rfl, hb1⟩
      go_wp2_with fail
      refine (wrong06_calls _ _ l H0.out _ (hr.below hb1)).mono ?_
      rintro e w2 ⟨rfl, hb2⟩
      go_wp2
      go_ret3
      exact ⟨ret_bii E.out.1.symm E.out.2.1.symm E.out.2.2.symm, below_trans hb1 hb2⟩
  · have E : Hid (ofT l = false ∧ ofI l = 0 ∧ ofE l = chk l) := by constructor <;> simp [ofT, ofI, ofE, h0]
    have f0 := ne_bool h0
    clear h0
    go_enter Tryd.func63, Tryd.ntmps63
    go_wp2_with fail
    refine (check04_calls _ _ l _ hr).mono ?_
    rintro e w1 ⟨rfl, hb1⟩
    go_wp2_with fail
    refine (check04_calls _ _ l _ (hr.below hb1)).mono ?_
    rintro e w2 ⟨rfl, hb2⟩
    go_wp2
    go_ret3
    exact ⟨ret_bii E.out.1.symm E.out.2.1.symm E.out.2.2.symm, below_trans hb1 hb2⟩
set_option maxHeartbeats 1000000 in
theorem want06_calls (A : Option Addr) (c : Nat) (l : List Nd) (tr : Bool) (w : World) (hr : RdN w A l) :
    Calls Tryd.prog 50 #[.slice A l.length c, .bool tr] w fun e w' => e = .returned (.tuple #[.int .i64 (ofI l), .int .i64 (wantE l tr)]) ∧ Below w.heap.size w w' := by
  go_enter Tryd.func50, Tryd.ntmps50
  go_wp2_with fail
  refine (of06_calls _ _ l _ hr).mono ?_
  rintro e w1 ⟨rfl, hb1⟩
  go_wp2
  all_goals
    go_ret2
    refine ⟨ret_int2 rfl ?_, hb1⟩
    try simp only [beq_iff_eq, bne_iff_ne, beq_eq_false_iff_ne, bne_eq_false_iff_eq, ne_eq] at *
    unfold wantE
    (repeat' split) <;> simp_all
def greatQ (q : Qr) : Bool := decide (70 < q.arg.length ∨ 70 < q.wh.length ∨ 10 < q.src.length)
set_option maxHeartbeats 1000000 in
theorem great08_calls (p : QAt) (q : Qr) (w : World) (hr : RdQ w p q) :
    Calls Tryd.prog 4 #[qval p q] w fun e w' => e = .returned (.bool (greatQ q)) ∧ Below w.heap.size w w' := by
  have l1 := hr.arg.1
  have l4 := hr.wh.1
  have l2 := hr.src.1
  unfold qval
  go_enter Tryd.func4, Tryd.ntmps4
  go_wp2_with (first
    | (go_at_call 12; ((with_reducible refine (great04_calls p.a1 p.c1 q.arg.length _ ?_).mono ?_)); (exact l1); rintro e w1 ⟨rfl, rfl⟩)
    | (go_at_call 12; ((with_reducible refine (great04_calls p.a4 p.c4 q.wh.length _ ?_).mono ?_)); (exact l4); rintro e w1 ⟨rfl, rfl⟩))
  all_goals
    go_ret
    refine ⟨ret_bool (Bool.eq_iff_iff.2 ?_), below_alloc (Below.refl _ _) _⟩
    simp only [greatQ, decide_eq_true_eq]
    first | omega | (simp <;> omega)
end Go.Proofs.YthijjpbkpmojbaaDoor
