import Derived.Test.YtjafnaifcmnkkaaQuery
namespace Go.Proofs.Ytjafnaifcmnkkaa
open Go.RowKit Tw
attribute [local go_sem high] eqNode
set_option linter.unusedVariables false
set_option linter.unusedSimpArgs false

/-! ### checks.Constant -/
/-- Is it a field of a record, but for its place? -/
def fieldB (x : Nd) : Bool := (x.f0 == 2 || x.f0 == 3 || x.f0 == 4) && (x.f1 == 0 && (x.f2 == 0 && x.f3 == 0))
def ndval (x : Nd) : Value := .agg #[.int .u8 x.f0, .int .i64 x.f1, .int .i64 x.f2, .int .i64 x.f3, .int .i64 x.f4]
set_option maxHeartbeats 1000000 in
theorem field_calls (x : Nd) (w : World) : Calls Try.prog 19 #[ndval x] w fun e w' => e = .returned (.bool (fieldB x)) ∧ Below w.heap.size w w' := by
  have HB := Below.refl w.heap.size w
  obtain ⟨x0, x1, x2, x3, x4⟩ := x
  unfold ndval
  simp only
  cases hz : (x1 == 0 && (x2 == 0 && x3 == 0)) with
  | true =>
    simp only [Bool.and_eq_true, beq_iff_eq] at hz
    obtain ⟨rfl, rfl, rfl⟩ := hz
    by_cases h2 : x0 = 2
    · subst h2
      rw [show fieldB ⟨2, 0, 0, 0, x4⟩ = true from rfl]
      go_enter Try.func19, Try.ntmps19
      go_wp2
      go_ret
      exact ⟨rfl, below_alloc HB _⟩
    by_cases h3 : x0 = 3
    · subst h3
      rw [show fieldB ⟨3, 0, 0, 0, x4⟩ = true from rfl]
      go_enter Try.func19, Try.ntmps19
      go_wp2
      go_ret
      exact ⟨rfl, below_alloc HB _⟩
    by_cases h4 : x0 = 4
    · subst h4
      rw [show fieldB ⟨4, 0, 0, 0, x4⟩ = true from rfl]
      go_enter Try.func19, Try.ntmps19
      go_wp2
      go_ret
      exact ⟨rfl, below_alloc HB _⟩
    have d2 : (x0 == 2) = false := beq_eq_false_iff_ne.2 h2
    have d3 : (x0 == 3) = false := beq_eq_false_iff_ne.2 h3
    have d4 : (x0 == 4) = false := beq_eq_false_iff_ne.2 h4
    rw [show fieldB ⟨x0, 0, 0, 0, x4⟩ = false from by simp [fieldB, d2, d3, d4]]
    go_enter Try.func19, Try.ntmps19
    go_wp2
    go_ret
    exact ⟨rfl, below_alloc HB _⟩
  | false =>
    rw [show fieldB ⟨x0, x1, x2, x3, x4⟩ = false from by simp only [fieldB]; rw [hz, Bool.and_false]]
    have hz' : ∀ b : Bool, (b && (x1 == 0 && (x2 == 0 && (x3 == 0 && true)))) = false := fun b => by rw [Bool.and_true, hz, Bool.and_false]
    go_enter Try.func19, Try.ntmps19
    go_wp2
    go_ret
    exact ⟨rfl, below_alloc HB _⟩
set_option maxHeartbeats 1000000 in
theorem idxN_calls (A : Option Addr) (c : Nat) (l : List Nd) (w : World) (hr : RdN w A l) :
    Calls Try.prog 32 #[.slice A l.length c, .func (.func 19) #[] #[]] w fun e w' => e = .returned (.int .i64 (idxF fieldB l)) ∧ Below w.heap.size w w' := by
  have hl := hr.1
  go_enter Try.func32, Try.ntmps32
  go_wp2
  go_loopw [8] (fun i wr => ∃ k : Nat, k ≤ l.length ∧ i = .int .i64 k ∧ (∀ (j : Nat) (y : Nd), j < k → l[j]? = some y → fieldB y = false) ∧ Below w.heap.size w wr) (fun i _ => l.length - (intOf i).toNat)
  case atStart => exact ⟨0, Nat.zero_le _, rfl, by intro j y h; omega, Below.refl _ _⟩
  case round =>
    obtain ⟨k, hk, rfl, hno, hB⟩ := hrel
    by_cases hlt : k < l.length
    · obtain ⟨ad, rfl, hc⟩ := hr.2 (by omega)
      obtain ⟨x, hx⟩ : ∃ x, l[k]? = some x := ⟨l[k], by simp [hlt]⟩
      obtain ⟨hx0, hx1, hx2, hx3, hx4⟩ := (hc k x hx).below hB
      clear hc
      have Hx := Lib.hid hx
      have Hno := Lib.hid hno
      clear hx hno
      cases hp : fieldB x with
      | false =>
        have Hp := Lib.hid hp
        clear hp
        go_wp2_with (go_at_call 19; refine (field_calls x _).mono ?_; rw [Hp.out]; rintro e w1 ⟨rfl, hb⟩)
        go_roundw
        case rel => exact ⟨k + 1, hlt, by go_num, fun j y hj hy => by
          rcases Nat.lt_or_ge j k with h | h
          · exact Hno.out j y h hy
          · obtain rfl : j = k := by omega
            rw [Hx.out] at hy; injection hy with hy; rw [← hy]; exact Hp.out, below_trans hB hb⟩
        case measure => simp [intOf]; omega
      | true =>
        have e1 : idxF fieldB l = k := idxF_some Hx.out hp Hno.out
        have E1 := Lib.hid e1
        have Hp := Lib.hid hp
        clear hp e1
        go_wp2_with (go_at_call 19; refine (field_calls x _).mono ?_; rw [Hp.out]; rintro e w1 ⟨rfl, hb⟩)
        go_ret
        exact ⟨by rw [E1.out]; rfl, below_trans hB hb⟩
    · have e1 : idxF fieldB l = -1 := idxF_none (fun j x hj => hno j x (by have := (List.getElem?_eq_some_iff.1 hj).1; omega) hj)
      have E1 := Lib.hid e1
      clear e1 hno
      go_wp2
      go_ret
      exact ⟨by rw [E1.out]; rfl, hB⟩
set_option maxHeartbeats 400000 in
theorem hasN_calls (A : Option Addr) (c : Nat) (l : List Nd) (w : World) (hr : RdN w A l) :
    Calls Try.prog 20 #[.slice A l.length c, .func (.func 19) #[] #[]] w fun e w' => e = .returned (.bool (l.any fieldB)) ∧ Below w.heap.size w w' := by
  have h0 := idxF_any fieldB l
  have e1 : decide (0 ≤ idxF fieldB l) = l.any fieldB := by rw [Bool.eq_iff_iff, decide_eq_true_eq]; exact h0
  have E1 := Lib.hid e1
  clear h0 e1
  go_enter Try.func20, Try.ntmps20
  go_wp2_with (go_at_call 32; refine (idxN_calls _ _ _ _ hr).mono ?_; rintro e w1 ⟨rfl, hb⟩)
  go_ret
  exact ⟨by rw [← E1.out]; rfl, hb⟩
/-- Is an expression constant? -/
def constB (l : List Nd) : Bool := if chk l = 0 then !l.any fieldB else false
set_option maxHeartbeats 1000000 in
theorem constant_calls (A : Option Addr) (c : Nat) (l : List Nd) (w : World) (hr : RdN w A l) :
    Calls Try.prog 9 #[.slice A l.length c] w fun e w' => e = .returned (.tuple #[.bool (constB l), .int .i64 (chk l)]) ∧ Below w.heap.size w w' := by
  by_cases h : chk l = 0
  · have f := eq_bool h
    have e1 : constB l = !l.any fieldB := by unfold constB; rw [if_pos h]
    have H := Lib.hid h
    have E1 := Lib.hid e1
    clear h e1
    go_enter Try.func9, Try.ntmps9
    go_wp2_with (first
      | (go_at_call 18; refine (nodes_Check_calls _ _ l _ hr).mono ?_; rintro e w1 ⟨rfl, hb1⟩; have hr1 := hr.below hb1)
      | (go_at_call 20; refine (hasN_calls _ _ l _ hr1).mono ?_; rintro e w2 ⟨rfl, hb2⟩))
    go_ret2
    exact ⟨by rw [E1.out, H.out]; rfl, below_trans hb1 hb2⟩
  · have f := ne_bool h
    have e1 : constB l = false := by unfold constB; rw [if_neg h]
    have E1 := Lib.hid e1
    clear h e1
    go_enter Try.func9, Try.ntmps9
    go_wp2_with (go_at_call 18; refine (nodes_Check_calls _ _ l _ hr).mono ?_; rintro e w1 ⟨rfl, hb1⟩)
    go_ret2
    exact ⟨by rw [E1.out]; rfl, hb1⟩
end Go.Proofs.Ytjafnaifcmnkkaa
