import Derived.Test.YthijjpbkpmojbaaDoorRefA
/-! The references: comparisons of lists. -/
namespace Go.Proofs.YthijjpbkpmojbaaDoor
open Go.RowKit Tw
attribute [local go_sem high] eqNode
set_option linter.unusedVariables false
set_option linter.unusedSimpArgs false
theorem nd_eq {x y : Nd} : (x.f0 == y.f0 && (x.f1 == y.f1 && (x.f2 == y.f2 && (x.f3 == y.f3 && (x.f4 == y.f4))))) = decide (x = y) := by
  obtain ⟨x0, x1, x2, x3, x4⟩ := x
  obtain ⟨y0, y1, y2, y3, y4⟩ := y
  rw [Bool.eq_iff_iff]
  simp
theorem nd_ne {x y : Nd} : ((!x.f0 == y.f0) || ((!x.f1 == y.f1) || ((!x.f2 == y.f2) || ((!x.f3 == y.f3) || (!x.f4 == y.f4))))) = !decide (x = y) := by
  rw [← nd_eq]
  simp only [Bool.not_and]
theorem drewN_N (w : World) (n m : Nat) : (w.drewN n).drewN m = w.drewN (n + m) := by simp [World.drewN, Nat.add_assoc]
theorem snoc_all {α : Type} {a b : List α} {k : Nat} {x y : α} (hx : a[k]? = some x) (hy : b[k]? = some y) (h : x = y) (hall : ∀ (j : Nat) (x y : α), j < k → a[j]? = some x → b[j]? = some y → x = y) : ∀ (j : Nat) (x y : α), j < k + 1 → a[j]? = some x → b[j]? = some y → x = y := by
  intro j u v hj hu hv
  rcases Nat.lt_or_ge j k with h' | h'
  · exact hall j u v h' hu hv
  · obtain rfl : j = k := by omega
    rw [hx] at hu; rw [hy] at hv
    injection hu with hu; injection hv with hv
    rw [← hu, ← hv, h]
theorem list_ne {α : Type} {a b : List α} {k : Nat} {x y : α} (hx : a[k]? = some x) (hy : b[k]? = some y) (h : x ≠ y) : a ≠ b := by
  rintro rfl
  rw [hx] at hy; injection hy with hy; exact h hy
theorem list_eq {α : Type} {a b : List α} (hl : a.length = b.length) (h : ∀ (j : Nat) (x y : α), j < a.length → a[j]? = some x → b[j]? = some y → x = y) : a = b := by
  apply List.ext_getElem hl
  intro i h1 h2
  exact h i _ _ h1 (by simp) (by simp)
set_option maxHeartbeats 1000000 in
set_option maxRecDepth 100000 in
theorem sameS_calls (A B : Option Addr) (c d : Nat) (a b : List Int) (w : World) (ha : RdI w A a) (hb : RdI w B b) :
    Calls Tryd.prog 42 #[.slice A a.length c, .slice B b.length d] w fun e w' => e = .returned (.bool (decide (a = b))) ∧ ∃ n, w' = w.drewN n := by
  have l1 := ha.1
  have l2 := hb.1
  by_cases hl : a.length = b.length
  · have hn : ((a.length : Int) != (b.length : Int)) = false := by rw [bne_eq_false_iff_eq]; omega
    have Hl := Lib.hid hl
    have hl' : a.length ≤ b.length := by omega
    clear hl
    go_enter Tryd.func42, Tryd.ntmps42
    go_wp2
    go_loopw [5] (fun i wr => ∃ k n : Nat, k ≤ a.length ∧ i = .int .i64 k ∧ wr = w.drewN n ∧ ∀ (j : Nat) (x y : Int), j < k → a[j]? = some x → b[j]? = some y → x = y) (fun i _ => a.length - (intOf i).toNat)
    case atStart => exact ⟨0, 0, Nat.zero_le _, rfl, rfl, by intro j x y h; omega⟩
    case round =>
      obtain ⟨k, n, hk, rfl, rfl, hall⟩ := hrel
      by_cases hlt : k < a.length
      · obtain ⟨ad, rfl, hc⟩ := ha.2 (by omega)
        obtain ⟨ad2, rfl, hc2⟩ := hb.2 (by omega)
        obtain ⟨x, hx⟩ : ∃ x, a[k]? = some x := ⟨a[k], by simp [hlt]⟩
        obtain ⟨y, hy⟩ : ∃ y, b[k]? = some y := ⟨b[k]'(by omega), by simp⟩
        have hx0 := hc k x hx
        have hy0 := hc2 k y hy
        clear hc hc2
        have Hx := Lib.hid hx
        have Hy := Lib.hid hy
        have Hall := Lib.hid hall
        clear hx hy hall
        have hlt' : k < b.length := by omega
        go_wp2
        go_quiet (fail)
        have hne : (x != y) = !decide (x = y) := by rw [Bool.eq_iff_iff]; simp
        rw [hne]
        clear hne
        by_cases hxy : x = y
        · rw [decide_eq_true hxy]
          have Hxy := Lib.hid hxy
          clear hxy
          go_wp2
          go_roundw
          case rel => exact ⟨k + 1, n + nq, hlt, by go_num, rfl, snoc_all Hx.out Hy.out Hxy.out Hall.out⟩
          case measure => simp [intOf]; omega
        · rw [decide_eq_false hxy]
          have E : Hid (a ≠ b) := list_ne Hx.out Hy.out hxy
          clear hxy
          go_wp2
          go_ret
          exact ⟨ret_bool (by rw [decide_eq_false E.out]), _, drewN_N _ _ _⟩
      · obtain rfl : k = a.length := by omega
        have E : Hid (a = b) := list_eq Hl.out hall
        clear hall
        go_wp2
        go_ret
        exact ⟨ret_bool (by rw [decide_eq_true E.out]), n, rfl⟩
  · have hn : ((a.length : Int) != (b.length : Int)) = true := by rw [bne_iff_ne]; omega
    have E : Hid (a ≠ b) := fun h => hl (by rw [h])
    clear hl
    go_enter Tryd.func42, Tryd.ntmps42
    go_wp2
    go_ret
    exact ⟨ret_bool (by rw [decide_eq_false E.out]), 0, rfl⟩
end Go.Proofs.YthijjpbkpmojbaaDoor
