import Derived.Test.YthijjpbkpmojbaaDoorExpr
/-! ref11.Written: the reference's text of an expression. -/
namespace Go.Proofs.YthijjpbkpmojbaaDoor
open Go.RowKit Tw
set_option linter.unusedVariables false
set_option linter.unusedSimpArgs false
set_option maxHeartbeats 1000000 in
set_option maxRecDepth 100000 in
theorem line11_calls (k : Int) (w : World) (h : 1 ≤ k) (h' : k ≤ 19) : Calls Tryd.prog 54 #[.int .u8 k] w fun e w' => e = .returned (.int .i64 (lineK k : Int)) ∧ Below w.heap.size w w' := by
  have : k = 1 ∨ k = 2 ∨ k = 3 ∨ k = 4 ∨ k = 5 ∨ k = 6 ∨ k = 7 ∨ k = 8 ∨ k = 9 ∨ k = 10 ∨ k = 11 ∨ k = 12 ∨ k = 13 ∨ k = 14 ∨ k = 15 ∨ k = 16 ∨ k = 17 ∨ k = 18 ∨ k = 19 := by omega
  rcases this with rfl | rfl | rfl | rfl | rfl | rfl | rfl | rfl | rfl | rfl | rfl | rfl | rfl | rfl | rfl | rfl | rfl | rfl | rfl
  all_goals (
    go_enter Tryd.func54, Tryd.ntmps54
    go_wp2_with fail
    go_ret
    exact ⟨rfl, by with_reducible repeat (first | exact Below.refl _ _ | apply below_alloc | apply drewN_below | apply below_drew)⟩)
def signCells : List Value := ops.map strV
/-- The signs of the binary kinds, from the seventh on. -/
def Ops5Post (w : World) (e : Ending) (w' : World) : Prop := ∃ ad : Addr, e = .returned (.slice (some ad) 13 13) ∧ Below w.heap.size w w' ∧
  ∀ j : Nat, j < 13 → w'.cell? (ad.add j) = some (.string ⟨(ops.getD j []).toArray⟩)
set_option maxHeartbeats 1000000 in
set_option maxRecDepth 100000 in
theorem ops05_calls (w : World) : Calls Tryd.prog 56 #[] w (Ops5Post w) := by
  go_enter Tryd.func56, Tryd.ntmps56
  go_wp2_with fail
  go_ret
  refine ⟨⟨w.heap.size, 0, none⟩, rfl, below_alloc (Below.refl _ _) _, fun j hj => ?_⟩
  rw [add_plain]
  refine (Bx.new w 9 signCells.toArray).cell j _ ?_
  have : j = 0 ∨ j = 1 ∨ j = 2 ∨ j = 3 ∨ j = 4 ∨ j = 5 ∨ j = 6 ∨ j = 7 ∨ j = 8 ∨ j = 9 ∨ j = 10 ∨ j = 11 ∨ j = 12 := by omega
  rcases this with rfl | rfl | rfl | rfl | rfl | rfl | rfl | rfl | rfl | rfl | rfl | rfl | rfl <;> rfl
set_option maxHeartbeats 1000000 in
set_option maxRecDepth 100000 in
theorem part_calls (A : Option Addr) (c : Nat) (l : List Nd) (w : World) (hR : RdN w A l) (i : Nat) (x : Nd) (hx : l[i]? = some x) (h1 : 1 ≤ x.f0) (h19 : x.f0 ≤ 19) (least : Nat) (txt : List UInt8) (ht : txt.length ≤ 1000000)
    (hW : ∀ W, Below w.heap.size w W → Calls Tryd.prog 39 #[.slice A l.length c, .int .i64 i] W fun e w' => e = .returned (.string ⟨txt.toArray⟩) ∧ Below W.heap.size W w') :
    Calls Tryd.prog 55 #[.slice A l.length c, .int .i64 i, .int .i64 least] w fun e w' => e = .returned (.string ⟨(brB (decide (lineK x.f0 < least)) txt).toArray⟩) ∧ Below w.heap.size w w' := by
  obtain ⟨hl, hR⟩ := hR
  have hlt : i < l.length := (List.getElem?_eq_some_iff.1 hx).1
  obtain ⟨ad, rfl, hc⟩ := hR (by omega)
  obtain ⟨c0, c1, c2, c3, c4⟩ := hc i _ hx
  obtain ⟨k, hk⟩ : ∃ k, x.f0 = k := ⟨_, rfl⟩
  rw [hk] at c0 h1 h19 ⊢
  have hL := fun W => line11_calls k W h1 h19
  clear hc hR hx hk c1 c2 c3 c4
  have e1 : (⟨#[40]⟩ : ByteArray) ++ ⟨txt.toArray⟩ ++ ⟨#[41]⟩ = ⟨(40 :: (txt ++ [41])).toArray⟩ := by
    rw [show (⟨#[40]⟩ : ByteArray) = ⟨([40] : List UInt8).toArray⟩ from rfl, show (⟨#[41]⟩ : ByteArray) = ⟨([41] : List UInt8).toArray⟩ from rfl, str_app, str_app]; rfl
  replace e1 := Lib.hid e1
  have hln1 : ¬ 9223372036854775807 < 1 + txt.length := by omega
  have hln2 : ¬ 9223372036854775807 < 1 + txt.length + 1 := by omega
  by_cases hb : lineK k < least
  · have hbi : (lineK k : Int) < (least : Int) := by omega
    go_enter Tryd.func55, Tryd.ntmps55
    go_wp2_with (first
      | (go_at_call 54; (with_reducible refine (hL _).mono ?_); rintro e w1 ⟨rfl, hb1⟩)
      | (go_at_call 39; (with_reducible refine (hW _ hb1).mono ?_); rintro e w2 ⟨rfl, hb2⟩))
    go_ret
    exact ⟨by rw [decide_eq_true hb]; simp only [brB, if_true]; exact congrArg (fun s => Ending.returned (.string s)) e1.out, below_trans hb1 hb2⟩
  · have hbi : ¬ (lineK k : Int) < (least : Int) := by omega
    go_enter Tryd.func55, Tryd.ntmps55
    go_wp2_with (first
      | (go_at_call 54; (with_reducible refine (hL _).mono ?_); rintro e w1 ⟨rfl, hb1⟩)
      | (go_at_call 39; (with_reducible refine (hW _ hb1).mono ?_); rintro e w2 ⟨rfl, hb2⟩))
    go_ret
    exact ⟨by rw [decide_eq_false hb]; rfl, below_trans hb1 hb2⟩
end Go.Proofs.YthijjpbkpmojbaaDoor
