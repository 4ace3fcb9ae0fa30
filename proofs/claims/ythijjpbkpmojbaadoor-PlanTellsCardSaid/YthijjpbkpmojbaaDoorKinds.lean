import Derived.Test.YthijjpbkpmojbaaDoorQuery
namespace Go.Proofs.YthijjpbkpmojbaaDoor
open Go.RowKit Tw
set_option linter.unusedVariables false
set_option linter.unusedSimpArgs false

/-! ### kinds.told -/
def RdB (w : World) (A : Option Addr) (l : List Bool) : Prop := l.length ≤ 9223372036854775807 ∧ (0 < l.length → ∃ ad, A = some ad ∧ ∀ (j : Nat) (x : Bool), l[j]? = some x → w.cell? (ad.add j) = some (.bool x))
theorem RdB.below {w w1 : World} {A : Option Addr} {l : List Bool} (h : RdB w A l) (hb : Below w.heap.size w w1) : RdB w1 A l :=
  ⟨h.1, fun hp => by obtain ⟨ad, e, hc⟩ := h.2 hp; exact ⟨ad, e, fun j x hj => cell_below hb (hc j x hj)⟩⟩
/-- Do all parts give what is asked for? -/
def takesB (bs : List Bool) (tr : Bool) (ps : List Nat) : Bool := ps.all fun p => bs.getD p false == tr
def TakesRel (bs : List Bool) (tr : Bool) (ps : List Nat) (i : Value) : Prop := ∃ k : Nat, k ≤ ps.length ∧ i = .int .i64 k ∧ takesB bs tr (ps.take k) = true
set_option maxHeartbeats 1000000 in
theorem takes_calls (tr : Bool) (Ap : Option Addr) (cp : Nat) (ps : List Nat) (bs : List Bool) (B : Nat) (Ab : Option Addr) (cb : Nat) (hin : ∀ p ∈ ps, p < bs.length) (w : World)
    (hrp : RdI w Ap (ps.map fun p : Nat => (p : Int))) (hb : w.cell? ⟨B, 0, none⟩ = some (.slice Ab bs.length cb)) (hrb : RdB w Ab bs) :
    Calls Tryd.prog 85 #[.bool tr, .slice Ap ps.length cp, .pointer (some ⟨B, 0, none⟩)] w fun e w' => e = .returned (.bool (takesB bs tr ps)) ∧ w = w' := by
  have hl := hrp.1
  have hl2 := hrb.1
  rw [List.length_map] at hl
  have Hin := Lib.hid hin
  clear hin
  go_enter Tryd.func85, Tryd.ntmps85
  go_wp2
  go_loop [10] (fun i => TakesRel bs tr ps i) (fun i => ps.length - (intOf i).toNat)
  case atStart => exact ⟨0, Nat.zero_le _, rfl, rfl⟩
  case round =>
    obtain ⟨k, hk, rfl, hall⟩ := hrel
    by_cases hlt : k < ps.length
    · obtain ⟨ad, rfl, hc⟩ := hrp.2 (by rw [List.length_map]; omega)
      obtain ⟨p, hp⟩ : ∃ p, ps[k]? = some p := ⟨ps[k], by simp [hlt]⟩
      have hcell := hc k p (by rw [List.getElem?_map, hp]; rfl)
      have hpl := Hin.out p (List.mem_of_getElem? hp)
      obtain ⟨ad2, rfl, hc2⟩ := hrb.2 (by omega)
      have hcell2 := hc2 p (bs.getD p false) (by rw [List.getD_eq_getElem?_getD, List.getElem?_eq_getElem hpl]; rfl)
      clear hc hc2
      have hnext : takesB bs tr (ps.take (k + 1)) = (takesB bs tr (ps.take k) && (bs.getD p false == tr)) := by
        obtain ⟨hk', rfl⟩ := List.getElem?_eq_some_iff.1 hp
        unfold takesB
        rw [List.take_succ_eq_append_getElem hk', List.all_append]
        simp only [List.all_cons, List.all_nil, Bool.and_true]
      have Hp := Lib.hid hp
      have Hall := Lib.hid hall
      have Hnext := Lib.hid hnext
      clear hp hall hnext
      obtain ⟨b, hbv⟩ : ∃ b, bs.getD p false = b := ⟨_, rfl⟩
      rw [hbv] at hcell2 Hnext
      have Hbv := Lib.hid hbv
      clear hbv
      cases hbt : (b == tr) with
      | true =>
        have f : (!(b == tr)) = false := by simp [hbt]
        have Hbt := Lib.hid hbt
        clear hbt
        go_wp2
        go_round
        case rel => exact ⟨k + 1, hlt, by go_num, by rw [Hnext.out, Hall.out, Hbt.out]; rfl⟩
        case measure => simp [intOf]; omega
      | false =>
        have f : (!(b == tr)) = true := by simp [hbt]
        have e1 : takesB bs tr ps = false := by
          unfold takesB
          rw [List.all_eq_false]
          exact ⟨p, List.mem_of_getElem? Hp.out, by rw [Hbv.out, hbt]; simp⟩
        have E1 := Lib.hid e1
        clear hbt e1
        go_wp2
        go_ret
        exact ⟨by rw [E1.out]; rfl, rfl⟩
    · obtain rfl : k = ps.length := by omega
      rw [List.take_length] at hall
      have E1 := Lib.hid hall
      clear hall
      go_wp2
      go_ret
      exact ⟨by rw [E1.out]; rfl, rfl⟩

/-- Does a node of this kind give a truth value? -/
def givesK (k : Int) : Bool := k == 6 || decide (12 ≤ k)
/-- Which parts a node has that are looked at, and what they may give. -/
def partsOf (x : Nd) : List Nat := if x.f0 ≤ 4 then [] else if x.f0 = 5 ∨ x.f0 = 6 then [x.f2.toNat] else [x.f2.toNat, x.f3.toNat]
def mayNum (k : Int) : Bool := k == 5 || (decide (7 ≤ k) && decide (k ≤ 17))
def mayTru (k : Int) : Bool := k == 6 || decide (16 ≤ k)
/-- Does a node fit, what the ones ahead of it give being told? -/
def fitsB (bs : List Bool) (x : Nd) : Bool := decide (x.f0 ≤ 4) || (mayNum x.f0 && takesB bs false (partsOf x)) || (mayTru x.f0 && takesB bs true (partsOf x))
/-- What all nodes give. -/
def gives (l : List Nd) : List Bool := l.map fun x => givesK x.f0
/-- The index of the first node that doesn't fit, or how many there are. -/
def wrongAt (l : List Nd) : Nat := ((List.range l.length).find? fun i => !fitsB (gives (l.take i)) (l.getD i default)).getD l.length
def InRange (l : List Nd) : Prop := ∀ (i : Nat) (x : Nd), l[i]? = some x → (5 ≤ x.f0 → 0 ≤ x.f2 ∧ x.f2 < i) ∧ (7 ≤ x.f0 → 0 ≤ x.f3 ∧ x.f3 < i)
end Go.Proofs.YthijjpbkpmojbaaDoor
