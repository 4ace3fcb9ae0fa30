import Derived.Test.YtjafnaifcmnkkaaRefB
/-! The reference: Alike. -/
namespace Go.Proofs.Ytjafnaifcmnkkaa
open Go.RowKit Tw
attribute [local go_sem high] eqNode
set_option linter.unusedVariables false
set_option linter.unusedSimpArgs false
/-- A node without its place. -/
def strip (x : Nd) : Nd := ⟨x.f0, x.f1, x.f2, x.f3, 0⟩
theorem strip_eq {x y : Nd} (h : (!x.f0 == y.f0) = false ∧ (!x.f1 == y.f1) = false ∧ (!x.f2 == y.f2) = false ∧ (!x.f3 == y.f3) = false) : strip x = strip y := by
  simp only [Bool.not_eq_false', beq_iff_eq] at h
  simp [strip, h]
theorem strip_ne {x y : Nd} (h : (!x.f0 == y.f0) = true ∨ (!x.f1 == y.f1) = true ∨ (!x.f2 == y.f2) = true ∨ (!x.f3 == y.f3) = true) : strip x ≠ strip y := by
  simp only [Bool.not_eq_true', beq_eq_false_iff_ne] at h
  simp only [strip, ne_eq, Nd.mk.injEq]
  omega
set_option maxHeartbeats 1000000 in
set_option maxRecDepth 100000 in
theorem alike04_calls (A B : Option Addr) (c d : Nat) (a b : List Nd) (w : World) (ha : RdN w A a) (hb : RdN w B b) :
    Calls Try.prog 34 #[.slice A a.length c, .slice B b.length d] w fun e w' => e = .returned (.bool (decide (a.map strip = b.map strip))) ∧ Below w.heap.size w w' := by
  have l1 := ha.1
  have l2 := hb.1
  by_cases hl : a.length = b.length
  · have hn : ((a.length : Int) != (b.length : Int)) = false := by rw [bne_eq_false_iff_eq]; omega
    have Hl := Lib.hid hl
    have hl' : a.length ≤ b.length := by omega
    clear hl
    go_enter Try.func34, Try.ntmps34
    go_wp2
    go_loopw [5] (fun i wr => ∃ k : Nat, k ≤ a.length ∧ i = .int .i64 k ∧ Below w.heap.size w wr ∧ ∀ (j : Nat) (x y : Nd), j < k → (a.map strip)[j]? = some x → (b.map strip)[j]? = some y → x = y) (fun i _ => a.length - (intOf i).toNat)
    case atStart => exact ⟨0, Nat.zero_le _, rfl, Below.refl _ _, by intro j x y h; omega⟩
    case round =>
      obtain ⟨k, hk, rfl, hB, hall⟩ := hrel
      by_cases hlt : k < a.length
      · obtain ⟨ad, rfl, hc⟩ := ha.2 (by omega)
        obtain ⟨ad2, rfl, hc2⟩ := hb.2 (by omega)
        obtain ⟨x, hx⟩ : ∃ x, a[k]? = some x := ⟨a[k], by simp [hlt]⟩
        obtain ⟨y, hy⟩ : ∃ y, b[k]? = some y := ⟨b[k]'(by omega), by simp⟩
        obtain ⟨hx0, hx1, hx2, hx3, hx4⟩ := (hc k x hx).below hB
        obtain ⟨hy0, hy1, hy2, hy3, hy4⟩ := (hc2 k y hy).below hB
        clear hc hc2
        have Hx := Lib.hid hx
        have Hy := Lib.hid hy
        have Hall := Lib.hid hall
        clear hx hy hall
        have hlt' : k < b.length := by omega
        go_wp2
        go_region_held3 (fun w' => w'.cell? (ad.add (k * 5)) = some (.int .u8 x.f0) ∧ w'.cell? ⟨(ad.add (k * 5)).block, (ad.add (k * 5)).off + 1, none⟩ = some (.int .i64 x.f1) ∧ w'.cell? ⟨(ad.add (k * 5)).block, (ad.add (k * 5)).off + 2, none⟩ = some (.int .i64 x.f2) ∧ w'.cell? ⟨(ad.add (k * 5)).block, (ad.add (k * 5)).off + 3, none⟩ = some (.int .i64 x.f3) ∧ w'.cell? ⟨(ad.add (k * 5)).block, (ad.add (k * 5)).off + 4, none⟩ = some (.int .i64 x.f4) ∧ w'.cell? (ad2.add (k * 5)) = some (.int .u8 y.f0) ∧ w'.cell? ⟨(ad2.add (k * 5)).block, (ad2.add (k * 5)).off + 1, none⟩ = some (.int .i64 y.f1) ∧ w'.cell? ⟨(ad2.add (k * 5)).block, (ad2.add (k * 5)).off + 2, none⟩ = some (.int .i64 y.f2) ∧ w'.cell? ⟨(ad2.add (k * 5)).block, (ad2.add (k * 5)).off + 3, none⟩ = some (.int .i64 y.f3) ∧ w'.cell? ⟨(ad2.add (k * 5)).block, (ad2.add (k * 5)).off + 4, none⟩ = some (.int .i64 y.f4)) (go_keep) (fail)
        all_goals go_wp2
        all_goals first
          | (go_ret
             have hne : strip x ≠ strip y := strip_ne (by assumption)
             have E : a.map strip ≠ b.map strip := list_ne (k := k) (by rw [List.getElem?_map, Hx.out]; rfl) (by rw [List.getElem?_map, Hy.out]; rfl) hne
             exact ⟨ret_bool (by rw [decide_eq_false E]), by with_reducible repeat (first | exact hB | apply below_alloc | apply drewN_below | apply below_drew)⟩)
          | (have he : strip x = strip y := strip_eq (by assumption)
             go_roundw
             case rel => exact ⟨k + 1, hlt, by go_num, by with_reducible repeat (first | exact hB | apply below_alloc | apply drewN_below | apply below_drew), snoc_all (by rw [List.getElem?_map, Hx.out]; rfl) (by rw [List.getElem?_map, Hy.out]; rfl) he Hall.out⟩
             case measure => simp [intOf]; omega)
      · obtain rfl : k = a.length := by omega
        have E : Hid (a.map strip = b.map strip) := list_eq (by simpa using Hl.out) (by simpa using hall)
        clear hall
        go_wp2
        go_ret
        exact ⟨ret_bool (by rw [decide_eq_true E.out]), hB⟩
  · have hn : ((a.length : Int) != (b.length : Int)) = true := by rw [bne_iff_ne]; omega
    have E : Hid (a.map strip ≠ b.map strip) := fun h => hl (by simpa using congrArg List.length h)
    clear hl
    go_enter Try.func34, Try.ntmps34
    go_wp2
    go_ret
    exact ⟨ret_bool (by rw [decide_eq_false E.out]), Below.refl _ _⟩
end Go.Proofs.Ytjafnaifcmnkkaa
