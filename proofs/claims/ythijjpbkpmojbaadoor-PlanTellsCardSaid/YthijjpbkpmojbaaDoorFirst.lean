import Derived.Test.YthijjpbkpmojbaaDoorOf
import Derived.Laws.EntriesVeiled
namespace Go.Proofs.YthijjpbkpmojbaaDoor
open Go.RowKit Tw
set_option linter.unusedVariables false
set_option linter.unusedSimpArgs false
/-- What a wish comes to: where it is not met, and the error. -/
def wAt (l : List Nd) (tr : Bool) : Int := if 0 < l.length ∧ wantE l tr ≠ 0 then (l.getD (ofI l).toNat default).f4 else 0
def wE (l : List Nd) (tr : Bool) : Int := if 0 < l.length then wantE l tr else 0
def firstAt (a b : List Nd) : Int := if wE a false = 0 then wAt b true else wAt a false
def firstE (a b : List Nd) : Int := orE (wE a false) (wE b true)
set_option maxHeartbeats 1000000 in
set_option maxRecDepth 100000 in
theorem first_calls (b : Nat) (A1 A2 : Option Addr) (c1 c2 : Nat) (l1 l2 : List Nd) (w : World) (h1 : RdN w A1 l1) (h2 : RdN w A2 l2)
    (k0 : w.cell? ⟨b, 0, none⟩ = some (.slice A1 l1.length c1)) (k1 : w.cell? ⟨b, 1, none⟩ = some (.func (.func 28) #[] #[]))
    (k2 : w.cell? ⟨b, 2, none⟩ = some (.slice A2 l2.length c2)) (k3 : w.cell? ⟨b, 3, none⟩ = some (.func (.func 29) #[] #[])) :
    Calls Tryd.prog 27 #[.slice (some ⟨b, 0, none⟩) 2 2] w fun e w' => e = .returned (.tuple #[.int .i64 (firstAt l1 l2), .int .i64 (firstE l1 l2)]) ∧ Below w.heap.size w w' := by
  have cellAt : ∀ (A : Option Addr) (l : List Nd) (wx : World), RdN wx A l → 0 < l.length → ∃ (ad : Addr) (k : Nat), A = some ad ∧ k < l.length ∧ Hid (ofI l = k) ∧ wx.cell? ⟨(ad.add (k * 5)).block, (ad.add (k * 5)).off + 4, none⟩ = some (.int .i64 (l.getD (ofI l).toNat default).f4) := by
    intro A l wx hr hp
    obtain ⟨ad, e, hc⟩ := hr.2 hp
    obtain ⟨h0, h1⟩ := ofI_in hp
    obtain ⟨k, hk⟩ := Int.eq_ofNat_of_zero_le h0
    refine ⟨ad, k, e, by omega, hk, ?_⟩
    have := (hc k (l.getD (ofI l).toNat default) (by rw [hk, Int.toNat_natCast, List.getD_eq_getElem?_getD, List.getElem?_eq_getElem (by omega)]; rfl)).2.2.2.2
    exact this
  have Hcell := Lib.hid cellAt
  clear cellAt
  have hlen1 := h1.1
  have hlen2 := h2.1
  have HB := Below.refl w.heap.size w
  have key : ∀ wx, Below w.heap.size w wx → (RdN wx A2 l2 ∧ wx.cell? ⟨b, 2, none⟩ = some (.slice A2 l2.length c2) ∧ wx.cell? ⟨b, 3, none⟩ = some (.func (.func 29) #[] #[])) :=
    fun wx hb => ⟨h2.below hb, cell_below hb k2, cell_below hb k3⟩
  have Key := Lib.hid key
  clear key
  have E : Hid (firstAt l1 l2 = (if wE l1 false = 0 then wAt l2 true else wAt l1 false) ∧ firstE l1 l2 = orE (wE l1 false) (wE l2 true)) := ⟨rfl, rfl⟩
  by_cases p1 : 0 < l1.length
  · have d1 : ((l1.length : Int) == 0) = false := beq_eq_false_iff_ne.2 (by omega)
    obtain ⟨ad1, i1, rfl, hi1, Hi1, hc1⟩ := Hcell.out _ _ _ h1 p1
    by_cases e1 : wantE l1 false = 0
    · have f1 : (wantE l1 false != 0) = false := eq_bool e1
      have hz : wE l1 false = 0 := by unfold wE; rw [if_pos p1, e1]
      rw [hz, if_pos rfl, orE_zero rfl] at E
      have E1 := Lib.hid e1
      clear e1 hz
      go_enter Tryd.func27, Tryd.ntmps27
      go_wp2_with fail
      refine wp_loop_rounds 3 ?_
      rw [rounds_succ]
      go_wp2_with fail
      refine (number_calls _ _ l1 _ (h1.below (below_alloc HB _))).mono ?_
      rw [Hi1.out]
      rintro e wx ⟨rfl, hb⟩
      have hbx := below_trans (below_alloc HB _) hb
      go_wp2_with fail
      clear d1
      clear k0 k1 k2 k3
      obtain ⟨h2x, k2x, k3x⟩ := Key.out wx hbx
      by_cases p2 : 0 < l2.length
      · have d2 : ((l2.length : Int) == 0) = false := beq_eq_false_iff_ne.2 (by omega)
        obtain ⟨ad2, i2, rfl, hi2, Hi2, hc2⟩ := Hcell.out _ _ _ h2x p2
        by_cases e2 : wantE l2 true = 0
        · have f2 : (wantE l2 true != 0) = false := eq_bool e2
          have hz : wE l2 true = 0 := by unfold wE; rw [if_pos p2, e2]
          have hy : wAt l2 true = 0 := by unfold wAt; rw [if_neg (fun h => h.2 e2)]
          rw [hz, hy] at E
          clear e2 hz hy
          rw [rounds_succ]
          go_wp2_with fail
          refine (truth_calls _ _ l2 _ (h2x.below (below_alloc (Below.refl _ _) _))).mono ?_
          rw [Hi2.out]
          rintro e wy ⟨rfl, hby⟩
          go_wp2_with fail
          rw [rounds_succ]
          go_wp2_with fail
          go_ret2
          exact ⟨ret_int2 E.out.1.symm E.out.2.symm, below_trans hbx (below_trans (below_alloc (Below.refl _ _) _) hby)⟩
        · have f2 : (wantE l2 true != 0) = true := ne_bool e2
          have hz : wE l2 true = wantE l2 true := by unfold wE; rw [if_pos p2]
          have hy : wAt l2 true = (l2.getD (ofI l2).toNat default).f4 := by unfold wAt; rw [if_pos ⟨p2, e2⟩]
          rw [hz, hy] at E
          clear e2 hz hy
          rw [rounds_succ]
          go_wp2_with fail
          refine (truth_calls _ _ l2 _ (h2x.below (below_alloc (Below.refl _ _) _))).mono ?_
          rw [Hi2.out]
          rintro e wy ⟨rfl, hby⟩
          have hbz := below_trans (below_alloc (Below.refl wx.heap.size wx) _) hby
          have hc3 := cell_below hbz hc2
          have hbl : wx.heap.size < wy.heap.size := by have := hby.size; simp at this; omega
          have ⟨hcl, hfz⟩ := bcell hby
          go_wp2_with fail
          go_ret2
          exact ⟨ret_int2 E.out.1.symm E.out.2.symm, below_trans hbx hbz⟩
      · have d2 : ((l2.length : Int) == 0) = true := beq_iff_eq.2 (by omega)
        have hz : wE l2 true = 0 := by unfold wE; rw [if_neg p2]
        have hy : wAt l2 true = 0 := by unfold wAt; rw [if_neg (fun h => p2 h.1)]
        rw [hz, hy] at E
        clear hz hy
        rw [rounds_succ]
        go_wp2_with fail
        rw [rounds_succ]
        go_wp2_with fail
        go_ret2
        exact ⟨ret_int2 E.out.1.symm E.out.2.symm, below_trans hbx (below_alloc (Below.refl _ _) _)⟩
    · have f1 : (wantE l1 false != 0) = true := ne_bool e1
      have hz : wE l1 false = wantE l1 false := by unfold wE; rw [if_pos p1]
      have hy : wAt l1 false = (l1.getD (ofI l1).toNat default).f4 := by unfold wAt; rw [if_pos ⟨p1, e1⟩]
      rw [hz, if_neg e1, orE_ne e1, hy] at E
      clear e1 hz hy
      go_enter Tryd.func27, Tryd.ntmps27
      go_wp2_with fail
      refine wp_loop_rounds 3 ?_
      rw [rounds_succ]
      go_wp2_with fail
      refine (number_calls _ _ l1 _ (h1.below (below_alloc HB _))).mono ?_
      rw [Hi1.out]
      rintro e wx ⟨rfl, hb⟩
      have hbx := below_trans (below_alloc HB _) hb
      have hc2 := cell_below hbx hc1
      have hbl : w.heap.size < wx.heap.size := by have := hb.size; simp at this; omega
      have ⟨hcl, hfz⟩ := bcell hb
      go_wp2_with fail
      go_ret2
      exact ⟨ret_int2 E.out.1.symm E.out.2.symm, hbx⟩
  · have d1 : ((l1.length : Int) == 0) = true := beq_iff_eq.2 (by omega)
    have hz : wE l1 false = 0 := by unfold wE; rw [if_neg p1]
    rw [hz, if_pos rfl, orE_zero rfl] at E
    clear hz
    go_enter Tryd.func27, Tryd.ntmps27
    go_wp2_with fail
    refine wp_loop_rounds 3 ?_
    rw [rounds_succ]
    go_wp2_with fail
    have hbx := below_alloc HB (.cells #[.slice A1 l1.length c1, .func (.func 28) #[] #[]] 71)
    generalize w.alloc (.cells #[.slice A1 l1.length c1, .func (.func 28) #[] #[]] 71) = wx at hbx ⊢
    clear d1
    clear k0 k1 k2 k3
    obtain ⟨h2x, k2x, k3x⟩ := Key.out wx hbx
    by_cases p2 : 0 < l2.length
    · have d2 : ((l2.length : Int) == 0) = false := beq_eq_false_iff_ne.2 (by omega)
      obtain ⟨ad2, i2, rfl, hi2, Hi2, hc2⟩ := Hcell.out _ _ _ h2x p2
      by_cases e2 : wantE l2 true = 0
      · have f2 : (wantE l2 true != 0) = false := eq_bool e2
        have hz : wE l2 true = 0 := by unfold wE; rw [if_pos p2, e2]
        have hy : wAt l2 true = 0 := by unfold wAt; rw [if_neg (fun h => h.2 e2)]
        rw [hz, hy] at E
        clear e2 hz hy
        rw [rounds_succ]
        go_wp2_with fail
        refine (truth_calls _ _ l2 _ (h2x.below (below_alloc (Below.refl _ _) _))).mono ?_
        rw [Hi2.out]
        rintro e wy ⟨rfl, hby⟩
        go_wp2_with fail
        rw [rounds_succ]
        go_wp2_with fail
        go_ret2
        exact ⟨ret_int2 E.out.1.symm E.out.2.symm, below_trans hbx (below_trans (below_alloc (Below.refl _ _) _) hby)⟩
      · have f2 : (wantE l2 true != 0) = true := ne_bool e2
        have hz : wE l2 true = wantE l2 true := by unfold wE; rw [if_pos p2]
        have hy : wAt l2 true = (l2.getD (ofI l2).toNat default).f4 := by unfold wAt; rw [if_pos ⟨p2, e2⟩]
        rw [hz, hy] at E
        clear e2 hz hy
        rw [rounds_succ]
        go_wp2_with fail
        refine (truth_calls _ _ l2 _ (h2x.below (below_alloc (Below.refl _ _) _))).mono ?_
        rw [Hi2.out]
        rintro e wy ⟨rfl, hby⟩
        have hbz := below_trans (below_alloc (Below.refl wx.heap.size wx) _) hby
        have hc3 := cell_below hbz hc2
        have hbl : wx.heap.size < wy.heap.size := by have := hby.size; simp at this; omega
        have ⟨hcl, hfz⟩ := bcell hby
        go_wp2_with fail
        go_ret2
        exact ⟨ret_int2 E.out.1.symm E.out.2.symm, below_trans hbx hbz⟩
    · have d2 : ((l2.length : Int) == 0) = true := beq_iff_eq.2 (by omega)
      have hz : wE l2 true = 0 := by unfold wE; rw [if_neg p2]
      have hy : wAt l2 true = 0 := by unfold wAt; rw [if_neg (fun h => p2 h.1)]
      rw [hz, hy] at E
      clear hz hy
      rw [rounds_succ]
      go_wp2_with fail
      rw [rounds_succ]
      go_wp2_with fail
      go_ret2
      exact ⟨ret_int2 E.out.1.symm E.out.2.symm, below_trans hbx (below_alloc (Below.refl _ _) _)⟩
/-! ### checks.Check -/
def qAt (q : Qr) : Int := if cchk q = 0 then firstAt q.arg q.wh else 0
def qE (q : Qr) : Int := orE (cchk q) (firstE q.arg q.wh)
set_option maxHeartbeats 1000000 in
theorem check_calls (p : QAt) (q : Qr) (w : World) (hr : RdQ w p q) :
    Calls Tryd.prog 13 #[qval p q] w fun e w' => e = .returned (.tuple #[.int .i64 (qAt q), .int .i64 (qE q)]) ∧ Below w.heap.size w w' := by
  have HB := Below.refl w.heap.size w
  have hc := fun W (h : RdQ W p q) => clauses_Check_calls p q W h
  unfold qval at hc
  have Hc := Lib.hid hc
  have h1 := hr.arg
  have h4 := hr.wh
  have g1 := hr.l1
  have g4 := hr.l4
  clear hc
  unfold qval
  by_cases h0 : cchk q = 0
  · have f0 := eq_bool h0
    have E : Hid (qAt q = firstAt q.arg q.wh ∧ qE q = firstE q.arg q.wh) := ⟨by unfold qAt; rw [if_pos h0], by unfold qE; rw [orE_zero h0]⟩
    clear h0
    go_enter Tryd.func13, Tryd.ntmps13
    go_wp2_with fail
    refine (Hc.out _ (hr.below (below_alloc HB _))).mono ?_
    rintro e w1 ⟨rfl, hb⟩
    have ⟨hcl, hfz⟩ := bcell hb
    have hbl : w.heap.size < w1.heap.size := by have := hb.size; simp at this; omega
    have hb1 := below_trans (below_alloc HB _) hb
    go_wp2_with fail
    refine (first_calls _ p.a1 p.a4 p.c1 p.c4 q.arg q.wh _ (h1.below (below_alloc hb1 _)) (h4.below (below_alloc hb1 _)) (by go_simp) (by go_simp) (by go_simp) (by go_simp)).mono ?_
    rintro e w2 ⟨rfl, hb2⟩
    go_wp2_with fail
    go_ret2
    exact ⟨ret_int2 E.out.1.symm E.out.2.symm, below_trans (below_alloc hb1 _) hb2⟩
  · have f0 := ne_bool h0
    have E : Hid (qAt q = 0 ∧ qE q = cchk q) := ⟨by unfold qAt; rw [if_neg h0], by unfold qE; rw [orE_ne h0]⟩
    clear h0
    go_enter Tryd.func13, Tryd.ntmps13
    go_wp2_with fail
    refine (Hc.out _ (hr.below (below_alloc HB _))).mono ?_
    rintro e w1 ⟨rfl, hb⟩
    have hb1 := below_trans (below_alloc HB _) hb
    go_wp2_with fail
    go_ret2
    exact ⟨ret_int2 E.out.1.symm E.out.2.symm, hb1⟩
end Go.Proofs.YthijjpbkpmojbaaDoor
