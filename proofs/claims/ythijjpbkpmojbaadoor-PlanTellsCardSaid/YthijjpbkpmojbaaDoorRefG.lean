import Derived.Test.YthijjpbkpmojbaaDoorRefF
/-! The references of layers 8 and 10: Check, Right, Check, Constant. -/
namespace Go.Proofs.YthijjpbkpmojbaaDoor
open Go.RowKit Tw
set_option linter.unusedVariables false
set_option linter.unusedSimpArgs false
theorem win_or (k s e : Int) : win k s e = 0 ∨ win k s e = 8 := by unfold win; (repeat' split) <;> omega
/-- A query's error, as the reference asks for it. -/
theorem cchk_if (q : Qr) : cchk q = if q.ag < 1 ∨ 4 < q.ag ∨ q.lt < 1 ∨ 2 < q.lt then 8 else if q.ag = 1 ∧ 0 < q.arg.length then 8 else if q.ag ≠ 1 ∧ chk q.arg ≠ 0 then chk q.arg else if 0 < q.wh.length ∧ chk q.wh ≠ 0 then chk q.wh else
    if srcs q.src q.jn ≠ 0 then srcs q.src q.jn else if win q.wk q.ws q.we ≠ 0 ∨ (q.jn = true ∧ q.wk ≠ 1) then 8 else 0 := by
  have hw := win_or q.wk q.ws q.we
  have hb : badHead q = true ↔ (q.ag < 1 ∨ 4 < q.ag ∨ q.lt < 1 ∨ 2 < q.lt) := by
    simp only [badHead, Bool.or_eq_true, decide_eq_true_eq, Bool.and_eq_true, bne_iff_ne]
    omega
  by_cases h1 : badHead q = true
  · rw [if_pos (hb.1 h1)]
    unfold cchk
    rw [if_pos h1, orE_ne (by decide)]
  have h1' := fun h => h1 (hb.2 h)
  rw [Bool.not_eq_true] at h1
  by_cases h2 : q.ag = 1 <;> by_cases h3 : 0 < q.arg.length <;> by_cases h3' : chk q.arg = 0 <;> by_cases h4 : 0 < q.wh.length <;> by_cases h5 : chk q.wh = 0 <;> by_cases h6 : srcs q.src q.jn = 0 <;> by_cases h7 : q.jn = true ∧ q.wk ≠ 1
  all_goals
    rw [if_neg h1']
    unfold cchk argE whE joinE orE
    simp only [h1, h2, h3, h3', h4, h5, h6, h7, if_true, if_false, true_and, false_and, and_true, and_false, not_true_eq_false, not_false_eq_true, ne_eq, Bool.false_eq_true, true_or, or_true, or_false]
    try (rcases hw with hw | hw <;> rw [hw] <;> simp)
    try simp
set_option maxHeartbeats 4000000 in
theorem check08_calls (p : QAt) (q : Qr) (w : World) (hr : RdQ w p q) (hs : q.ws ≤ 9223372036854775807) :
    Calls Tryd.prog 30 #[qval p q] w fun e w' => e = .returned (.int .i64 (cchk q)) ∧ Below w.heap.size w w' := by
  obtain ⟨q0, l1, l2, b3, l4, q5, q6, q7, b8, q9⟩ := q
  obtain ⟨h1, h2, h4, g1, g2, g4⟩ := hr
  simp only at h1 h2 h4 g1 g2 g4 hs
  unfold qval
  simp only
  have HB := Below.refl w.heap.size w
  have m1 := h1.1
  have m4 := h4.1
  have m2 := h2.1
  have E := Lib.hid (cchk_if ⟨q0, l1, l2, b3, l4, q5, q6, q7, b8, q9⟩)
  have hQ : QCut w p ⟨q0, l1, l2, b3, l4, q5, q6, q7, b8, q9⟩ (w.alloc (.cells #[.int .u8 q0, .slice p.a1 l1.length p.c1, .slice p.a2 l2.length p.c2, .bool b3, .slice p.a4 l4.length p.c4, .int .u8 q5, .int .i64 q6, .int .i64 q7, .bool b8, .int .u8 q9] 27)) :=
    ⟨below_alloc HB _, by simp, by go_simp, by go_simp, by go_simp, by go_simp, by go_simp, by go_simp, by go_simp, by go_simp, by go_simp, by go_simp⟩
  by_cases ha : q0 = 1
  · subst ha
    go_enter Tryd.func30, Tryd.ntmps30
    go_wp2_with (first
      | (go_at_call 47; ((with_reducible refine (check04_calls p.a1 p.c1 l1 _ ?_).mono ?_)); (exact h1.below hQ.below); rintro e w1 ⟨rfl, hb⟩; have hQ := hQ.next hb; have ⟨hb0, _, c0, c1, c2, c3, c4, c5, c6, c7, c8, c9⟩ := hQ)
      | (go_at_call 47; ((with_reducible refine (check04_calls p.a4 p.c4 l4 _ ?_).mono ?_)); (exact h4.below hQ.below); rintro e w1 ⟨rfl, hb⟩; have hQ := hQ.next hb; have ⟨hb0, _, c0, c1, c2, c3, c4, c5, c6, c7, c8, c9⟩ := hQ)
      | (go_at_call 48; ((with_reducible refine (sources08_calls p.a2 p.c2 l2 b3 _ ?_).mono ?_)); (exact h2.below hQ.below); rintro e w1 ⟨rfl, nd, rfl⟩; have hQ := hQ.next (drewN_below (Below.refl _ _) nd); have ⟨hb0, _, c0, c1, c2, c3, c4, c5, c6, c7, c8, c9⟩ := hQ)
      | (go_at_call 49; ((with_reducible refine (fits08_calls q5 q6 q7 _ ?_).mono ?_)); (exact hs); rintro e w1 ⟨rfl, hb⟩; have hQ := hQ.next hb; have ⟨hb0, _, c0, c1, c2, c3, c4, c5, c6, c7, c8, c9⟩ := hQ))
    all_goals
      go_ret
      refine ⟨ret_int ?_, by first | exact hQ.below | exact below_alloc HB _ | (rw [← drewN_N]; exact hQ.below)⟩
      rw [E.out]
      clear E
      try simp only
      try simp only [beq_iff_eq, bne_iff_ne, beq_eq_false_iff_ne, bne_eq_false_iff_eq, ne_eq, Bool.not_eq_true, Decidable.not_not] at *
      (repeat' split) <;> first | rfl | omega | (exfalso; simp_all; done) | (exfalso; simp_all; omega) | simp_all
  · have e1 : (q0 == 1) = false := beq_eq_false_iff_ne.2 ha
    have e2 : (q0 != 1) = true := ne_bool ha
    clear ha
    go_enter Tryd.func30, Tryd.ntmps30
    go_wp2_with (first
      | (go_at_call 47; ((with_reducible refine (check04_calls p.a1 p.c1 l1 _ ?_).mono ?_)); (exact h1.below hQ.below); rintro e w1 ⟨rfl, hb⟩; have hQ := hQ.next hb; have ⟨hb0, _, c0, c1, c2, c3, c4, c5, c6, c7, c8, c9⟩ := hQ)
      | (go_at_call 47; ((with_reducible refine (check04_calls p.a4 p.c4 l4 _ ?_).mono ?_)); (exact h4.below hQ.below); rintro e w1 ⟨rfl, hb⟩; have hQ := hQ.next hb; have ⟨hb0, _, c0, c1, c2, c3, c4, c5, c6, c7, c8, c9⟩ := hQ)
      | (go_at_call 48; ((with_reducible refine (sources08_calls p.a2 p.c2 l2 b3 _ ?_).mono ?_)); (exact h2.below hQ.below); rintro e w1 ⟨rfl, nd, rfl⟩; have hQ := hQ.next (drewN_below (Below.refl _ _) nd); have ⟨hb0, _, c0, c1, c2, c3, c4, c5, c6, c7, c8, c9⟩ := hQ)
      | (go_at_call 49; ((with_reducible refine (fits08_calls q5 q6 q7 _ ?_).mono ?_)); (exact hs); rintro e w1 ⟨rfl, hb⟩; have hQ := hQ.next hb; have ⟨hb0, _, c0, c1, c2, c3, c4, c5, c6, c7, c8, c9⟩ := hQ))
    all_goals
      go_ret
      refine ⟨ret_int ?_, by first | exact hQ.below | exact below_alloc HB _ | (rw [← drewN_N]; exact hQ.below)⟩
      rw [E.out]
      clear E
      try simp only
      try simp only [beq_iff_eq, bne_iff_ne, beq_eq_false_iff_ne, bne_eq_false_iff_eq, ne_eq, Bool.not_eq_true, Decidable.not_not] at *
      (repeat' split) <;> first | rfl | omega | (exfalso; simp_all; done) | (exfalso; simp_all; omega) | simp_all
/-! ### layer 10 -/
/-- The place of the node that an error tells lies in the list. -/
theorem told_cell {w : World} {A : Option Addr} {l : List Nd} (h : RdN w A l) (hp : 0 < l.length) : ∃ (ad : Addr) (k : Nat), A = some ad ∧ k < l.length ∧ Hid (ofI l = k) ∧ w.cell? ⟨(ad.add (k * 5)).block, (ad.add (k * 5)).off + 4, none⟩ = some (.int .i64 (l.getD (ofI l).toNat default).f4) := by
  obtain ⟨h0, h1⟩ := ofI_in hp
  obtain ⟨k, hk⟩ := Int.eq_ofNat_of_zero_le h0
  obtain ⟨ad, e, hc⟩ := h.at (k := k) (x := l.getD (ofI l).toNat default) (by rw [hk, Int.toNat_natCast, List.getD_eq_getElem?_getD, List.getElem?_eq_getElem (by omega)]; rfl)
  exact ⟨ad, k, e, by omega, hk, hc.2.2.2.2⟩
set_option maxHeartbeats 4000000 in
theorem right10_calls (p : QAt) (q : Qr) (w : World) (hr : RdQ w p q) :
    Calls Tryd.prog 31 #[qval p q] w fun e w' => e = .returned (.tuple #[.int .i64 (firstAt q.arg q.wh), .int .i64 (firstE q.arg q.wh)]) ∧ Below w.heap.size w w' := by
  obtain ⟨q0, l1, l2, b3, l4, q5, q6, q7, b8, q9⟩ := q
  obtain ⟨h1, h2, h4, g1, g2, g4⟩ := hr
  simp only at h1 h2 h4 g1 g2 g4 ⊢
  unfold qval
  simp only
  have HB := Below.refl w.heap.size w
  have m1 := h1.1
  have m4 := h4.1
  obtain ⟨a1, c1, a2, c2, a4, c4⟩ := p
  simp only at *
  have hQ : QCut w ⟨a1, c1, a2, c2, a4, c4⟩ ⟨q0, l1, l2, b3, l4, q5, q6, q7, b8, q9⟩ (w.alloc (.cells #[.int .u8 q0, .slice a1 l1.length c1, .slice a2 l2.length c2, .bool b3, .slice a4 l4.length c4, .int .u8 q5, .int .i64 q6, .int .i64 q7, .bool b8, .int .u8 q9] 27)) :=
    ⟨below_alloc HB _, by simp, by go_simp, by go_simp, by go_simp, by go_simp, by go_simp, by go_simp, by go_simp, by go_simp, by go_simp, by go_simp⟩
  have E : Hid (firstAt l1 l4 = (if wE l1 false = 0 then wAt l4 true else wAt l1 false) ∧ firstE l1 l4 = orE (wE l1 false) (wE l4 true)) := ⟨rfl, rfl⟩
  by_cases p1 : 0 < l1.length
  · obtain ⟨ad1, i1, rfl, hi1, Hi1, hc1⟩ := told_cell h1 p1
    by_cases p4 : 0 < l4.length
    · obtain ⟨ad4, i4, rfl, hi4, Hi4, hc4⟩ := told_cell h4 p4
      go_enter Tryd.func31, Tryd.ntmps31
      go_wp2_with (first | (go_at_call 50; ((with_reducible refine (want06_calls _ c1 l1 false _ ?_).mono ?_)); (exact h1.below hQ.below); rw [Hi1.out]; rintro e w1 ⟨rfl, hb⟩; have hc1 := cell_below (below_trans hQ.below hb) hc1; have hQ := hQ.next hb; have ⟨_, _, k0, k1, k2, k3, k4, k5, k6, k7, k8, k9⟩ := hQ) | (go_at_call 50; ((with_reducible refine (want06_calls _ c4 l4 true _ ?_).mono ?_)); (exact h4.below hQ.below); rw [Hi4.out]; rintro e w1 ⟨rfl, hb⟩; have hc4 := cell_below (below_trans hQ.below hb) hc4; have hQ := hQ.next hb; have ⟨_, _, k0, k1, k2, k3, k4, k5, k6, k7, k8, k9⟩ := hQ))
      all_goals
        go_ret2
        try simp only [bne_iff_ne, bne_eq_false_iff_eq, ne_eq] at *
        refine ⟨ret_int2 ?_ ?_, by first | exact hQ.below | exact below_alloc HB _⟩
        · rw [E.out.1]; unfold wE wAt; simp [*]
        · rw [E.out.2]; unfold wE orE; simp [*]
    · skip
      go_enter Tryd.func31, Tryd.ntmps31
      go_wp2_with (first | (go_at_call 50; ((with_reducible refine (want06_calls _ c1 l1 false _ ?_).mono ?_)); (exact h1.below hQ.below); rw [Hi1.out]; rintro e w1 ⟨rfl, hb⟩; have hc1 := cell_below (below_trans hQ.below hb) hc1; have hQ := hQ.next hb; have ⟨_, _, k0, k1, k2, k3, k4, k5, k6, k7, k8, k9⟩ := hQ))
      all_goals
        go_ret2
        try simp only [bne_iff_ne, bne_eq_false_iff_eq, ne_eq] at *
        refine ⟨ret_int2 ?_ ?_, by first | exact hQ.below | exact below_alloc HB _⟩
        · rw [E.out.1]; unfold wE wAt; simp [*]
        · rw [E.out.2]; unfold wE orE; simp [*]
  · by_cases p4 : 0 < l4.length
    · obtain ⟨ad4, i4, rfl, hi4, Hi4, hc4⟩ := told_cell h4 p4
      go_enter Tryd.func31, Tryd.ntmps31
      go_wp2_with (first | (go_at_call 50; ((with_reducible refine (want06_calls _ c4 l4 true _ ?_).mono ?_)); (exact h4.below hQ.below); rw [Hi4.out]; rintro e w1 ⟨rfl, hb⟩; have hc4 := cell_below (below_trans hQ.below hb) hc4; have hQ := hQ.next hb; have ⟨_, _, k0, k1, k2, k3, k4, k5, k6, k7, k8, k9⟩ := hQ))
      all_goals
        go_ret2
        try simp only [bne_iff_ne, bne_eq_false_iff_eq, ne_eq] at *
        refine ⟨ret_int2 ?_ ?_, by first | exact hQ.below | exact below_alloc HB _⟩
        · rw [E.out.1]; unfold wE wAt; simp [*]
        · rw [E.out.2]; unfold wE orE; simp [*]
    · skip
      go_enter Tryd.func31, Tryd.ntmps31
      go_wp2_with fail
      all_goals
        go_ret2
        try simp only [bne_iff_ne, bne_eq_false_iff_eq, ne_eq] at *
        refine ⟨ret_int2 ?_ ?_, by first | exact hQ.below | exact below_alloc HB _⟩
        · rw [E.out.1]; unfold wE wAt; simp [*]
        · rw [E.out.2]; unfold wE orE; simp [*]
set_option maxHeartbeats 1000000 in
theorem check10_calls (p : QAt) (q : Qr) (w : World) (hr : RdQ w p q) (hs : q.ws ≤ 9223372036854775807) :
    Calls Tryd.prog 17 #[qval p q] w fun e w' => e = .returned (.tuple #[.int .i64 (qAt q), .int .i64 (qE q)]) ∧ Below w.heap.size w w' := by
  have HB := Below.refl w.heap.size w
  have hc := fun W (h : RdQ W p q) => check08_calls p q W h hs
  have hc2 := fun W (h : RdQ W p q) => right10_calls p q W h
  unfold qval at hc hc2
  have Hc := Lib.hid hc
  have Hc2 := Lib.hid hc2
  clear hc hc2
  unfold qval
  by_cases h0 : cchk q = 0
  · have f0 := eq_bool h0
    have E : Hid (qAt q = firstAt q.arg q.wh ∧ qE q = firstE q.arg q.wh) := ⟨by unfold qAt; rw [if_pos h0], by unfold qE; rw [orE_zero h0]⟩
    clear h0
    go_enter Tryd.func17, Tryd.ntmps17
    go_wp2_with fail
    refine (Hc.out _ (hr.below (below_alloc HB _))).mono ?_
    rintro e w1 ⟨rfl, hb⟩
    have ⟨hcl, hfz⟩ := bcell hb
    have hb1 := below_trans (below_alloc HB _) hb
    go_wp2_with fail
    refine (Hc2.out _ (hr.below hb1)).mono ?_
    rintro e w2 ⟨rfl, hb2⟩
    go_wp2_with fail
    go_ret2
    exact ⟨ret_int2 E.out.1.symm E.out.2.symm, below_trans hb1 hb2⟩
  · have f0 := ne_bool h0
    have E : Hid (qAt q = 0 ∧ qE q = cchk q) := ⟨by unfold qAt; rw [if_neg h0], by unfold qE; rw [orE_ne h0]⟩
    clear h0
    go_enter Tryd.func17, Tryd.ntmps17
    go_wp2_with fail
    refine (Hc.out _ (hr.below (below_alloc HB _))).mono ?_
    rintro e w1 ⟨rfl, hb⟩
    have ⟨hcl, hfz⟩ := bcell hb
    have hb1 := below_trans (below_alloc HB _) hb
    go_wp2_with fail
    refine (Hc.out _ (hr.below hb1)).mono ?_
    rintro e w2 ⟨rfl, hb2⟩
    go_wp2_with fail
    go_ret2
    exact ⟨ret_int2 E.out.1.symm E.out.2.symm, below_trans hb1 hb2⟩
theorem field_var {x : Nd} (h1 : x.f0 ≠ 1 → x.f1 = 0) (h2 : x.f0 ≤ 4 → x.f2 = 0 ∧ x.f3 = 0) : fieldB x = varB x := by
  rw [Bool.eq_iff_iff]
  simp only [fieldB, varB, Bool.and_eq_true, Bool.or_eq_true, beq_iff_eq, decide_eq_true_eq]
  omega
theorem any_field {l : List Nd} (h : chk l = 0) : l.any fieldB = l.any varB := by
  obtain ⟨_, t, ht, _⟩ := chk_zero h
  have key : ∀ x ∈ l, fieldB x = varB x := by
    intro x hx
    obtain ⟨i, hi⟩ := List.getElem?_of_mem hx
    have := run_zero l [] _ ht i x hi
    exact field_var (by omega) this.1
  rw [Bool.eq_iff_iff, List.any_eq_true, List.any_eq_true]
  exact ⟨fun ⟨x, hx, h⟩ => ⟨x, hx, by rw [← key x hx]; exact h⟩, fun ⟨x, hx, h⟩ => ⟨x, hx, by rw [key x hx]; exact h⟩⟩
end Go.Proofs.YthijjpbkpmojbaaDoor
