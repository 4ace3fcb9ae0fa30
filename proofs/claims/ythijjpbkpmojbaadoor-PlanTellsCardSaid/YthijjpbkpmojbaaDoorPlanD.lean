import Derived.Test.YthijjpbkpmojbaaDoorPlanC
import Derived.Laws.Cells
/-! Layer 22: the reference's Of; Check, the program's and the reference's. -/
namespace Go.Proofs.YthijjpbkpmojbaaDoor
open Go.RowKit Tw
set_option linter.unusedVariables false
set_option linter.unusedSimpArgs false
theorem push_all : ∀ (ns : List Int) (l : List UInt8), ns.foldl (fun (r : ByteArray) n => r.push (UInt8.ofNat n.toNat)) ⟨l.toArray⟩ = ⟨(l ++ bval ns).toArray⟩
  | [], l => by simp [bval]
  | n :: ns, l => by
    have e : (⟨l.toArray⟩ : ByteArray).push (UInt8.ofNat n.toNat) = ⟨(l ++ [UInt8.ofNat n.toNat]).toArray⟩ := by apply ByteArray.ext; simp [ByteArray.push]
    rw [List.foldl_cons, e, push_all ns]
    simp [bval]
/-- Bytes that are read, as a text. -/
theorem conv_bytes (A : Option Addr) (c : Nat) (l : List Int) (W : World) (h : RdU W A l) : (convert 28 9 (.slice A l.length c)).run Tryd.prog W = .ok (.string ⟨(bval l).toArray⟩) W := by
  rw [run_convert_bytes_string _ _ _ _ _ _ _ Tryd.underlying28 Tryd.underlying5 Tryd.underlying9]
  cases A with
  | none =>
    have : l = [] := by
      cases l with
      | nil => rfl
      | cons x l => obtain ⟨_, e, _⟩ := h.2 (by simp); cases e
    subst this
    rfl
  | some ad =>
    have hc : ∀ (j : Nat) (v : Value), (uvals l)[j]? = some v → W.cell? (ad.add j) = some v := by
      intro j v hj
      unfold uvals at hj
      rw [List.getElem?_map] at hj
      cases hx : l[j]? with
      | none => rw [hx] at hj; cases hj
      | some x =>
        rw [hx] at hj
        injection hj with hj
        obtain ⟨ad', e, hc⟩ := h.2 (by have := (List.getElem?_eq_some_iff.1 hx).1; omega)
        injection e with e; subst e
        rw [← hj]; exact hc j x hx
    have hl := run_loadCells_list (P := Tryd.prog) W ad (uvals l) hc
    rw [show (uvals l).length = l.length by unfold uvals; exact List.length_map _] at hl
    rw [run_bytesToString _ _ _ _ l hl]
    rw [show ByteArray.empty = (⟨([] : List UInt8).toArray⟩ : ByteArray) from rfl, push_all, List.nil_append]
theorem bval_inj : ∀ {a b : List Int}, (∀ x ∈ a, U8 x) → (∀ x ∈ b, U8 x) → bval a = bval b → a = b
  | [], [], _, _, _ => rfl
  | [], y :: b, _, _, h => by simp [bval] at h
  | x :: a, [], _, _, h => by simp [bval] at h
  | x :: a, y :: b, ha, hb, h => by
    simp only [bval, List.map_cons, List.cons.injEq] at h
    obtain ⟨h1, h2⟩ := h
    have hx := ha x (by simp)
    have hy := hb y (by simp)
    unfold U8 at hx hy
    have := congrArg UInt8.toNat h1
    simp only [UInt8.toNat_ofNat'] at this
    rw [Nat.mod_eq_of_lt (by omega), Nat.mod_eq_of_lt (by omega)] at this
    rw [show x = y by omega, bval_inj (fun z hz => ha z (by simp [hz])) (fun z hz => hb z (by simp [hz])) h2]
theorem stepsQ_u8 (q : Qr) : ∀ x ∈ stepsQ q, U8 x := by
  have : ∀ k, k ≤ 11 → ∀ x ∈ stepsK q k, U8 x := by
    intro k
    induction k with
    | zero => intro _ x h; simp [stepsK] at h
    | succ k ih =>
      intro hk x h
      simp only [stepsK, List.mem_append] at h
      rcases h with h | h
      · exact ih (by omega) x h
      · split at h
        · simp at h; subst h; unfold U8; omega
        · cases h
  exact this 11 (Nat.le_refl _)
/-- The error of a plan. -/
def pE (st : List Int) (q : Qr) : Int := if qE q = 0 then (if st = stepsQ q then 0 else 8) else qE q
theorem Below.drew1 (w : World) : Below w.heap.size w w.drew := below_drew (Below.refl _ _)
set_option maxHeartbeats 4000000 in
set_option maxRecDepth 100000 in
theorem pcheck_calls (S : Option Addr) (st : List Int) (c : Nat) (p : QAt) (q : Qr) (w : World) (hS : RdU w S st) (hr : RdQ w p q) :
    Calls Tryd.prog 10 #[planval S st.length c p q] w fun e w' => e = .returned (.int .i64 (pE st q)) ∧ Below w.heap.size w w' := by
  have k1 := fun W (h : RdQ W p q) => check_calls p q W h
  have k2 := fun W => steps_calls p q W hr.wh.1
  unfold qval at k1 k2
  replace k1 := Lib.hid k1
  replace k2 := Lib.hid k2
  unfold planval
  have HB := below_alloc (Below.refl w.heap.size w) (.cells #[.slice S st.length c, .int .u8 q.ag, .slice p.a1 q.arg.length p.c1, .slice p.a2 q.src.length p.c2, .bool q.jn, .slice p.a4 q.wh.length p.c4, .int .u8 q.wk, .int .i64 q.ws, .int .i64 q.we, .bool q.bk, .int .u8 q.lt] 30)
  have HX := Bx.new w 30 #[.slice S st.length c, .int .u8 q.ag, .slice p.a1 q.arg.length p.c1, .slice p.a2 q.src.length p.c2, .bool q.jn, .slice p.a4 q.wh.length p.c4, .int .u8 q.wk, .int .i64 q.ws, .int .i64 q.we, .bool q.bk, .int .u8 q.lt]
  by_cases hq : qE q = 0
  · have E : Hid (pE st q = if st = stepsQ q then 0 else 8) := by unfold pE; rw [if_pos hq]; rfl
    obtain ⟨b, hb⟩ : ∃ b, decide (st = stepsQ q) = b := ⟨_, rfl⟩
    have HQ := Lib.hid hq
    have Hb := Lib.hid hb
    clear hq hb
    go_enter Tryd.func10, Tryd.ntmps10
    go_upto_region 4 with (go_at_call 13; (with_reducible refine (k1.out _ (hr.below HB)).mono ?_); rw [HQ.out]; rintro e w1 ⟨rfl, hb1⟩)
    have B1 := below_trans HB hb1
    have X1 := HX.below hb1
    have Bd := below_drew B1
    have Xd := X1.drew
    have ⟨x0, x1, x2, x3, x4, x5, x6, x7, x8, x9, x10, _⟩ := Xd.eleven
    have hlt := X1.lt
    clear HX HB
    refine wp_region_noPanic ?_
    refine wp_region_held_drew (S := fun W => W.cell? ⟨w.heap.size, 0, none⟩ = some (.slice S st.length c) ∧ W.cell? ⟨w.heap.size, 1, none⟩ = some (.int .u8 q.ag) ∧ W.cell? ⟨w.heap.size, 2, none⟩ = some (.slice p.a1 q.arg.length p.c1) ∧ W.cell? ⟨w.heap.size, 3, none⟩ = some (.slice p.a2 q.src.length p.c2) ∧ W.cell? ⟨w.heap.size, 4, none⟩ = some (.bool q.jn) ∧ W.cell? ⟨w.heap.size, 5, none⟩ = some (.slice p.a4 q.wh.length p.c4) ∧ W.cell? ⟨w.heap.size, 6, none⟩ = some (.int .u8 q.wk) ∧ W.cell? ⟨w.heap.size, 7, none⟩ = some (.int .i64 q.ws) ∧ W.cell? ⟨w.heap.size, 8, none⟩ = some (.int .i64 q.we) ∧ W.cell? ⟨w.heap.size, 9, none⟩ = some (.bool q.bk) ∧ W.cell? ⟨w.heap.size, 10, none⟩ = some (.int .u8 q.lt)) (by kernel_rfl) (And.intro x0 (And.intro x1 (And.intro x2 (And.intro x3 (And.intro x4 (And.intro x5 (And.intro x6 (And.intro x7 (And.intro x8 (And.intro x9 x10)))))))))) (fun hHeld => ?_)
    (refine wpAnyH_take (i := 0) (oi := _) (v := ?_) rfl (by kernel_rfl) (by kernel_rfl) (by kernel_rfl) (fun _ _ _ h => h) (Or.inl ⟨by rfl, ?_⟩) (by assumption) ?_); rotate_left; (intro W hS; (try dsimp only at hS); go_simp; try with_reducible rfl); (try simp only [Act.put, List.setIfInBounds_toArray, List.set_cons_zero, List.set_cons_succ, List.getElem_toArray, List.getElem_cons_zero, List.getElem_cons_succ])
    (refine wpAnyH_take (i := 1) (oi := _) (v := ?_) rfl (by kernel_rfl) (by kernel_rfl) (by kernel_rfl) (fun _ _ _ h => h) (Or.inl ⟨by rfl, ?_⟩) (by assumption) ?_); rotate_left; (intro W hS; (try dsimp only at hS); go_simp; try with_reducible rfl); (try simp only [Act.put, List.setIfInBounds_toArray, List.set_cons_zero, List.set_cons_succ, List.getElem_toArray, List.getElem_cons_zero, List.getElem_cons_succ])
    (refine wpAnyH_take (i := 2) (oi := _) (v := ?_) rfl (by kernel_rfl) (by kernel_rfl) (by kernel_rfl) (fun _ _ _ h => h) (Or.inl ⟨by rfl, ?_⟩) (by assumption) ?_); rotate_left; (intro W hS; (try dsimp only at hS); go_simp; try with_reducible rfl); (try simp only [Act.put, List.setIfInBounds_toArray, List.set_cons_zero, List.set_cons_succ, List.getElem_toArray, List.getElem_cons_zero, List.getElem_cons_succ])
    (refine wpAnyH_take (i := 3) (oi := _) (v := ?_) rfl (by kernel_rfl) (by kernel_rfl) (by kernel_rfl) (fun _ _ _ h => h) (Or.inl ⟨by rfl, ?_⟩) (by assumption) ?_); rotate_left; (intro W hS; (try dsimp only at hS); go_simp; try with_reducible rfl); (try simp only [Act.put, List.setIfInBounds_toArray, List.set_cons_zero, List.set_cons_succ, List.getElem_toArray, List.getElem_cons_zero, List.getElem_cons_succ])
    (refine wpAnyH_ready (rs := [4]) (by kernel_rfl) (by simp) ?_); (refine AllReadyH.cons (o := _) rfl (fun K hK => ?_) AllReadyH.nil); go_simp
    (with_reducible refine (k2.out w1.drew).mono ?_); rintro e w2 ⟨A2, c2, rfl, R2, hb2⟩; have X2 := Xd.below hb2; have ⟨y0, y1, y2, y3, y4, y5, y6, y7, y8, y9, y10, _⟩ := X2.eleven; have B2 := below_trans Bd hb2
    go_wp2_with fail
    refine hK.out _ _ (And.intro y0 (And.intro y1 (And.intro y2 (And.intro y3 (And.intro y4 (And.intro y5 (And.intro y6 (And.intro y7 (And.intro y8 (And.intro y9 y10)))))))))) (fun hHeld => ?_)
    clear hK K; (try simp only [Act.put, List.setIfInBounds_toArray, List.set_cons_zero, List.set_cons_succ, List.getElem_toArray, List.getElem_cons_zero, List.getElem_cons_succ])
    (refine wpAnyH_ready (rs := [5]) (by kernel_rfl) (by simp) ?_); (refine AllReadyH.cons (o := _) rfl (fun K hK => ?_) AllReadyH.nil); go_simp
    (with_reducible refine (equalU_calls S A2 c c2 st (stepsQ q) w2 (hS.below B2) (rdu_own R2 (Below.refl _ _))).mono ?_); rw [Hb.out]; rintro e w3 ⟨rfl, hd⟩; have hb3 := drew_below hd; clear hd; have X3 := X2.below hb3; have ⟨z0, z1, z2, z3, z4, z5, z6, z7, z8, z9, z10, _⟩ := X3.eleven; have B3 := below_trans B2 hb3
    go_wp2_with fail
    refine hK.out _ _ (And.intro z0 (And.intro z1 (And.intro z2 (And.intro z3 (And.intro z4 (And.intro z5 (And.intro z6 (And.intro z7 (And.intro z8 (And.intro z9 z10)))))))))) (fun hHeld => ?_)
    clear hK K; (try simp only [Act.put, List.setIfInBounds_toArray, List.set_cons_zero, List.set_cons_succ, List.getElem_toArray, List.getElem_cons_zero, List.getElem_cons_succ])
    (refine wpAnyH_take (i := 6) (oi := _) (v := ?_) rfl (by kernel_rfl) (by kernel_rfl) (by kernel_rfl) (fun _ _ _ h => h) (Or.inl ⟨by rfl, ?_⟩) (by assumption) ?_); rotate_left; (intro W hS; (try dsimp only at hS); go_simp; try with_reducible rfl); (try simp only [Act.put, List.setIfInBounds_toArray, List.set_cons_zero, List.set_cons_succ, List.getElem_toArray, List.getElem_cons_zero, List.getElem_cons_succ])
    refine wpAnyH_done (by kernel_rfl) ?_ _
    refine NoPanic.normal ?_
    clear hHeld
    cases b
    all_goals
      go_wp2_with fail
      go_ret
      refine ⟨ret_int ?_, B3⟩
      rw [E.out]
      have := Hb.out
      simp at this
      simp [this]
  · have hne : (qE q != 0) = true := bne_iff_ne.2 hq
    have E : Hid (pE st q = qE q) := by unfold pE; rw [if_neg hq]; rfl
    clear hq
    go_enter Tryd.func10, Tryd.ntmps10
    go_wp2_with (go_at_call 13; (with_reducible refine (k1.out _ (hr.below HB)).mono ?_); rintro e w1 ⟨rfl, hb1⟩)
    go_ret
    exact ⟨ret_int E.out.symm, below_trans HB hb1⟩
set_option maxHeartbeats 4000000 in
set_option maxRecDepth 100000 in
theorem of22_calls (p : QAt) (q : Qr) (w : World) (hr : RdQ w p q) (hn : NilQ p q) (hs : q.ws ≤ 9223372036854775807) (b1 : q.arg.length ≤ 100) (b2 : q.src.length ≤ 100) (b4 : q.wh.length ≤ 100) :
    Calls Tryd.prog 6 #[qval p q] w (OfPost q w) := by
  have k1 := fun W (h : RdQ W p q) => check10_calls p q W h hs
  have k2 := fun W => steps22_calls p q W hr.wh.1
  have k3 := fun W (h : RdQ W p q) => twin_calls p q W h hn b1 b2 b4
  unfold qval at k1 k2 k3 ⊢
  replace k1 := Lib.hid k1
  replace k2 := Lib.hid k2
  replace k3 := Lib.hid k3
  have T0 := plAt_start w p q
  by_cases hq : qE q = 0
  · have HQ := Lib.hid hq
    clear hq
    go_enter Tryd.func6, Tryd.ntmps6
    go_upto_region 4 with (go_at_call 17; (with_reducible refine (k1.out _ ?_).mono ?_); (exact hr.below (below_alloc (below_alloc (Below.refl _ _) _) _)); rw [HQ.out]; rintro e w1 ⟨rfl, hb1⟩; have T := T0.next hb1)
    have Td := T.next (below_drew (Below.refl _ _))
    have ⟨x0, x1, x2, x3, x4, x5, x6, x7, x8, x9, _⟩ := Td.hX.ten
    have hlt := Td.hX.lt
    clear T0
    refine wp_region_noPanic ?_
    refine wp_region_U 5 (fun W => W.cell? ⟨w.heap.size, 0, none⟩ = some (.int .u8 q.ag) ∧ W.cell? ⟨w.heap.size, 1, none⟩ = some (.slice p.a1 q.arg.length p.c1) ∧ W.cell? ⟨w.heap.size, 2, none⟩ = some (.slice p.a2 q.src.length p.c2) ∧ W.cell? ⟨w.heap.size, 3, none⟩ = some (.bool q.jn) ∧ W.cell? ⟨w.heap.size, 4, none⟩ = some (.slice p.a4 q.wh.length p.c4) ∧ W.cell? ⟨w.heap.size, 5, none⟩ = some (.int .u8 q.wk) ∧ W.cell? ⟨w.heap.size, 6, none⟩ = some (.int .i64 q.ws) ∧ W.cell? ⟨w.heap.size, 7, none⟩ = some (.int .i64 q.we) ∧ W.cell? ⟨w.heap.size, 8, none⟩ = some (.bool q.bk) ∧ W.cell? ⟨w.heap.size, 9, none⟩ = some (.int .u8 q.lt)) (by kernel_rfl) ?_
    have hHeld := (And.intro x0 (And.intro x1 (And.intro x2 (And.intro x3 (And.intro x4 (And.intro x5 (And.intro x6 (And.intro x7 (And.intro x8 x9)))))))))
    (refine wpAnyU_take (i := 0) (oi := _) (v := ?_) rfl (by kernel_rfl) (by kernel_rfl) (by kernel_rfl) (fun _ _ _ h => h) (by kernel_rfl) (Or.inl ⟨by rfl, ?_⟩) hHeld (by kernel_rfl) ?_); rotate_left; (intro W hS; (try dsimp only at hS); go_simp; try with_reducible rfl); (try simp only [Act.put, List.setIfInBounds_toArray, List.set_cons_zero, List.set_cons_succ, List.getElem_toArray, List.getElem_cons_zero, List.getElem_cons_succ])
    (refine wpAnyU_take (i := 2) (oi := _) (v := ?_) rfl (by kernel_rfl) (by kernel_rfl) (by kernel_rfl) (fun _ _ _ h => h) (by kernel_rfl) (Or.inl ⟨by rfl, ?_⟩) hHeld (by kernel_rfl) ?_); rotate_left; (intro W hS; (try dsimp only at hS); go_simp; try with_reducible rfl); (try simp only [Act.put, List.setIfInBounds_toArray, List.set_cons_zero, List.set_cons_succ, List.getElem_toArray, List.getElem_cons_zero, List.getElem_cons_succ])
    (refine wpAnyU_one (i := 1) (o := _) (by kernel_rfl) rfl (fun K hK => ?_)); go_simp
    (with_reducible refine (k2.out _).mono ?_); rintro e w5 ⟨S, cS, rfl, RS, hb5⟩; have T5 := Td.next hb5; have ⟨u0, u1, u2, u3, u4, u5, u6, u7, u8, u9, _⟩ := T5.hX.ten
    go_wp2_with fail
    refine hK.out _ _ (fun _ => (And.intro u0 (And.intro u1 (And.intro u2 (And.intro u3 (And.intro u4 (And.intro u5 (And.intro u6 (And.intro u7 (And.intro u8 u9)))))))))) ?_
    replace hHeld := (And.intro u0 (And.intro u1 (And.intro u2 (And.intro u3 (And.intro u4 (And.intro u5 (And.intro u6 (And.intro u7 (And.intro u8 u9)))))))))
    clear hK K; (try simp only [Act.put, List.setIfInBounds_toArray, List.set_cons_zero, List.set_cons_succ, List.getElem_toArray, List.getElem_cons_zero, List.getElem_cons_succ])
    (refine wpAnyU_one (i := 3) (o := _) (by kernel_rfl) rfl (fun K hK => ?_)); go_simp
    (with_reducible refine (k3.out _ (hr.below T5.hB)).mono ?_); rintro e w6 ⟨hb6, p', rfl, hr6, r1, r2, r4⟩; have T6 := T5.next hb6; have ⟨v0, v1, v2, v3, v4, v5, v6, v7, v8, v9, _⟩ := T6.hX.ten; have hl6 := T6.hY.lt; have ⟨y0, y1, y2, y3, y4, y5, y6, y7, y8, y9, y10, f0, f1, f2, f3, f4, f5, f6, f7, f8, f9, f10⟩ := T6.hY.eleven; unfold qval
    go_wp2_with fail
    refine hK.out _ _ (fun _ => (And.intro v0 (And.intro v1 (And.intro v2 (And.intro v3 (And.intro v4 (And.intro v5 (And.intro v6 (And.intro v7 (And.intro v8 v9)))))))))) ?_
    replace hHeld := (And.intro v0 (And.intro v1 (And.intro v2 (And.intro v3 (And.intro v4 (And.intro v5 (And.intro v6 (And.intro v7 (And.intro v8 v9)))))))))
    clear hK K; (try simp only [Act.put, List.setIfInBounds_toArray, List.set_cons_zero, List.set_cons_succ, List.getElem_toArray, List.getElem_cons_zero, List.getElem_cons_succ])
    (refine wpAnyU_take (i := 4) (oi := _) (v := ?_) rfl (by kernel_rfl) (by kernel_rfl) (by kernel_rfl) (fun _ _ _ h => h) (by kernel_rfl) (Or.inl ⟨by rfl, ?_⟩) hHeld (by kernel_rfl) ?_); rotate_left; (intro W hS; (try dsimp only at hS); go_simp; try with_reducible rfl); (try simp only [Act.put, List.setIfInBounds_toArray, List.set_cons_zero, List.set_cons_succ, List.getElem_toArray, List.getElem_cons_zero, List.getElem_cons_succ])
    (refine wpAnyU_one (i := 5) (o := _) (by kernel_rfl) rfl (fun K hK => ?_)); go_simp
    refine hK.out _ _ (fun h => by simp at h) ?_
    clear hK K; (try simp only [Act.put, List.setIfInBounds_toArray, List.set_cons_zero, List.set_cons_succ, List.getElem_toArray, List.getElem_cons_zero, List.getElem_cons_succ])
    (refine wpAnyU_one (i := 6) (o := _) (by kernel_rfl) rfl (fun K hK => ?_)); go_simp
    refine hK.out _ _ (fun h => by simp at h) ?_
    clear hK K; (try simp only [Act.put, List.setIfInBounds_toArray, List.set_cons_zero, List.set_cons_succ, List.getElem_toArray, List.getElem_cons_zero, List.getElem_cons_succ])
    refine wpAnyU_done (by kernel_rfl) ?_ _
    refine NoPanic.normal ?_
    go_wp2_with fail
    have hZ := storeAll_bx T6.hY [.slice S (stepsQ q).length cS, .int .u8 q.ag, .slice p'.a1 q.arg.length p'.c1, .slice p'.a2 q.src.length p'.c2, .bool q.jn, .slice p'.a4 q.wh.length p'.c4, .int .u8 q.wk, .int .i64 q.ws, .int .i64 q.we, .bool q.bk, .int .u8 q.lt] rfl
    simp only [storeAll, Nat.zero_add, Nat.reduceAdd] at hZ
    have ⟨p0, p1, p2, p3, p4, p5, p6, p7, p8, p9, p10, _⟩ := hZ.eleven
    refine bodyPost_ret (v := .tuple #[planval S (stepsQ q).length cS p' q, .int .i64 0]) (by unfold planval; simp [results, Tryd.results6, go_sem, p0, p1, p2, p3, p4, p5, p6, p7, p8, p9, p10]) rfl ?_
    have RS6 := own_below RS hb6
    exact of_good HQ.out (storeAll_below (by omega) [.slice S (stepsQ q).length cS, .int .u8 q.ag, .slice p'.a1 q.arg.length p'.c1, .slice p'.a2 q.src.length p'.c2, .bool q.jn, .slice p'.a4 q.wh.length p'.c4, .int .u8 q.wk, .int .i64 q.ws, .int .i64 q.we, .bool q.bk, .int .u8 q.lt] 0 _ _ T6.hB) (rdu_own (storeAll_own RS6 (row_box RS6 T6.hY (by decide)) [.slice S (stepsQ q).length cS, .int .u8 q.ag, .slice p'.a1 q.arg.length p'.c1, .slice p'.a2 q.src.length p'.c2, .bool q.jn, .slice p'.a4 q.wh.length p'.c4, .int .u8 q.wk, .int .i64 q.ws, .int .i64 q.we, .bool q.bk, .int .u8 q.lt] 0) (Below.refl _ _)) (rows_rdq (storeAll_own r1 (row_box r1 T6.hY (by decide)) [.slice S (stepsQ q).length cS, .int .u8 q.ag, .slice p'.a1 q.arg.length p'.c1, .slice p'.a2 q.src.length p'.c2, .bool q.jn, .slice p'.a4 q.wh.length p'.c4, .int .u8 q.wk, .int .i64 q.ws, .int .i64 q.we, .bool q.bk, .int .u8 q.lt] 0) (storeAll_own r2 (row_box r2 T6.hY (by decide)) [.slice S (stepsQ q).length cS, .int .u8 q.ag, .slice p'.a1 q.arg.length p'.c1, .slice p'.a2 q.src.length p'.c2, .bool q.jn, .slice p'.a4 q.wh.length p'.c4, .int .u8 q.wk, .int .i64 q.ws, .int .i64 q.we, .bool q.bk, .int .u8 q.lt] 0) (storeAll_own r4 (row_box r4 T6.hY (by decide)) [.slice S (stepsQ q).length cS, .int .u8 q.ag, .slice p'.a1 q.arg.length p'.c1, .slice p'.a2 q.src.length p'.c2, .bool q.jn, .slice p'.a4 q.wh.length p'.c4, .int .u8 q.wk, .int .i64 q.ws, .int .i64 q.we, .bool q.bk, .int .u8 q.lt] 0) b1 b2 b4)
  · have hne : (qE q != 0) = true := bne_iff_ne.2 hq
    have HQ := Lib.hid hq
    clear hq
    go_enter Tryd.func6, Tryd.ntmps6
    go_wp2_with (go_at_call 17; (with_reducible refine (k1.out _ ?_).mono ?_); (exact hr.below (below_alloc (below_alloc (Below.refl _ _) _) _)); rintro e w1 ⟨rfl, hb1⟩; have T := T0.next hb1; have hlt := T.hY.lt; have ⟨y0, y1, y2, y3, y4, y5, y6, y7, y8, y9, y10, f0, f1, f2, f3, f4, f5, f6, f7, f8, f9, f10⟩ := T.hY.eleven)
    have hZ := storeAll_bx T.hY [.slice none 0 0, .int .u8 0, .slice none 0 0, .slice none 0 0, .bool false, .slice none 0 0, .int .u8 0, .int .i64 0, .int .i64 0, .bool false, .int .u8 0] rfl
    simp only [storeAll, Nat.zero_add, Nat.reduceAdd] at hZ
    have ⟨p0, p1, p2, p3, p4, p5, p6, p7, p8, p9, p10, _⟩ := hZ.eleven
    refine bodyPost_ret (v := .tuple #[planval none 0 0 ⟨none, 0, none, 0, none, 0⟩ zeroQ, .int .i64 (qE q)]) (by unfold planval zeroQ; simp [results, Tryd.results6, go_sem, p0, p1, p2, p3, p4, p5, p6, p7, p8, p9, p10]) rfl ?_
    exact of_bad HQ.out (storeAll_below (by omega) [.slice none 0 0, .int .u8 0, .slice none 0 0, .slice none 0 0, .bool false, .slice none 0 0, .int .u8 0, .int .i64 0, .int .i64 0, .bool false, .int .u8 0] 0 _ _ T.hB)
set_option maxHeartbeats 4000000 in
set_option maxRecDepth 100000 in
theorem pcheck22_calls (S : Option Addr) (st : List Int) (c : Nat) (p : QAt) (q : Qr) (w : World) (hS : RdU w S st) (hr : RdQ w p q) (hu : ∀ x ∈ st, U8 x) (hs : q.ws ≤ 9223372036854775807) :
    Calls Tryd.prog 11 #[planval S st.length c p q] w fun e w' => e = .returned (.int .i64 (pE st q)) ∧ Below w.heap.size w w' := by
  have k1 := fun W (h : RdQ W p q) => check10_calls p q W h hs
  have k2 := fun W => steps22_calls p q W hr.wh.1
  unfold qval at k1 k2
  replace k1 := Lib.hid k1
  replace k2 := Lib.hid k2
  unfold planval
  have HB := below_alloc (Below.refl w.heap.size w) (.cells #[.slice S st.length c, .int .u8 q.ag, .slice p.a1 q.arg.length p.c1, .slice p.a2 q.src.length p.c2, .bool q.jn, .slice p.a4 q.wh.length p.c4, .int .u8 q.wk, .int .i64 q.ws, .int .i64 q.we, .bool q.bk, .int .u8 q.lt] 30)
  have HX := Bx.new w 30 #[.slice S st.length c, .int .u8 q.ag, .slice p.a1 q.arg.length p.c1, .slice p.a2 q.src.length p.c2, .bool q.jn, .slice p.a4 q.wh.length p.c4, .int .u8 q.wk, .int .i64 q.ws, .int .i64 q.we, .bool q.bk, .int .u8 q.lt]
  by_cases hq : qE q = 0
  · have E : Hid (pE st q = if st = stepsQ q then 0 else 8) := by unfold pE; rw [if_pos hq]; rfl
    have Hinj : Hid (bval st = bval (stepsQ q) → st = stepsQ q) := bval_inj hu (stepsQ_u8 q)
    have HQ := Lib.hid hq
    have HS := Lib.hid hS
    have hcv : ∀ W, RdU W S st → (convert 28 9 (.slice S st.length c)).run Tryd.prog W = .ok (.string ⟨(bval st).toArray⟩) W := conv_bytes S c st
    clear hq hS
    go_enter Tryd.func11, Tryd.ntmps11
    go_upto_region 4 with (go_at_call 17; (with_reducible refine (k1.out _ (hr.below HB)).mono ?_); rw [HQ.out]; rintro e w1 ⟨rfl, hb1⟩)
    have B1 := below_trans HB hb1
    have X1 := HX.below hb1
    have Bd := below_drew B1
    have Xd := X1.drew
    have ⟨x0, x1, x2, x3, x4, x5, x6, x7, x8, x9, x10, _⟩ := Xd.eleven
    have hlt := X1.lt
    clear HX HB
    have HSd := HS.out.below Bd
    refine wp_region_noPanic ?_
    refine wp_region_held_drew (S := fun W => RdU W S st ∧ (W.cell? ⟨w.heap.size, 0, none⟩ = some (.slice S st.length c) ∧ W.cell? ⟨w.heap.size, 1, none⟩ = some (.int .u8 q.ag) ∧ W.cell? ⟨w.heap.size, 2, none⟩ = some (.slice p.a1 q.arg.length p.c1) ∧ W.cell? ⟨w.heap.size, 3, none⟩ = some (.slice p.a2 q.src.length p.c2) ∧ W.cell? ⟨w.heap.size, 4, none⟩ = some (.bool q.jn) ∧ W.cell? ⟨w.heap.size, 5, none⟩ = some (.slice p.a4 q.wh.length p.c4) ∧ W.cell? ⟨w.heap.size, 6, none⟩ = some (.int .u8 q.wk) ∧ W.cell? ⟨w.heap.size, 7, none⟩ = some (.int .i64 q.ws) ∧ W.cell? ⟨w.heap.size, 8, none⟩ = some (.int .i64 q.we) ∧ W.cell? ⟨w.heap.size, 9, none⟩ = some (.bool q.bk) ∧ W.cell? ⟨w.heap.size, 10, none⟩ = some (.int .u8 q.lt))) (by kernel_rfl) (And.intro HSd (And.intro x0 (And.intro x1 (And.intro x2 (And.intro x3 (And.intro x4 (And.intro x5 (And.intro x6 (And.intro x7 (And.intro x8 (And.intro x9 x10))))))))))) (fun hHeld => ?_)
    (refine wpAnyH_take (i := 0) (oi := _) (v := ?_) rfl (by kernel_rfl) (by kernel_rfl) (by kernel_rfl) (fun _ _ _ h => h) (Or.inl ⟨by rfl, ?_⟩) (by assumption) ?_); rotate_left; (intro W hS; (try dsimp only at hS); go_simp; try with_reducible rfl); (try simp only [Act.put, List.setIfInBounds_toArray, List.set_cons_zero, List.set_cons_succ, List.getElem_toArray, List.getElem_cons_zero, List.getElem_cons_succ])
    (refine wpAnyH_take (i := 1) (oi := _) (v := ?_) rfl (by kernel_rfl) (by kernel_rfl) (by kernel_rfl) (fun _ _ _ h => h) (Or.inl ⟨by rfl, ?_⟩) (by assumption) ?_); rotate_left; (intro W hS; (try dsimp only at hS); go_simp; try with_reducible rfl); (try simp only [Act.put, List.setIfInBounds_toArray, List.set_cons_zero, List.set_cons_succ, List.getElem_toArray, List.getElem_cons_zero, List.getElem_cons_succ])
    (refine wpAnyH_take (i := 2) (oi := _) (v := ?_) rfl (by kernel_rfl) (by kernel_rfl) (by kernel_rfl) (fun _ _ _ h => h) (Or.inl ⟨by rfl, ?_⟩) (by assumption) ?_); rotate_left; (intro W hS; (try dsimp only at hS); have hcv1 := hcv W hS.1; go_simp; try with_reducible rfl); (try simp only [Act.put, List.setIfInBounds_toArray, List.set_cons_zero, List.set_cons_succ, List.getElem_toArray, List.getElem_cons_zero, List.getElem_cons_succ])
    (refine wpAnyH_take (i := 3) (oi := _) (v := ?_) rfl (by kernel_rfl) (by kernel_rfl) (by kernel_rfl) (fun _ _ _ h => h) (Or.inl ⟨by rfl, ?_⟩) (by assumption) ?_); rotate_left; (intro W hS; (try dsimp only at hS); go_simp; try with_reducible rfl); (try simp only [Act.put, List.setIfInBounds_toArray, List.set_cons_zero, List.set_cons_succ, List.getElem_toArray, List.getElem_cons_zero, List.getElem_cons_succ])
    (refine wpAnyH_take (i := 4) (oi := _) (v := ?_) rfl (by kernel_rfl) (by kernel_rfl) (by kernel_rfl) (fun _ _ _ h => h) (Or.inl ⟨by rfl, ?_⟩) (by assumption) ?_); rotate_left; (intro W hS; (try dsimp only at hS); go_simp; try with_reducible rfl); (try simp only [Act.put, List.setIfInBounds_toArray, List.set_cons_zero, List.set_cons_succ, List.getElem_toArray, List.getElem_cons_zero, List.getElem_cons_succ])
    (refine wpAnyH_ready (rs := [5]) (by kernel_rfl) (by simp) ?_); (refine AllReadyH.cons (o := _) rfl (fun K hK => ?_) AllReadyH.nil); go_simp
    (with_reducible refine (k2.out w1.drew).mono ?_); rintro e w2 ⟨A2, c2, rfl, R2, hb2⟩; have X2 := Xd.below hb2; have ⟨y0, y1, y2, y3, y4, y5, y6, y7, y8, y9, y10, _⟩ := X2.eleven; have B2 := below_trans Bd hb2; have HS2 := HS.out.below B2; have hR2 := rdu_own R2 (Below.refl _ _); have hcv2 := conv_bytes A2 c2 (stepsQ q) w2 hR2
    go_wp2_with fail
    refine hK.out _ _ (And.intro HS2 (And.intro y0 (And.intro y1 (And.intro y2 (And.intro y3 (And.intro y4 (And.intro y5 (And.intro y6 (And.intro y7 (And.intro y8 (And.intro y9 y10))))))))))) (fun hHeld => ?_)
    clear hK K; (try simp only [Act.put, List.setIfInBounds_toArray, List.set_cons_zero, List.set_cons_succ, List.getElem_toArray, List.getElem_cons_zero, List.getElem_cons_succ])
    refine wpAnyH_weaken (S' := fun W => (RdU W S st ∧ (W.cell? ⟨w.heap.size, 0, none⟩ = some (.slice S st.length c) ∧ W.cell? ⟨w.heap.size, 1, none⟩ = some (.int .u8 q.ag) ∧ W.cell? ⟨w.heap.size, 2, none⟩ = some (.slice p.a1 q.arg.length p.c1) ∧ W.cell? ⟨w.heap.size, 3, none⟩ = some (.slice p.a2 q.src.length p.c2) ∧ W.cell? ⟨w.heap.size, 4, none⟩ = some (.bool q.jn) ∧ W.cell? ⟨w.heap.size, 5, none⟩ = some (.slice p.a4 q.wh.length p.c4) ∧ W.cell? ⟨w.heap.size, 6, none⟩ = some (.int .u8 q.wk) ∧ W.cell? ⟨w.heap.size, 7, none⟩ = some (.int .i64 q.ws) ∧ W.cell? ⟨w.heap.size, 8, none⟩ = some (.int .i64 q.we) ∧ W.cell? ⟨w.heap.size, 9, none⟩ = some (.bool q.bk) ∧ W.cell? ⟨w.heap.size, 10, none⟩ = some (.int .u8 q.lt))) ∧ RdU W A2 (stepsQ q)) (fun W h => h.1) _ _ _ _ ?_
    have hHeld := And.intro hHeld hR2
    (refine wpAnyH_take (i := 6) (oi := _) (v := ?_) rfl (by kernel_rfl) (by kernel_rfl) (by kernel_rfl) (fun _ _ _ h => h) (Or.inl ⟨by rfl, ?_⟩) (by assumption) ?_); rotate_left; (intro W hS; (try dsimp only at hS); have hcv1 := conv_bytes A2 c2 (stepsQ q) W hS.2; go_simp; try with_reducible rfl); (try simp only [Act.put, List.setIfInBounds_toArray, List.set_cons_zero, List.set_cons_succ, List.getElem_toArray, List.getElem_cons_zero, List.getElem_cons_succ])
    (refine wpAnyH_take (i := 7) (oi := _) (v := ?_) rfl (by kernel_rfl) (by kernel_rfl) (by kernel_rfl) (fun _ _ _ h => h) (Or.inl ⟨by rfl, ?_⟩) (by assumption) ?_); rotate_left; (intro W hS; (try dsimp only at hS); go_simp; try with_reducible rfl); (try simp only [Act.put, List.setIfInBounds_toArray, List.set_cons_zero, List.set_cons_succ, List.getElem_toArray, List.getElem_cons_zero, List.getElem_cons_succ])
    refine wpAnyH_done (by kernel_rfl) ?_ _
    refine NoPanic.normal ?_
    clear hHeld
    obtain ⟨b, hb⟩ : ∃ b, (bval st == bval (stepsQ q)) = b := ⟨_, rfl⟩
    rw [hb]
    have Hb := Lib.hid hb
    clear hb
    cases b
    all_goals
      go_wp2_with fail
      go_ret
      refine ⟨ret_int ?_, B2⟩
      rw [E.out]
    · have h1 : bval st ≠ bval (stepsQ q) := beq_eq_false_iff_ne.1 Hb.out
      rw [if_neg (fun h => h1 (by rw [h]))]
    · rw [if_pos (Hinj.out (beq_iff_eq.1 Hb.out))]
  · have hne : (qE q != 0) = true := bne_iff_ne.2 hq
    have E : Hid (pE st q = qE q) := by unfold pE; rw [if_neg hq]; rfl
    clear hq
    go_enter Tryd.func11, Tryd.ntmps11
    go_wp2_with (go_at_call 17; (with_reducible refine (k1.out _ (hr.below HB)).mono ?_); rintro e w1 ⟨rfl, hb1⟩)
    go_ret
    exact ⟨ret_int E.out.symm, below_trans HB hb1⟩
end Go.Proofs.YthijjpbkpmojbaaDoor
