import Derived.Test.YthijjpbkpmojbaaDoorLineT
import Derived.Test.YthijjpbkpmojbaaDoorPlanA
import Derived.Test.YthijjpbkpmojbaaDoorRegion
/-! Layer 22: a line of a plan, the program's. -/
namespace Go.Proofs.YthijjpbkpmojbaaDoor
open Go.RowKit Tw
set_option linter.unusedVariables false
set_option linter.unusedSimpArgs false
abbrev LinePost (q : Qr) (s : Int) (w : World) (e : Ending) (w' : World) : Prop := e = .returned (.string ⟨(lineB q s).toArray⟩) ∧ Below w.heap.size w w'
theorem ret_line {q : Qr} {s : Int} {w w' : World} {l : List UInt8} (h : lineB q s = l) (hb : Below w.heap.size w w') : LinePost q s w (.returned (.string ⟨l.toArray⟩)) w' := ⟨by rw [h], hb⟩
set_option maxHeartbeats 4000000 in
set_option maxRecDepth 100000 in
theorem pline_plain (p : QAt) (q : Qr) (s : Int) (w : World) (ok : QOk q) (h : s = 2 ∨ s = 5 ∨ s = 7 ∨ s = 8 ∨ s = 9 ∨ s = 10 ∨ (s = 4 ∧ q.ag = 1)) :
    Calls Tryd.prog 21 #[qval p q, .int .u8 s] w (LinePost q s w) := by
  obtain ⟨q0, l1, l2, b3, l4, q5, q6, q7, b8, q9⟩ := q
  have h1 := ok.ag1
  have h4 := ok.ag4
  have hl := ok.lt
  unfold qval
  simp only at *
  have ha : q0 = 1 ∨ q0 = 2 ∨ q0 = 3 ∨ q0 = 4 := by omega
  clear ok h1 h4
  rcases h with rfl | rfl | rfl | rfl | rfl | rfl | ⟨rfl, rfl⟩
  case inl =>
    rcases hl with rfl | rfl
    all_goals
      go_enter Tryd.func21, Tryd.ntmps21
      go_wp2
      go_ret
      exact ret_line rfl (by with_reducible repeat (first | exact Below.refl _ _ | apply below_alloc))
  case inr.inr.inl =>
    rcases ha with rfl | rfl | rfl | rfl
    all_goals
      go_enter Tryd.func21, Tryd.ntmps21
      go_wp2
      go_ret
      exact ret_line rfl (by with_reducible repeat (first | exact Below.refl _ _ | apply below_alloc))
  case inr.inr.inr.inl =>
    rcases ha with rfl | rfl | rfl | rfl
    all_goals
      go_enter Tryd.func21, Tryd.ntmps21
      go_wp2
      go_ret
      exact ret_line rfl (by with_reducible repeat (first | exact Below.refl _ _ | apply below_alloc))
  all_goals
    go_enter Tryd.func21, Tryd.ntmps21
    go_wp2
    go_ret
    exact ret_line rfl (by with_reducible repeat (first | exact Below.refl _ _ | apply below_alloc))
set_option maxRecDepth 100000 in
theorem fmt_calls (n : Int) (hn : I64 n) (w : World) (ht : Tab w) : Calls Tryd.prog 36 #[.int .i64 n, .int .i64 10] w fun e w' => e = .returned (.string ⟨(Lib.itoa n).toArray⟩) ∧ Below w.heap.size w w' := by
  obtain ⟨h0, h1⟩ := hn
  refine (Tryd.strconv_FormatInt_10 n h0 h1 _ (ht _ (Below.refl _ _))).mono ?_
  rintro e w1 ⟨rfl, k, os, rfl⟩
  exact ⟨rfl, Lib.below_grow _ _ (Nat.le_refl _) _ _⟩
set_option maxHeartbeats 4000000 in
set_option maxRecDepth 100000 in
theorem pline_where (p : QAt) (q : Qr) (w : World) (hr : RdQ w p q) (hT : Tab w) (ok : QOk q) (hw : QWf q) (h : 0 < q.wh.length) :
    Calls Tryd.prog 21 #[qval p q, .int .u8 3] w (LinePost q 3 w) := by
  obtain ⟨q0, l1, l2, b3, l4, q5, q6, q7, b8, q9⟩ := q
  have hk := ok.wh h
  have hR := hr.wh
  have hwf := hw.wh
  unfold qval
  simp only at *
  have hln : ¬ 9223372036854775807 < 6 + (exprB l4).length := by have := exprB_len hk hwf; omega
  replace hk := Lib.hid hk
  replace hwf := Lib.hid hwf
  clear ok hw hr
  go_enter Tryd.func21, Tryd.ntmps21
  go_wp2_with (go_at_call 35; (with_reducible refine (exprP_calls p.a4 p.c4 l4 _ (hR.below ?_) (hT.below ?_) hk.out hwf.out).mono ?_); (with_reducible repeat (first | exact Below.refl _ _ | apply below_alloc)); (with_reducible repeat (first | exact Below.refl _ _ | apply below_alloc)); rintro e w1 ⟨rfl, hb1⟩)
  go_ret
  exact ⟨by unfold lineB; rw [if_neg (by decide), if_neg (by decide), if_pos rfl, ← str_app]; rfl, below_trans (by with_reducible repeat (first | exact Below.refl _ _ | apply below_alloc)) hb1⟩
set_option maxHeartbeats 4000000 in
set_option maxRecDepth 100000 in
theorem pline_project (p : QAt) (q : Qr) (w : World) (hr : RdQ w p q) (hT : Tab w) (ok : QOk q) (hw : QWf q) (h : q.ag ≠ 1) :
    Calls Tryd.prog 21 #[qval p q, .int .u8 4] w (LinePost q 4 w) := by
  obtain ⟨q0, l1, l2, b3, l4, q5, q6, q7, b8, q9⟩ := q
  have hk := ok.arg h
  have hR := hr.arg
  have hwf := hw.arg
  have hne : (q0 == 1) = false := beq_eq_false_iff_ne.2 h
  unfold qval
  simp only at *
  have hln : ¬ 9223372036854775807 < 8 + (exprB l1).length := by have := exprB_len hk hwf; omega
  replace hk := Lib.hid hk
  replace hwf := Lib.hid hwf
  replace h := Lib.hid h
  clear ok hw hr
  go_enter Tryd.func21, Tryd.ntmps21
  go_wp2_with (go_at_call 35; (with_reducible refine (exprP_calls p.a1 p.c1 l1 _ (hR.below ?_) (hT.below ?_) hk.out hwf.out).mono ?_); (with_reducible repeat (first | exact Below.refl _ _ | apply below_alloc)); (with_reducible repeat (first | exact Below.refl _ _ | apply below_alloc)); rintro e w1 ⟨rfl, hb1⟩)
  go_ret
  exact ⟨by unfold lineB; rw [if_neg (by decide), if_neg (by decide), if_neg (by decide), if_pos rfl, if_neg h.out, ← str_app]; rfl, below_trans (by with_reducible repeat (first | exact Below.refl _ _ | apply below_alloc)) hb1⟩
set_option maxHeartbeats 4000000 in
set_option maxRecDepth 100000 in
theorem pline_scan (p : QAt) (q : Qr) (w : World) (hr : RdQ w p q) (ok : QOk q) :
    Calls Tryd.prog 21 #[qval p q, .int .u8 1] w (LinePost q 1 w) := by
  obtain ⟨q0, l1, l2, b3, l4, q5, q6, q7, b8, q9⟩ := q
  obtain ⟨a1, c1, a2, c2, a4, c4⟩ := p
  have hR := hr.src
  have hin := ok.src
  have h4 := ok.srcl
  replace hin := Lib.hid hin
  unfold qval
  simp only at *
  have hm := hR.1
  clear ok hr
  go_enter Tryd.func21, Tryd.ntmps21
  go_wp2
  go_loop [6, 25] (fun o i => ∃ k : Nat, k ≤ l2.length ∧ i = .int .i64 k ∧ o = .string ⟨(scanB (l2.take k)).toArray⟩) (fun _ i => l2.length - (intOf i).toNat)
  case atStart => exact ⟨0, Nat.zero_le _, rfl, rfl⟩
  case round =>
    obtain ⟨k, hk, rfl, rfl⟩ := hrel
    by_cases hlt : k < l2.length
    · obtain ⟨ad, had, hc⟩ := hR.2 (by omega)
      subst had
      obtain ⟨x, hx⟩ : ∃ x, l2[k]? = some x := ⟨l2[k], by simp [hlt]⟩
      have hcx := hc k x hx
      have hx03 := hin.out x (List.mem_of_getElem? hx)
      have hln : ¬ 9223372036854775807 < (scanB (l2.take k)).length + 2 := by rw [scanB_len]; have := List.length_take_le k l2; omega
      have E : Hid (scanB (l2.take (k + 1)) = scanB (l2.take k) ++ [32, srcB x]) := scanB_snoc hx
      clear hx hc
      have hnc := fun W => name_calls x W hx03.1 hx03.2
      obtain ⟨cb, hcb⟩ : ∃ cb, UInt8.ofNat (97 + x.toNat) = cb := ⟨_, rfl⟩
      rw [hcb] at hnc
      replace hnc := Lib.hid hnc
      rw [show srcB x = cb from hcb] at E
      clear hcb
      have hs : (⟨(scanB (l2.take (k + 1))).toArray⟩ : ByteArray) = ⟨(scanB (l2.take k)).toArray⟩ ++ (⟨#[32]⟩ ++ ⟨[cb].toArray⟩) := by
        rw [E.out, show (⟨#[32]⟩ : ByteArray) = ⟨([32] : List UInt8).toArray⟩ from rfl, str_app, str_app]; rfl
      have Hs := Lib.hid hs
      clear hs
      clear hx03
      have hcw : ∀ o o', ((w.alloc o).alloc o').cell? (ad.add k) = some (.int .i64 x) := fun o o' => cell_below (below_alloc (below_alloc (Below.refl _ _) _) _) hcx
      go_wp2_with (go_at_call 34; (with_reducible refine (hnc.out _).mono ?_); rintro e w1 ⟨rfl, rfl⟩)
      go_round
      case rel => exact ⟨k + 1, hlt, by go_num, by rw [Hs.out]⟩
      case measure => simp [intOf]; omega
    · obtain rfl : k = l2.length := by omega
      go_wp2
      go_ret
      exact ret_line (by unfold lineB; rw [if_pos rfl]) (by with_reducible repeat (first | exact Below.refl _ _ | apply below_alloc))
set_option maxHeartbeats 4000000 in
set_option maxRecDepth 100000 in
theorem pline_window (p : QAt) (q : Qr) (w : World) (hT : Tab w) (ok : QOk q) :
    Calls Tryd.prog 21 #[qval p q, .int .u8 6] w (LinePost q 6 w) := by
  obtain ⟨q0, l1, l2, b3, l4, q5, q6, q7, b8, q9⟩ := q
  obtain ⟨a1, c1, a2, c2, a4, c4⟩ := p
  have hws := ok.ws
  have hwn := ok.win
  unfold qval
  simp only at *
  have hi6 : I64 q6 := by unfold I64; omega
  have hi7 : I64 q7 := by unfold I64; omega
  have hl6 := itoa_len hi6.1 hi6.2
  have hl7 := itoa_len hi7.1 hi7.2
  have hk : q5 = 2 ∨ q5 = 1 ∨ q5 = 3 := by omega
  obtain ⟨t6, ht6⟩ : ∃ t, Lib.itoa q6 = t := ⟨_, rfl⟩
  obtain ⟨t7, ht7⟩ : ∃ t, Lib.itoa q7 = t := ⟨_, rfl⟩
  rw [ht6] at hl6
  rw [ht7] at hl7
  have hf6 := fun W (ht : Tab W) => fmt_calls q6 hi6 W ht
  have hf7 := fun W (ht : Tab W) => fmt_calls q7 hi7 W ht
  rw [ht6] at hf6
  rw [ht7] at hf7
  have H6 := Lib.hid ht6
  have H7 := Lib.hid ht7
  replace hf6 := Lib.hid hf6
  replace hf7 := Lib.hid hf7
  have hln1 : ¬ 9223372036854775807 < 6 + t6.length := by omega
  have hln2 : ¬ 9223372036854775807 < 7 + t6.length := by omega
  have hln3 : ¬ 9223372036854775807 < 8 + t6.length := by omega
  have hln4 : ¬ 9223372036854775807 < 7 + t7.length := by omega
  have hln5 : ¬ 9223372036854775807 < 6 + t6.length + (7 + t7.length) := by omega
  have HB := below_alloc (below_alloc (below_alloc (Below.refl w.heap.size w) (.cells #[.int .u8 q0, .slice a1 l1.length c1, .slice a2 l2.length c2, .bool b3, .slice a4 l4.length c4, .int .u8 q5, .int .i64 q6, .int .i64 q7, .bool b8, .int .u8 q9] 27)) (.cells #[.string ⟨#[]⟩, .string ⟨#[]⟩, .string ⟨#[]⟩, .string ⟨#[]⟩, .string ⟨#[]⟩, .string ⟨#[107, 101, 121]⟩, .string ⟨#[]⟩, .string ⟨#[]⟩, .string ⟨#[]⟩, .string ⟨#[101, 109, 105, 116]⟩, .string ⟨#[115, 105, 100, 101]⟩] 74)) (.cells #[.string ⟨#[]⟩, .string ⟨#[116, 117, 109, 98, 108, 101, 32]⟩, .string ⟨#[115, 108, 105, 100, 101, 32]⟩, .string ⟨#[115, 101, 115, 115, 105, 111, 110, 32]⟩] 77)
  have HX := ((Bx.new w 27 #[.int .u8 q0, .slice a1 l1.length c1, .slice a2 l2.length c2, .bool b3, .slice a4 l4.length c4, .int .u8 q5, .int .i64 q6, .int .i64 q7, .bool b8, .int .u8 q9]).alloc (.cells #[.string ⟨#[]⟩, .string ⟨#[]⟩, .string ⟨#[]⟩, .string ⟨#[]⟩, .string ⟨#[]⟩, .string ⟨#[107, 101, 121]⟩, .string ⟨#[]⟩, .string ⟨#[]⟩, .string ⟨#[]⟩, .string ⟨#[101, 109, 105, 116]⟩, .string ⟨#[115, 105, 100, 101]⟩] 74)).alloc (.cells #[.string ⟨#[]⟩, .string ⟨#[116, 117, 109, 98, 108, 101, 32]⟩, .string ⟨#[115, 108, 105, 100, 101, 32]⟩, .string ⟨#[115, 101, 115, 115, 105, 111, 110, 32]⟩] 77)
  have HK := Bx.new ((w.alloc (.cells #[.int .u8 q0, .slice a1 l1.length c1, .slice a2 l2.length c2, .bool b3, .slice a4 l4.length c4, .int .u8 q5, .int .i64 q6, .int .i64 q7, .bool b8, .int .u8 q9] 27)).alloc (.cells #[.string ⟨#[]⟩, .string ⟨#[]⟩, .string ⟨#[]⟩, .string ⟨#[]⟩, .string ⟨#[]⟩, .string ⟨#[107, 101, 121]⟩, .string ⟨#[]⟩, .string ⟨#[]⟩, .string ⟨#[]⟩, .string ⟨#[101, 109, 105, 116]⟩, .string ⟨#[115, 105, 100, 101]⟩] 74)) 77 #[.string ⟨#[]⟩, .string ⟨#[116, 117, 109, 98, 108, 101, 32]⟩, .string ⟨#[115, 108, 105, 100, 101, 32]⟩, .string ⟨#[115, 101, 115, 115, 105, 111, 110, 32]⟩]
  clear ok ht6 ht7 hws hwn hi6 hi7
  rcases hk with rfl | rfl | rfl
  · go_enter Tryd.func21, Tryd.ntmps21
    go_upto_region 26 with fail
    have ⟨_, _, _, _, _, x5, x6, x7, _, _, _⟩ := HX.drew.ten
    have xk : ((((w.alloc (.cells #[.int .u8 q0, .slice a1 l1.length c1, .slice a2 l2.length c2, .bool b3, .slice a4 l4.length c4, .int .u8 2, .int .i64 q6, .int .i64 q7, .bool b8, .int .u8 q9] 27)).alloc (.cells #[.string ⟨#[]⟩, .string ⟨#[]⟩, .string ⟨#[]⟩, .string ⟨#[]⟩, .string ⟨#[]⟩, .string ⟨#[107, 101, 121]⟩, .string ⟨#[]⟩, .string ⟨#[]⟩, .string ⟨#[]⟩, .string ⟨#[101, 109, 105, 116]⟩, .string ⟨#[115, 105, 100, 101]⟩] 74)).alloc (.cells #[.string ⟨#[]⟩, .string ⟨#[116, 117, 109, 98, 108, 101, 32]⟩, .string ⟨#[115, 108, 105, 100, 101, 32]⟩, .string ⟨#[115, 101, 115, 115, 105, 111, 110, 32]⟩] 77)).drew).cell? ⟨w.heap.size + 2, 2, none⟩ = some (.string ⟨#[115, 108, 105, 100, 101, 32]⟩) := by have := HK.cell 2 _ rfl; simpa using this
    refine wp_region_noPanic ?_
    refine wp_region_held_drew (S := fun W => W.cell? ⟨w.heap.size, 5, none⟩ = some (.int .u8 2) ∧ W.cell? ⟨w.heap.size, 6, none⟩ = some (.int .i64 q6) ∧ W.cell? ⟨w.heap.size + 2, 2, none⟩ = some (.string ⟨#[115, 108, 105, 100, 101, 32]⟩)) (by kernel_rfl) (And.intro x5 (And.intro x6 xk)) (fun hHeld => ?_)
    (refine wpAnyH_take (i := 0) (oi := _) (v := ?_) rfl (by kernel_rfl) (by kernel_rfl) (by kernel_rfl) (fun _ _ _ h => h) (Or.inl ⟨by rfl, ?_⟩) (by assumption) ?_); rotate_left; (intro W hS; (try dsimp only at hS); go_simp; try with_reducible rfl); (try simp only [Act.put, List.setIfInBounds_toArray, List.set_cons_zero, List.set_cons_succ, List.getElem_toArray, List.getElem_cons_zero, List.getElem_cons_succ])
    (refine wpAnyH_take (i := 1) (oi := _) (v := ?_) rfl (by kernel_rfl) (by kernel_rfl) (by kernel_rfl) (fun _ _ _ h => h) (Or.inl ⟨by rfl, ?_⟩) (by assumption) ?_); rotate_left; (intro W hS; (try dsimp only at hS); go_simp; try with_reducible rfl); (try simp only [Act.put, List.setIfInBounds_toArray, List.set_cons_zero, List.set_cons_succ, List.getElem_toArray, List.getElem_cons_zero, List.getElem_cons_succ])
    (refine wpAnyH_take (i := 2) (oi := _) (v := ?_) rfl (by kernel_rfl) (by kernel_rfl) (by kernel_rfl) (fun _ _ _ h => h) (Or.inl ⟨by rfl, ?_⟩) (by assumption) ?_); rotate_left; (intro W hS; (try dsimp only at hS); go_simp; try with_reducible rfl); (try simp only [Act.put, List.setIfInBounds_toArray, List.set_cons_zero, List.set_cons_succ, List.getElem_toArray, List.getElem_cons_zero, List.getElem_cons_succ])
    (refine wpAnyH_take (i := 3) (oi := _) (v := ?_) rfl (by kernel_rfl) (by kernel_rfl) (by kernel_rfl) (fun _ _ _ h => h) (Or.inl ⟨by rfl, ?_⟩) (by assumption) ?_); rotate_left; (intro W hS; (try dsimp only at hS); go_simp; try with_reducible rfl); (try simp only [Act.put, List.setIfInBounds_toArray, List.set_cons_zero, List.set_cons_succ, List.getElem_toArray, List.getElem_cons_zero, List.getElem_cons_succ])
    (refine wpAnyH_take (i := 4) (oi := _) (v := ?_) rfl (by kernel_rfl) (by kernel_rfl) (by kernel_rfl) (fun _ _ _ h => h) (Or.inl ⟨by rfl, ?_⟩) (by assumption) ?_); rotate_left; (intro W hS; (try dsimp only at hS); go_simp; try with_reducible rfl); (try simp only [Act.put, List.setIfInBounds_toArray, List.set_cons_zero, List.set_cons_succ, List.getElem_toArray, List.getElem_cons_zero, List.getElem_cons_succ])
    (refine wpAnyH_take (i := 5) (oi := _) (v := ?_) rfl (by kernel_rfl) (by kernel_rfl) (by kernel_rfl) (fun _ _ _ h => h) (Or.inl ⟨by rfl, ?_⟩) (by assumption) ?_); rotate_left; (intro W hS; (try dsimp only at hS); go_simp; try with_reducible rfl); (try simp only [Act.put, List.setIfInBounds_toArray, List.set_cons_zero, List.set_cons_succ, List.getElem_toArray, List.getElem_cons_zero, List.getElem_cons_succ])
    (refine wpAnyH_take (i := 6) (oi := _) (v := ?_) rfl (by kernel_rfl) (by kernel_rfl) (by kernel_rfl) (fun _ _ _ h => h) (Or.inl ⟨by rfl, ?_⟩) (by assumption) ?_); rotate_left; (intro W hS; (try dsimp only at hS); go_simp; try with_reducible rfl); (try simp only [Act.put, List.setIfInBounds_toArray, List.set_cons_zero, List.set_cons_succ, List.getElem_toArray, List.getElem_cons_zero, List.getElem_cons_succ])
    (refine wpAnyH_take (i := 7) (oi := _) (v := ?_) rfl (by kernel_rfl) (by kernel_rfl) (by kernel_rfl) (fun _ _ _ h => h) (Or.inl ⟨by rfl, ?_⟩) (by assumption) ?_); rotate_left; (intro W hS; (try dsimp only at hS); go_simp; try with_reducible rfl); (try simp only [Act.put, List.setIfInBounds_toArray, List.set_cons_zero, List.set_cons_succ, List.getElem_toArray, List.getElem_cons_zero, List.getElem_cons_succ])
    (refine wpAnyH_ready (rs := [8]) (by kernel_rfl) (by simp) ?_); (refine AllReadyH.cons (o := _) rfl (fun K hK => ?_) AllReadyH.nil); go_simp
    (with_reducible refine (hf6.out _ (hT.below (below_drew HB))).mono ?_); rintro e w1 ⟨rfl, hb1⟩; have B1 := below_trans (below_drew HB) hb1; have X1 := HX.drew.below hb1; have ⟨_, _, _, _, _, u5, u6, u7, _, _, _⟩ := X1.ten; have uk := cell_below hb1 xk
    go_wp2_with fail
    refine hK.out _ _ (And.intro u5 (And.intro u6 uk)) (fun hHeld => ?_)
    clear hK K; (try simp only [Act.put, List.setIfInBounds_toArray, List.set_cons_zero, List.set_cons_succ, List.getElem_toArray, List.getElem_cons_zero, List.getElem_cons_succ])
    (refine wpAnyH_take (i := 9) (oi := _) (v := ?_) rfl (by kernel_rfl) (by kernel_rfl) (by kernel_rfl) (fun _ _ _ h => h) (Or.inl ⟨by rfl, ?_⟩) (by assumption) ?_); rotate_left; (intro W hS; (try dsimp only at hS); go_simp; try with_reducible rfl); (try simp only [Act.put, List.setIfInBounds_toArray, List.set_cons_zero, List.set_cons_succ, List.getElem_toArray, List.getElem_cons_zero, List.getElem_cons_succ])
    (refine wpAnyH_take (i := 10) (oi := _) (v := ?_) rfl (by kernel_rfl) (by kernel_rfl) (by kernel_rfl) (fun _ _ _ h => h) (Or.inl ⟨by rfl, ?_⟩) (by assumption) ?_); rotate_left; (intro W hS; (try dsimp only at hS); go_simp; try with_reducible rfl); (try simp only [Act.put, List.setIfInBounds_toArray, List.set_cons_zero, List.set_cons_succ, List.getElem_toArray, List.getElem_cons_zero, List.getElem_cons_succ])
    refine wpAnyH_done (by kernel_rfl) ?_ _
    refine NoPanic.normal ?_
    clear hHeld
    go_wp2_with (go_at_call 36; (with_reducible refine (hf7.out _ (hT.below B1)).mono ?_); rintro e w2 ⟨rfl, hb2⟩)
    go_ret
    exact ret_line (l := [115, 108, 105, 100, 101, 32] ++ t6 ++ ([32, 101, 118, 101, 114, 121, 32] ++ t7)) (by unfold lineB windowB; rw [if_neg (by decide), if_neg (by decide), if_neg (by decide), if_neg (by decide), if_neg (by decide), if_pos rfl, if_pos rfl, H6.out, H7.out, List.append_assoc]) (below_trans B1 hb2)
  · go_enter Tryd.func21, Tryd.ntmps21
    go_upto_region 26 with fail
    have ⟨_, _, _, _, _, x5, x6, x7, _, _, _⟩ := HX.drew.ten
    have xk : ((((w.alloc (.cells #[.int .u8 q0, .slice a1 l1.length c1, .slice a2 l2.length c2, .bool b3, .slice a4 l4.length c4, .int .u8 1, .int .i64 q6, .int .i64 q7, .bool b8, .int .u8 q9] 27)).alloc (.cells #[.string ⟨#[]⟩, .string ⟨#[]⟩, .string ⟨#[]⟩, .string ⟨#[]⟩, .string ⟨#[]⟩, .string ⟨#[107, 101, 121]⟩, .string ⟨#[]⟩, .string ⟨#[]⟩, .string ⟨#[]⟩, .string ⟨#[101, 109, 105, 116]⟩, .string ⟨#[115, 105, 100, 101]⟩] 74)).alloc (.cells #[.string ⟨#[]⟩, .string ⟨#[116, 117, 109, 98, 108, 101, 32]⟩, .string ⟨#[115, 108, 105, 100, 101, 32]⟩, .string ⟨#[115, 101, 115, 115, 105, 111, 110, 32]⟩] 77)).drew).cell? ⟨w.heap.size + 2, 1, none⟩ = some (.string ⟨#[116, 117, 109, 98, 108, 101, 32]⟩) := by have := HK.cell 1 _ rfl; simpa using this
    refine wp_region_noPanic ?_
    refine wp_region_held_drew (S := fun W => W.cell? ⟨w.heap.size, 5, none⟩ = some (.int .u8 1) ∧ W.cell? ⟨w.heap.size, 6, none⟩ = some (.int .i64 q6) ∧ W.cell? ⟨w.heap.size + 2, 1, none⟩ = some (.string ⟨#[116, 117, 109, 98, 108, 101, 32]⟩)) (by kernel_rfl) (And.intro x5 (And.intro x6 xk)) (fun hHeld => ?_)
    (refine wpAnyH_take (i := 0) (oi := _) (v := ?_) rfl (by kernel_rfl) (by kernel_rfl) (by kernel_rfl) (fun _ _ _ h => h) (Or.inl ⟨by rfl, ?_⟩) (by assumption) ?_); rotate_left; (intro W hS; (try dsimp only at hS); go_simp; try with_reducible rfl); (try simp only [Act.put, List.setIfInBounds_toArray, List.set_cons_zero, List.set_cons_succ, List.getElem_toArray, List.getElem_cons_zero, List.getElem_cons_succ])
    (refine wpAnyH_take (i := 1) (oi := _) (v := ?_) rfl (by kernel_rfl) (by kernel_rfl) (by kernel_rfl) (fun _ _ _ h => h) (Or.inl ⟨by rfl, ?_⟩) (by assumption) ?_); rotate_left; (intro W hS; (try dsimp only at hS); go_simp; try with_reducible rfl); (try simp only [Act.put, List.setIfInBounds_toArray, List.set_cons_zero, List.set_cons_succ, List.getElem_toArray, List.getElem_cons_zero, List.getElem_cons_succ])
    (refine wpAnyH_take (i := 2) (oi := _) (v := ?_) rfl (by kernel_rfl) (by kernel_rfl) (by kernel_rfl) (fun _ _ _ h => h) (Or.inl ⟨by rfl, ?_⟩) (by assumption) ?_); rotate_left; (intro W hS; (try dsimp only at hS); go_simp; try with_reducible rfl); (try simp only [Act.put, List.setIfInBounds_toArray, List.set_cons_zero, List.set_cons_succ, List.getElem_toArray, List.getElem_cons_zero, List.getElem_cons_succ])
    (refine wpAnyH_take (i := 3) (oi := _) (v := ?_) rfl (by kernel_rfl) (by kernel_rfl) (by kernel_rfl) (fun _ _ _ h => h) (Or.inl ⟨by rfl, ?_⟩) (by assumption) ?_); rotate_left; (intro W hS; (try dsimp only at hS); go_simp; try with_reducible rfl); (try simp only [Act.put, List.setIfInBounds_toArray, List.set_cons_zero, List.set_cons_succ, List.getElem_toArray, List.getElem_cons_zero, List.getElem_cons_succ])
    (refine wpAnyH_take (i := 4) (oi := _) (v := ?_) rfl (by kernel_rfl) (by kernel_rfl) (by kernel_rfl) (fun _ _ _ h => h) (Or.inl ⟨by rfl, ?_⟩) (by assumption) ?_); rotate_left; (intro W hS; (try dsimp only at hS); go_simp; try with_reducible rfl); (try simp only [Act.put, List.setIfInBounds_toArray, List.set_cons_zero, List.set_cons_succ, List.getElem_toArray, List.getElem_cons_zero, List.getElem_cons_succ])
    (refine wpAnyH_take (i := 5) (oi := _) (v := ?_) rfl (by kernel_rfl) (by kernel_rfl) (by kernel_rfl) (fun _ _ _ h => h) (Or.inl ⟨by rfl, ?_⟩) (by assumption) ?_); rotate_left; (intro W hS; (try dsimp only at hS); go_simp; try with_reducible rfl); (try simp only [Act.put, List.setIfInBounds_toArray, List.set_cons_zero, List.set_cons_succ, List.getElem_toArray, List.getElem_cons_zero, List.getElem_cons_succ])
    (refine wpAnyH_take (i := 6) (oi := _) (v := ?_) rfl (by kernel_rfl) (by kernel_rfl) (by kernel_rfl) (fun _ _ _ h => h) (Or.inl ⟨by rfl, ?_⟩) (by assumption) ?_); rotate_left; (intro W hS; (try dsimp only at hS); go_simp; try with_reducible rfl); (try simp only [Act.put, List.setIfInBounds_toArray, List.set_cons_zero, List.set_cons_succ, List.getElem_toArray, List.getElem_cons_zero, List.getElem_cons_succ])
    (refine wpAnyH_take (i := 7) (oi := _) (v := ?_) rfl (by kernel_rfl) (by kernel_rfl) (by kernel_rfl) (fun _ _ _ h => h) (Or.inl ⟨by rfl, ?_⟩) (by assumption) ?_); rotate_left; (intro W hS; (try dsimp only at hS); go_simp; try with_reducible rfl); (try simp only [Act.put, List.setIfInBounds_toArray, List.set_cons_zero, List.set_cons_succ, List.getElem_toArray, List.getElem_cons_zero, List.getElem_cons_succ])
    (refine wpAnyH_ready (rs := [8]) (by kernel_rfl) (by simp) ?_); (refine AllReadyH.cons (o := _) rfl (fun K hK => ?_) AllReadyH.nil); go_simp
    (with_reducible refine (hf6.out _ (hT.below (below_drew HB))).mono ?_); rintro e w1 ⟨rfl, hb1⟩; have B1 := below_trans (below_drew HB) hb1; have X1 := HX.drew.below hb1; have ⟨_, _, _, _, _, u5, u6, u7, _, _, _⟩ := X1.ten; have uk := cell_below hb1 xk
    go_wp2_with fail
    refine hK.out _ _ (And.intro u5 (And.intro u6 uk)) (fun hHeld => ?_)
    clear hK K; (try simp only [Act.put, List.setIfInBounds_toArray, List.set_cons_zero, List.set_cons_succ, List.getElem_toArray, List.getElem_cons_zero, List.getElem_cons_succ])
    (refine wpAnyH_take (i := 9) (oi := _) (v := ?_) rfl (by kernel_rfl) (by kernel_rfl) (by kernel_rfl) (fun _ _ _ h => h) (Or.inl ⟨by rfl, ?_⟩) (by assumption) ?_); rotate_left; (intro W hS; (try dsimp only at hS); go_simp; try with_reducible rfl); (try simp only [Act.put, List.setIfInBounds_toArray, List.set_cons_zero, List.set_cons_succ, List.getElem_toArray, List.getElem_cons_zero, List.getElem_cons_succ])
    (refine wpAnyH_take (i := 10) (oi := _) (v := ?_) rfl (by kernel_rfl) (by kernel_rfl) (by kernel_rfl) (fun _ _ _ h => h) (Or.inl ⟨by rfl, ?_⟩) (by assumption) ?_); rotate_left; (intro W hS; (try dsimp only at hS); go_simp; try with_reducible rfl); (try simp only [Act.put, List.setIfInBounds_toArray, List.set_cons_zero, List.set_cons_succ, List.getElem_toArray, List.getElem_cons_zero, List.getElem_cons_succ])
    refine wpAnyH_done (by kernel_rfl) ?_ _
    refine NoPanic.normal ?_
    clear hHeld
    go_wp2_with fail
    go_ret
    exact ret_line (l := [116, 117, 109, 98, 108, 101, 32] ++ t6) (by unfold lineB windowB; rw [if_neg (by decide), if_neg (by decide), if_neg (by decide), if_neg (by decide), if_neg (by decide), if_pos rfl, if_neg (by simp), if_pos rfl, H6.out]) B1
  · go_enter Tryd.func21, Tryd.ntmps21
    go_upto_region 26 with fail
    have ⟨_, _, _, _, _, x5, x6, x7, _, _, _⟩ := HX.drew.ten
    have xk : ((((w.alloc (.cells #[.int .u8 q0, .slice a1 l1.length c1, .slice a2 l2.length c2, .bool b3, .slice a4 l4.length c4, .int .u8 3, .int .i64 q6, .int .i64 q7, .bool b8, .int .u8 q9] 27)).alloc (.cells #[.string ⟨#[]⟩, .string ⟨#[]⟩, .string ⟨#[]⟩, .string ⟨#[]⟩, .string ⟨#[]⟩, .string ⟨#[107, 101, 121]⟩, .string ⟨#[]⟩, .string ⟨#[]⟩, .string ⟨#[]⟩, .string ⟨#[101, 109, 105, 116]⟩, .string ⟨#[115, 105, 100, 101]⟩] 74)).alloc (.cells #[.string ⟨#[]⟩, .string ⟨#[116, 117, 109, 98, 108, 101, 32]⟩, .string ⟨#[115, 108, 105, 100, 101, 32]⟩, .string ⟨#[115, 101, 115, 115, 105, 111, 110, 32]⟩] 77)).drew).cell? ⟨w.heap.size + 2, 3, none⟩ = some (.string ⟨#[115, 101, 115, 115, 105, 111, 110, 32]⟩) := by have := HK.cell 3 _ rfl; simpa using this
    refine wp_region_noPanic ?_
    refine wp_region_held_drew (S := fun W => W.cell? ⟨w.heap.size, 5, none⟩ = some (.int .u8 3) ∧ W.cell? ⟨w.heap.size, 6, none⟩ = some (.int .i64 q6) ∧ W.cell? ⟨w.heap.size + 2, 3, none⟩ = some (.string ⟨#[115, 101, 115, 115, 105, 111, 110, 32]⟩)) (by kernel_rfl) (And.intro x5 (And.intro x6 xk)) (fun hHeld => ?_)
    (refine wpAnyH_take (i := 0) (oi := _) (v := ?_) rfl (by kernel_rfl) (by kernel_rfl) (by kernel_rfl) (fun _ _ _ h => h) (Or.inl ⟨by rfl, ?_⟩) (by assumption) ?_); rotate_left; (intro W hS; (try dsimp only at hS); go_simp; try with_reducible rfl); (try simp only [Act.put, List.setIfInBounds_toArray, List.set_cons_zero, List.set_cons_succ, List.getElem_toArray, List.getElem_cons_zero, List.getElem_cons_succ])
    (refine wpAnyH_take (i := 1) (oi := _) (v := ?_) rfl (by kernel_rfl) (by kernel_rfl) (by kernel_rfl) (fun _ _ _ h => h) (Or.inl ⟨by rfl, ?_⟩) (by assumption) ?_); rotate_left; (intro W hS; (try dsimp only at hS); go_simp; try with_reducible rfl); (try simp only [Act.put, List.setIfInBounds_toArray, List.set_cons_zero, List.set_cons_succ, List.getElem_toArray, List.getElem_cons_zero, List.getElem_cons_succ])
    (refine wpAnyH_take (i := 2) (oi := _) (v := ?_) rfl (by kernel_rfl) (by kernel_rfl) (by kernel_rfl) (fun _ _ _ h => h) (Or.inl ⟨by rfl, ?_⟩) (by assumption) ?_); rotate_left; (intro W hS; (try dsimp only at hS); go_simp; try with_reducible rfl); (try simp only [Act.put, List.setIfInBounds_toArray, List.set_cons_zero, List.set_cons_succ, List.getElem_toArray, List.getElem_cons_zero, List.getElem_cons_succ])
    (refine wpAnyH_take (i := 3) (oi := _) (v := ?_) rfl (by kernel_rfl) (by kernel_rfl) (by kernel_rfl) (fun _ _ _ h => h) (Or.inl ⟨by rfl, ?_⟩) (by assumption) ?_); rotate_left; (intro W hS; (try dsimp only at hS); go_simp; try with_reducible rfl); (try simp only [Act.put, List.setIfInBounds_toArray, List.set_cons_zero, List.set_cons_succ, List.getElem_toArray, List.getElem_cons_zero, List.getElem_cons_succ])
    (refine wpAnyH_take (i := 4) (oi := _) (v := ?_) rfl (by kernel_rfl) (by kernel_rfl) (by kernel_rfl) (fun _ _ _ h => h) (Or.inl ⟨by rfl, ?_⟩) (by assumption) ?_); rotate_left; (intro W hS; (try dsimp only at hS); go_simp; try with_reducible rfl); (try simp only [Act.put, List.setIfInBounds_toArray, List.set_cons_zero, List.set_cons_succ, List.getElem_toArray, List.getElem_cons_zero, List.getElem_cons_succ])
    (refine wpAnyH_take (i := 5) (oi := _) (v := ?_) rfl (by kernel_rfl) (by kernel_rfl) (by kernel_rfl) (fun _ _ _ h => h) (Or.inl ⟨by rfl, ?_⟩) (by assumption) ?_); rotate_left; (intro W hS; (try dsimp only at hS); go_simp; try with_reducible rfl); (try simp only [Act.put, List.setIfInBounds_toArray, List.set_cons_zero, List.set_cons_succ, List.getElem_toArray, List.getElem_cons_zero, List.getElem_cons_succ])
    (refine wpAnyH_take (i := 6) (oi := _) (v := ?_) rfl (by kernel_rfl) (by kernel_rfl) (by kernel_rfl) (fun _ _ _ h => h) (Or.inl ⟨by rfl, ?_⟩) (by assumption) ?_); rotate_left; (intro W hS; (try dsimp only at hS); go_simp; try with_reducible rfl); (try simp only [Act.put, List.setIfInBounds_toArray, List.set_cons_zero, List.set_cons_succ, List.getElem_toArray, List.getElem_cons_zero, List.getElem_cons_succ])
    (refine wpAnyH_take (i := 7) (oi := _) (v := ?_) rfl (by kernel_rfl) (by kernel_rfl) (by kernel_rfl) (fun _ _ _ h => h) (Or.inl ⟨by rfl, ?_⟩) (by assumption) ?_); rotate_left; (intro W hS; (try dsimp only at hS); go_simp; try with_reducible rfl); (try simp only [Act.put, List.setIfInBounds_toArray, List.set_cons_zero, List.set_cons_succ, List.getElem_toArray, List.getElem_cons_zero, List.getElem_cons_succ])
    (refine wpAnyH_ready (rs := [8]) (by kernel_rfl) (by simp) ?_); (refine AllReadyH.cons (o := _) rfl (fun K hK => ?_) AllReadyH.nil); go_simp
    (with_reducible refine (hf6.out _ (hT.below (below_drew HB))).mono ?_); rintro e w1 ⟨rfl, hb1⟩; have B1 := below_trans (below_drew HB) hb1; have X1 := HX.drew.below hb1; have ⟨_, _, _, _, _, u5, u6, u7, _, _, _⟩ := X1.ten; have uk := cell_below hb1 xk
    go_wp2_with fail
    refine hK.out _ _ (And.intro u5 (And.intro u6 uk)) (fun hHeld => ?_)
    clear hK K; (try simp only [Act.put, List.setIfInBounds_toArray, List.set_cons_zero, List.set_cons_succ, List.getElem_toArray, List.getElem_cons_zero, List.getElem_cons_succ])
    (refine wpAnyH_take (i := 9) (oi := _) (v := ?_) rfl (by kernel_rfl) (by kernel_rfl) (by kernel_rfl) (fun _ _ _ h => h) (Or.inl ⟨by rfl, ?_⟩) (by assumption) ?_); rotate_left; (intro W hS; (try dsimp only at hS); go_simp; try with_reducible rfl); (try simp only [Act.put, List.setIfInBounds_toArray, List.set_cons_zero, List.set_cons_succ, List.getElem_toArray, List.getElem_cons_zero, List.getElem_cons_succ])
    (refine wpAnyH_take (i := 10) (oi := _) (v := ?_) rfl (by kernel_rfl) (by kernel_rfl) (by kernel_rfl) (fun _ _ _ h => h) (Or.inl ⟨by rfl, ?_⟩) (by assumption) ?_); rotate_left; (intro W hS; (try dsimp only at hS); go_simp; try with_reducible rfl); (try simp only [Act.put, List.setIfInBounds_toArray, List.set_cons_zero, List.set_cons_succ, List.getElem_toArray, List.getElem_cons_zero, List.getElem_cons_succ])
    refine wpAnyH_done (by kernel_rfl) ?_ _
    refine NoPanic.normal ?_
    clear hHeld
    go_wp2_with fail
    go_ret
    exact ret_line (l := [115, 101, 115, 115, 105, 111, 110, 32] ++ t6) (by unfold lineB windowB; rw [if_neg (by decide), if_neg (by decide), if_neg (by decide), if_neg (by decide), if_neg (by decide), if_pos rfl, if_neg (by simp), if_neg (by simp), H6.out]) B1
theorem mem_steps {q : Qr} {s : Int} (h : s ∈ stepsQ q) : (s = 2 ∨ s = 5 ∨ s = 7 ∨ s = 8 ∨ s = 9 ∨ s = 10) ∨ s = 1 ∨ (s = 3 ∧ 0 < q.wh.length) ∨ s = 4 ∨ s = 6 := by
  rw [stepsQ_eq] at h
  simp only [List.mem_append, List.mem_cons, List.not_mem_nil, or_false] at h
  rcases h with (h | h) | h | h | h | h | h | h | h
  · exact .inr (.inl h)
  · exact .inl (.inl h)
  · split at h
    · simp at h; subst h; exact .inr (.inr (.inl ⟨rfl, by assumption⟩))
    · cases h
  · subst h; exact .inr (.inr (.inr (.inl rfl)))
  · split at h
    · simp at h; subst h; simp
    · cases h
  · subst h; simp
  · split at h
    · simp at h; subst h; simp
    · simp at h; subst h; simp
  · subst h; simp
  · split at h
    · simp at h; subst h; simp
    · cases h
theorem pline_calls (p : QAt) (q : Qr) (s : Int) (w : World) (hr : RdQ w p q) (hT : Tab w) (ok : QOk q) (hw : QWf q) (hs : s ∈ stepsQ q) :
    Calls Tryd.prog 21 #[qval p q, .int .u8 s] w fun e w' => e = .returned (.string ⟨(lineB q s).toArray⟩) ∧ Below w.heap.size w w' := by
  rcases mem_steps hs with h | rfl | ⟨rfl, h⟩ | rfl | rfl
  · exact pline_plain p q s w ok (by omega)
  · exact pline_scan p q w hr ok
  · exact pline_where p q w hr hT ok hw h
  · by_cases ha : q.ag = 1
    · exact pline_plain p q 4 w ok (by omega)
    · exact pline_project p q w hr hT ok hw ha
  · exact pline_window p q w hT ok
end Go.Proofs.YthijjpbkpmojbaaDoor
