import Derived.Test.YthijjpbkpmojbaaDoorApp
namespace Go.Proofs.YthijjpbkpmojbaaDoor
open Go.RowKit Tw
set_option linter.unusedVariables false
set_option linter.unusedSimpArgs false
def ToldPost (l : List Nd) (w : World) (e : Ending) (w' : World) : Prop :=
  Below w.heap.size w w' ∧ ∃ A c, e = .returned (.tuple #[.slice A (if wrongAt l = l.length then l.length else 0) c, .int .i64 (wrongAt l)]) ∧ (wrongAt l = l.length → RdB w' A (gives l))
def ToldRel (l : List Nd) (w : World) (i : Value) (wr : World) : Prop :=
  ∃ (k : Nat) (v : Value), k ≤ l.length ∧ i = .int .i64 k ∧ (∀ (j : Nat) (x : Nd), j < k → l[j]? = some x → fitsB (gives (l.take j)) x = true) ∧
    wr.heap[w.heap.size]? = some (.cells #[v] 133 (0, 0)) ∧ wr.ownsRow w.heap.size 4 1 v k ((gives (l.take k)).map Value.bool) ∧ Below w.heap.size w wr
/-- A row of bools doesn't lie in the box. -/
theorem row_ne {w : World} {B b n : Nat} {v u : Value} {xs : List Value} (h : w.ownsRow B 4 1 v n xs) (hb : w.heap[b]? = some (.cells #[u] 133 (0, 0))) : v.ownBlock ≠ some b := by
  intro e
  rcases h.2 with ⟨rfl, _⟩ | ⟨g, cap, cur, rfl, _, hh, _⟩
  · simp [Value.ownBlock] at e
  · have : g = b := by simpa [Value.ownBlock] using e
    subst this
    rw [hb] at hh
    injection hh with hh
    injection hh with _ ht
    exact absurd ht (by decide)
theorem gives_take {l : List Nd} {k : Nat} {x : Nd} (hx : l[k]? = some x) : (gives (l.take (k + 1))).map Value.bool = (gives (l.take k)).map Value.bool ++ [.bool (givesK x.f0)] := by
  obtain ⟨hk, rfl⟩ := List.getElem?_eq_some_iff.1 hx
  unfold gives
  rw [List.take_succ_eq_append_getElem hk, List.map_append, List.map_append]
  rfl
theorem gives_length (l : List Nd) : (gives l).length = l.length := by simp [gives]
/-- The row in the box, as takes reads it. -/
theorem row_reads {w W : World} {B k c : Nat} {A : Option Addr} {bs : List Bool} (h : w.ownsRow B 4 1 (.slice A k c) k (bs.map Value.bool)) (hb : Below w.heap.size w W) : RdB W A bs := by
  have hl : bs.length = k := by have := h.1; simpa using this
  refine ⟨by obtain ⟨_, c', he, h1, h2⟩ := own_slice h; injection he with _ _ hc; omega, fun hp => ?_⟩
  rcases h.2 with ⟨_, h0⟩ | ⟨g, cap, cur, he, _⟩
  · omega
  · have hc := h.cells (g := g) (by rw [he]; rfl)
    injection he with he
    exact ⟨_, he, fun j x hj => cell_below hb (hc j _ (by rw [List.getElem?_map, hj]; rfl))⟩
theorem two_reads {W : World} {b : Nat} {p q : Nat} (h0 : W.cell? ⟨b, 0, none⟩ = some (.int .i64 p)) (h1 : W.cell? ⟨b, 1, none⟩ = some (.int .i64 q)) : RdI W (some ⟨b, 0, none⟩) ([p, q].map fun p : Nat => (p : Int)) := by
  refine ⟨by simp, fun _ => ⟨_, rfl, fun j x hj => ?_⟩⟩
  rw [add_plain]
  match j, hj with
  | 0, hj => simp at hj; rw [← hj]; exact h0
  | 1, hj => simp at hj; rw [← hj]; exact h1
  | j + 2, hj => simp at hj
theorem one_reads {W : World} {b : Nat} {p : Nat} (h0 : W.cell? ⟨b, 0, none⟩ = some (.int .i64 p)) : RdI W (some ⟨b, 0, none⟩) ([p].map fun p : Nat => (p : Int)) := by
  refine ⟨by simp, fun _ => ⟨_, rfl, fun j x hj => ?_⟩⟩
  rw [add_plain]
  match j, hj with
  | 0, hj => simp at hj; rw [← hj]; exact h0
  | j + 1, hj => simp at hj
theorem wrongAt_lt {l : List Nd} {k : Nat} {x : Nd} (hx : l[k]? = some x) (hfit : ∀ (j : Nat) (x : Nd), j < k → l[j]? = some x → fitsB (gives (l.take j)) x = true) (hf : fitsB (gives (l.take k)) x = false) : wrongAt l = k := by
  obtain ⟨hk, rfl⟩ := List.getElem?_eq_some_iff.1 hx
  unfold wrongAt
  have hd : ∀ j, ∀ h : j < l.length, l.getD j default = l[j] := fun j h => by rw [List.getD_eq_getElem?_getD, List.getElem?_eq_getElem h]; rfl
  have : (List.range l.length).find? (fun i => !fitsB (gives (l.take i)) (l.getD i default)) = some k := by
    rw [List.find?_range_eq_some]
    refine ⟨by rw [hd k hk, hf]; rfl, by simpa using hk, fun j hj => ?_⟩
    rw [hd j (by omega), hfit j l[j] hj (by simp)]; rfl
  rw [this]; rfl
theorem wrongAt_len {l : List Nd} (hfit : ∀ (j : Nat) (x : Nd), j < l.length → l[j]? = some x → fitsB (gives (l.take j)) x = true) : wrongAt l = l.length := by
  unfold wrongAt
  have : (List.range l.length).find? (fun i => !fitsB (gives (l.take i)) (l.getD i default)) = none := by
    rw [List.find?_eq_none]
    intro j hj
    have hj : j < l.length := by simpa using hj
    rw [List.getD_eq_getElem?_getD, List.getElem?_eq_getElem hj, Option.getD_some, hfit j l[j] hj (by simp)]
    simp
  rw [this]; rfl
/-- A round more. -/
theorem told_next {l : List Nd} {w w1 : World} {v v1 : Value} {k : Nat} {x : Nd} (hk : k < l.length) (hx : l[k]? = some x) (hfit : ∀ (j : Nat) (x : Nd), j < k → l[j]? = some x → fitsB (gives (l.take j)) x = true) (hf : fitsB (gives (l.take k)) x = true)
    (hbox : w1.heap[w.heap.size]? = some (.cells #[v] 133 (0, 0))) (hown1 : w1.ownsRow w.heap.size 4 1 v1 (k + 1) ((gives (l.take k)).map Value.bool ++ [.bool (givesK x.f0)])) (hB1 : Below w.heap.size w w1) :
    ToldRel l w (.int .i64 ((k : Int) + 1)) (w1.setCell ⟨w.heap.size, 0, none⟩ v1) := by
  refine ⟨k + 1, v1, hk, by simp, ?_, one_setCell hbox, ?_, hB1.setCell (p := ⟨w.heap.size, 0, none⟩) (Nat.le_refl _) _⟩
  · intro j y hj hy
    rcases Nat.lt_or_ge j k with h | h
    · exact hfit j y h hy
    · obtain rfl : j = k := by omega
      rw [hx] at hy; injection hy with hy; rw [← hy]; exact hf
  · rw [gives_take hx]
    exact ownsRow_setCell_other hown1 (row_ne hown1 hbox) _
theorem fits_iff (gs : List Bool) {x : Nd} {p q : Nat} (hp : x.f2 = p) (hq : x.f3.toNat = q) (h4 : ¬ x.f0 ≤ 4) : fitsB gs x =
    if x.f0 = 5 then takesB gs false [p] else if x.f0 = 6 then takesB gs true [p] else if x.f0 ≤ 15 then takesB gs false [p, q] else if x.f0 ≤ 17 then (takesB gs false [p, q] || takesB gs true [p, q]) else takesB gs true [p, q] := by
  have hp' : x.f2.toNat = p := by omega
  unfold fitsB
  rw [decide_eq_false h4, Bool.false_or]
  by_cases h5 : x.f0 = 5
  · simp [h5, mayNum, mayTru, partsOf, hp']
  by_cases h6 : x.f0 = 6
  · simp [h6, mayNum, mayTru, partsOf, hp']
  rw [if_neg h5, if_neg h6, show partsOf x = [p, q] from by unfold partsOf; rw [if_neg h4, if_neg (by omega), hp', hq]]
  have hn : mayNum x.f0 = decide (x.f0 ≤ 17) := by unfold mayNum; rw [beq_eq_false_iff_ne.2 h5, Bool.false_or, decide_eq_true (show 7 ≤ x.f0 by omega), Bool.true_and]
  have ht : mayTru x.f0 = decide (16 ≤ x.f0) := by unfold mayTru; rw [beq_eq_false_iff_ne.2 h6, Bool.false_or]
  rw [hn, ht]
  by_cases h15 : x.f0 ≤ 15
  · rw [if_pos h15, decide_eq_true (show x.f0 ≤ 17 by omega), decide_eq_false (show ¬ 16 ≤ x.f0 by omega)]; simp
  by_cases h17 : x.f0 ≤ 17
  · rw [if_neg h15, if_pos h17, decide_eq_true h17, decide_eq_true (show 16 ≤ x.f0 by omega)]; simp
  · rw [if_neg h15, if_neg h17, decide_eq_false h17, decide_eq_true (show 16 ≤ x.f0 by omega)]; simp
theorem takes_two (tr : Bool) (Ap : Option Addr) (cp : Nat) (p q : Nat) (bs : List Bool) (B : Nat) (Ab : Option Addr) (cb : Nat) (hin : ∀ z ∈ [p, q], z < bs.length) (w : World)
    (hrp : RdI w Ap ([p, q].map fun p : Nat => (p : Int))) (hb : w.cell? ⟨B, 0, none⟩ = some (.slice Ab bs.length cb)) (hrb : RdB w Ab bs) :
    Calls Tryd.prog 85 #[.bool tr, .slice Ap 2 cp, .pointer (some ⟨B, 0, none⟩)] w fun e w' => e = .returned (.bool (takesB bs tr [p, q])) ∧ w = w' := takes_calls tr Ap cp [p, q] bs B Ab cb hin w hrp hb hrb
theorem takes_one (tr : Bool) (Ap : Option Addr) (cp : Nat) (p : Nat) (bs : List Bool) (B : Nat) (Ab : Option Addr) (cb : Nat) (hin : ∀ z ∈ [p], z < bs.length) (w : World)
    (hrp : RdI w Ap ([p].map fun p : Nat => (p : Int))) (hb : w.cell? ⟨B, 0, none⟩ = some (.slice Ab bs.length cb)) (hrb : RdB w Ab bs) :
    Calls Tryd.prog 85 #[.bool tr, .slice Ap 1 cp, .pointer (some ⟨B, 0, none⟩)] w fun e w' => e = .returned (.bool (takesB bs tr [p])) ∧ w = w' := takes_calls tr Ap cp [p] bs B Ab cb hin w hrp hb hrb
set_option maxHeartbeats 4000000 in
set_option maxRecDepth 100000 in
theorem told_calls (A : Option Addr) (c : Nat) (l : List Nd) (hl : l.length ≤ 60) (hin : InRange l) (w : World) (hr : RdN w A l) :
    Calls Tryd.prog 73 #[.slice A l.length c] w (ToldPost l w) := by
  go_enter Tryd.func73, Tryd.ntmps73
  go_wp2
  go_step3
  go_wp2
  go_step3
  go_wp2
  go_loopw [14] (fun i wr => ToldRel l w i wr) (fun i _ => l.length - (intOf i).toNat)
  case atStart => exact ⟨0, .slice none 0 0, Nat.zero_le _, rfl, by intro j x h; omega, heap_alloc_new w _, World.ownsRow_nil _ _ _ _, below_alloc (Below.refl _ _) _⟩
  case round =>
    obtain ⟨k, v, hk, rfl, hfit, hbox, hown, hB⟩ := hrel
    have hbc := cell_of_one hbox
    have hbf := free_of_one hbox
    have hlb := lt_of_block hbox
    have hlb1 : w.heap.size < wr.heap.size + 1 := by omega
    have hlb2 : w.heap.size < wr.heap.size + 1 + 1 := by omega
    have hlb3 : w.heap.size < wr.heap.size + 1 + 1 + 1 := by omega
    have hlb4 : w.heap.size < wr.heap.size + 1 + 1 + 1 + 1 := by omega
    have hne := row_ne hown hbox
    by_cases hlt : k < l.length
    · obtain ⟨ad, rfl, hcell⟩ := hr.2 (by omega)
      obtain ⟨x, hx⟩ : ∃ x, l[k]? = some x := ⟨l[k], by simp [hlt]⟩
      obtain ⟨hx0, hx1, hx2, hx3, hx4⟩ := (hcell k x hx).below hB
      clear hcell
      have hb1 : (k + 1) * 1 ≤ 140737488355328 := by omega
      have Hfit := Lib.hid hfit
      have Hx := Lib.hid hx
      have Hbox := Lib.hid hbox
      clear hfit hx hbox
      by_cases h4 : x.f0 ≤ 4
      · have d4 : decide (x.f0 ≤ 4) = true := decide_eq_true h4
        have hf : fitsB (gives (l.take k)) x = true := by unfold fitsB; rw [d4]; rfl
        have hg : givesK x.f0 = false := by unfold givesK; simp; omega
        have Hf := Lib.hid hf
        have Hg := Lib.hid hg
        clear hf hg
        go_wp2_with (at_builtin; refine app_row hown hB rfl _ _ rfl Tryd.underlying133 infoBool rfl h01 h01 _ (by rfl) _ (by rfl) ?_ rfl (one_bool _) hb1 ?_ ?_; (simp); (with_reducible repeat (first | exact Below.refl _ _ | apply below_alloc | apply drewN_below | apply below_drew)); intro v1 w1 hown1 hB1 hg1 hat1; obtain ⟨A1, c1, rfl, _, _⟩ := own_slice hown1; have hbox1 := box_keep Hbox.out hne hg1; have hbc1 := cell_of_one hbox1; have hbf1 := free_of_one hbox1; have Hbox1 := Lib.hid hbox1; clear hbox1)
        go_roundw
        case rel => exact told_next hlt Hx.out Hfit.out Hf.out Hbox1.out (by rw [Hg.out]; exact hown1) hB1
        case measure => simp [intOf]; omega
      · have d4 : decide (x.f0 ≤ 4) = false := decide_eq_false h4
        obtain ⟨Av, cv, rfl, hcv, _⟩ := own_slice hown
        have glen : (gives (l.take k)).length = k := by rw [gives_length, List.length_take]; omega
        obtain ⟨hin2, hin3⟩ := hin k x Hx.out
        obtain ⟨⟨p, hp⟩, hpk⟩ : (∃ p : Nat, x.f2 = p) ∧ x.f2 < k := ⟨Int.eq_ofNat_of_zero_le (hin2 (by omega)).1, (hin2 (by omega)).2⟩
        rw [hp] at hx2 hpk
        have hq : 7 ≤ x.f0 → x.f3 = (x.f3.toNat : Nat) := fun h => (Int.toNat_of_nonneg (hin3 h).1).symm
        have hqk : 7 ≤ x.f0 → x.f3.toNat < k := fun h => by have := (hin3 h).2; have := (hin3 h).1; omega
        obtain ⟨q, hqq⟩ : ∃ q : Nat, x.f3.toNat = q := ⟨_, rfl⟩
        rw [hqq] at hq hqk
        have hp1 : ∀ z ∈ [p], z < (gives (l.take k)).length := by
          intro z hz
          simp only [List.mem_cons, List.not_mem_nil, or_false] at hz
          omega
        have hpq : 7 ≤ x.f0 → ∀ z ∈ [p, q], z < (gives (l.take k)).length := by
          intro h7 z hz
          have := hqk h7
          simp only [List.mem_cons, List.not_mem_nil, or_false] at hz
          omega
        have h7 : (x.f0 == 5) = false → (x.f0 == 6) = false → 7 ≤ x.f0 := fun h h' => by have := beq_eq_false_iff_ne.1 h; have := beq_eq_false_iff_ne.1 h'; omega
        have H7 := Lib.hid h7
        clear h7
        have Hpq := Lib.hid hpq
        have Hp1 := Lib.hid hp1
        have Hq := Lib.hid hq
        have Hp := Lib.hid hp
        have Hgl := Lib.hid glen
        have Hqq := Lib.hid hqq
        clear hin2 hin3 hpq hp1 hq hqk hqq hp glen
        go_wp2_with (first | (go_at_call 85; ((with_reducible refine (takes_two _ _ _ p q (gives (l.take k)) w.heap.size Av cv ?_ _ ?_ ?_ ?_).mono ?_)); (exact Hpq.out (H7.out (by assumption) (by assumption))); (exact two_reads (by go_simp) (by rw [← Hq.out (H7.out (by assumption) (by assumption))]; go_simp)); (rw [Hgl.out]; go_simp); (exact row_reads hown (by with_reducible repeat (first | exact Below.refl _ _ | apply below_alloc | apply drewN_below | apply below_drew))); rintro e w9 ⟨rfl, rfl⟩) | (go_at_call 85; ((with_reducible refine (takes_one _ _ _ p (gives (l.take k)) w.heap.size Av cv ?_ _ ?_ ?_ ?_).mono ?_)); (exact Hp1.out); (exact one_reads (by go_simp)); (rw [Hgl.out]; go_simp); (exact row_reads hown (by with_reducible repeat (first | exact Below.refl _ _ | apply below_alloc | apply drewN_below | apply below_drew))); rintro e w9 ⟨rfl, rfl⟩) | (at_builtin; refine app_row hown hB rfl _ _ rfl Tryd.underlying133 infoBool rfl h01 h01 _ (by rfl) _ (by rfl) ?_ rfl (one_bool _) hb1 ?_ ?_; (simp); (with_reducible repeat (first | exact Below.refl _ _ | apply below_alloc | apply drewN_below | apply below_drew)); intro v1 w1 hown1 hB1 hg1 hat1; obtain ⟨A1, c1, rfl, _, _⟩ := own_slice hown1; have hbox1 := box_keep Hbox.out hne hg1; have hbc1 := cell_of_one hbox1; have hbf1 := free_of_one hbox1; have Hbox1 := Lib.hid hbox1; clear hbox1) | (at_builtin; refine app_row_d hown hB rfl _ _ rfl Tryd.underlying133 infoBool rfl h01 h01 _ (by rfl) _ (by rfl) ?_ rfl (one_bool _) hb1 ?_ ?_; (simp); (with_reducible repeat (first | exact Below.refl _ _ | apply below_alloc | apply drewN_below | apply below_drew)); intro v1 w1 hown1 hB1 hg1 hat1; obtain ⟨A1, c1, rfl, _, _⟩ := own_slice hown1; have hbox1 := box_keep Hbox.out hne hg1; have hbc1 := cell_of_one hbox1; have hbf1 := free_of_one hbox1; have Hbox1 := Lib.hid hbox1; clear hbox1))
        all_goals (try go_region)
        all_goals go_wp2_with (first | (go_at_call 85; ((with_reducible refine (takes_two _ _ _ p q (gives (l.take k)) w.heap.size Av cv ?_ _ ?_ ?_ ?_).mono ?_)); (exact Hpq.out (H7.out (by assumption) (by assumption))); (exact two_reads (by go_simp) (by rw [← Hq.out (H7.out (by assumption) (by assumption))]; go_simp)); (rw [Hgl.out]; go_simp); (exact row_reads hown (by with_reducible repeat (first | exact Below.refl _ _ | apply below_alloc | apply drewN_below | apply below_drew))); rintro e w9 ⟨rfl, rfl⟩) | (go_at_call 85; ((with_reducible refine (takes_one _ _ _ p (gives (l.take k)) w.heap.size Av cv ?_ _ ?_ ?_ ?_).mono ?_)); (exact Hp1.out); (exact one_reads (by go_simp)); (rw [Hgl.out]; go_simp); (exact row_reads hown (by with_reducible repeat (first | exact Below.refl _ _ | apply below_alloc | apply drewN_below | apply below_drew))); rintro e w9 ⟨rfl, rfl⟩) | (at_builtin; refine app_row hown hB rfl _ _ rfl Tryd.underlying133 infoBool rfl h01 h01 _ (by rfl) _ (by rfl) ?_ rfl (one_bool _) hb1 ?_ ?_; (simp); (with_reducible repeat (first | exact Below.refl _ _ | apply below_alloc | apply drewN_below | apply below_drew)); intro v1 w1 hown1 hB1 hg1 hat1; obtain ⟨A1, c1, rfl, _, _⟩ := own_slice hown1; have hbox1 := box_keep Hbox.out hne hg1; have hbc1 := cell_of_one hbox1; have hbf1 := free_of_one hbox1; have Hbox1 := Lib.hid hbox1; clear hbox1) | (at_builtin; refine app_row_d hown hB rfl _ _ rfl Tryd.underlying133 infoBool rfl h01 h01 _ (by rfl) _ (by rfl) ?_ rfl (one_bool _) hb1 ?_ ?_; (simp); (with_reducible repeat (first | exact Below.refl _ _ | apply below_alloc | apply drewN_below | apply below_drew)); intro v1 w1 hown1 hB1 hg1 hat1; obtain ⟨A1, c1, rfl, _, _⟩ := own_slice hown1; have hbox1 := box_keep Hbox.out hne hg1; have hbc1 := cell_of_one hbox1; have hbf1 := free_of_one hbox1; have Hbox1 := Lib.hid hbox1; clear hbox1))
        all_goals first
          | (rw [Exit.noGoto_ret]
             go_ret2
             have hf : fitsB (gives (l.take k)) x = false := by
               simp only [Bool.not_eq_true, Bool.not_eq_false', Bool.not_eq_true', beq_iff_eq, beq_eq_false_iff_ne, ne_eq] at *
               rw [fits_iff _ Hp.out Hqq.out (by omega)]
               (repeat' split) <;> first | assumption | omega | (rw [Bool.or_eq_false_iff]; exact ⟨by assumption, by assumption⟩)
             have hw := wrongAt_lt Hx.out Hfit.out hf
             exact ⟨by with_reducible repeat (first | exact hB | apply below_alloc | apply drewN_below | apply below_drew), none, 0, by rw [hw, if_neg (by omega)]; rfl, fun h => by rw [hw] at h; omega⟩)
          | (have hf : fitsB (gives (l.take k)) x = true := by
               simp only [Bool.not_eq_true, Bool.not_eq_false', Bool.not_eq_true', beq_iff_eq, beq_eq_false_iff_ne, ne_eq] at *
               rw [fits_iff _ Hp.out Hqq.out (by omega)]
               (repeat' split) <;> first | assumption | omega | (rw [Bool.or_eq_true]; first | (left; assumption) | (right; assumption))
             have hg : ∀ b, givesK x.f0 = b → (b = givesK x.f0) := fun b h => h.symm
             go_roundw
             case rel => exact told_next hlt Hx.out Hfit.out hf Hbox1.out (by
               simp only [beq_iff_eq, beq_eq_false_iff_ne, ne_eq] at *
               first
                 | (rw [show givesK x.f0 = true from by unfold givesK; simp; omega]; exact hown1)
                 | (rw [show givesK x.f0 = false from by unfold givesK; simp; omega]; exact hown1)) hB1
             case measure => simp [intOf]; omega)
    · obtain rfl : k = l.length := by omega
      rw [List.take_length] at hown
      have hw := wrongAt_len hfit
      have Hw := Lib.hid hw
      obtain ⟨Av, cv, rfl, hcv, _⟩ := own_slice hown
      have Hbox := Lib.hid hbox
      clear hw hfit hbox
      go_wp2_with fail
      rw [Exit.noGoto_ret]
      go_ret2
      exact ⟨hB, Av, cv, by rw [Hw.out, if_pos rfl]; rfl, fun _ => row_reads hown (Below.refl _ _)⟩
end Go.Proofs.YthijjpbkpmojbaaDoor
