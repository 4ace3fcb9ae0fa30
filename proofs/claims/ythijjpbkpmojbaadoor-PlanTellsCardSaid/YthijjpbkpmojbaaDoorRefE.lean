import Derived.Test.YthijjpbkpmojbaaDoorRefD
/-! The reference of layer 10: Fixed; of layer 6. -/
namespace Go.Proofs.YthijjpbkpmojbaaDoor
open Go.RowKit Tw
set_option linter.unusedVariables false
set_option linter.unusedSimpArgs false
theorem quiet_eq {P : Program} {f : FuncId} {args : Array Value} {w : World} {n : Nat} {v : Value} (h : Calls P f args (w.drewN n) fun e w' => e = .returned v ∧ w.drewN n = w') : Calls P f args (w.drewN n) fun e w'' => e = .returned v ∧ ∃ m, w'' = w.drewN m :=
  h.mono fun _ _ ⟨he, hm⟩ => ⟨he, n, hm.symm⟩
def varB (x : Nd) : Bool := decide (1 < x.f0 ∧ x.f0 < 5)
theorem step_zero {ts ts' : List T} {x : Nd} (h : nstep ts x = some ts') : (x.f0 ≤ 4 → x.f2 = 0 ∧ x.f3 = 0) ∧ (x.f0 ≤ 6 → x.f3 = 0) ∧ 1 ≤ x.f0 ∧ x.f0 ≤ 19 ∧ 0 ≤ x.f4 ∧ x.f4 ≤ 400 ∧ 0 ≤ x.f1 ∧ (x.f0 ≠ 1 → x.f1 = 0) := by
  unfold nstep at h
  split at h
  · split at h
    · split at h
      · omega
      · cases h
    · split at h
      · split at h
        · cases h
        · split at h
          · omega
          · cases h
      · split at h
        · split at h
          · split at h
            · omega
            · cases h
          · cases h
        · cases h
  · cases h
/-- What holds of each node of an expression. -/
structure Sound (l : List Nd) (i : Nat) (x : Nd) : Prop where
  k1 : 1 ≤ x.f0
  k2 : x.f0 ≤ 19
  n0 : 0 ≤ x.f1
  n1 : x.f0 ≠ 1 → x.f1 = 0
  p1 : 0 ≤ x.f4
  p2 : x.f4 ≤ 400
  a0 : 0 ≤ x.f2
  a1 : x.f2 < l.length
  a2 : 5 ≤ x.f0 → x.f2 < i
  b0 : 0 ≤ x.f3
  b1 : x.f3 < l.length
  b2 : 7 ≤ x.f0 → x.f3 < i
theorem run_zero (l : List Nd) : ∀ (ts ts' : List T), nrun ts l = some ts' → ∀ (i : Nat) (x : Nd), l[i]? = some x → (x.f0 ≤ 4 → x.f2 = 0 ∧ x.f3 = 0) ∧ (x.f0 ≤ 6 → x.f3 = 0) ∧ 1 ≤ x.f0 ∧ x.f0 ≤ 19 ∧ 0 ≤ x.f4 ∧ x.f4 ≤ 400 ∧ 0 ≤ x.f1 ∧ (x.f0 ≠ 1 → x.f1 = 0) := by
  induction l with
  | nil => intro ts ts' h i x hx; simp at hx
  | cons y l ih =>
    intro ts ts' h i x hx
    simp only [nrun] at h
    split at h
    · rename_i ts1 h1
      cases i with
      | zero =>
        simp only [List.getElem?_cons_zero, Option.some.injEq] at hx
        subst hx
        exact step_zero h1
      | succ i => exact ih ts1 ts' h i x (by simpa using hx)
    · cases h
theorem sound_of {l : List Nd} (h : chk l = 0) {i : Nat} {x : Nd} (hx : l[i]? = some x) : Sound l i x := by
  obtain ⟨_, t, ht, _⟩ := chk_zero h
  have h1 := run_zero l [] _ ht i x hx
  have h2 := range_of h i x hx
  have h3 := (List.getElem?_eq_some_iff.1 hx).1
  constructor <;> omega
def fitsR (a b : Bool) (k : Int) : Bool := if k ≤ 4 then true else if k = 5 then !a else if k = 6 then a else if k = 16 ∨ k = 17 then a == b else if 18 ≤ k then a && b else !a && !b
def gvAt (l : List Nd) (p : Int) : Bool := givesK (l.getD p.toNat default).f0
theorem gives_at {l : List Nd} {k p : Nat} (h : p < k) (hk : k ≤ l.length) : (gives (l.take k)).getD p false = givesK (l.getD p default).f0 := by
  unfold gives
  rw [List.getD_eq_getElem?_getD, List.getElem?_map, List.getElem?_take, if_pos h, List.getD_eq_getElem?_getD, List.getElem?_eq_getElem (by omega)]
  rfl
theorem fitsR_eq {l : List Nd} {k : Nat} {x : Nd} (h : Sound l k x) (hk : k < l.length) : fitsB (gives (l.take k)) x = fitsR (gvAt l x.f2) (gvAt l x.f3) x.f0 := by
  by_cases h4 : x.f0 ≤ 4
  · simp [fitsB, fitsR, h4]
  obtain ⟨p, hp⟩ := Int.eq_ofNat_of_zero_le h.a0
  have hq : x.f3.toNat = x.f3.toNat := rfl
  rw [fits_iff _ hp hq h4]
  have ha := h.a2 (by omega)
  have e1 : (gives (l.take k)).getD p false = gvAt l x.f2 := by
    rw [gives_at (by omega) (by omega)]
    unfold gvAt; rw [hp]; rfl
  unfold fitsR
  rw [if_neg h4]
  by_cases h5 : x.f0 = 5
  · rw [if_pos h5, if_pos h5]; simp only [takesB, List.all_cons, List.all_nil, Bool.and_true, e1]; cases gvAt l x.f2 <;> rfl
  by_cases h6 : x.f0 = 6
  · rw [if_neg h5, if_neg h5, if_pos h6, if_pos h6]; simp only [takesB, List.all_cons, List.all_nil, Bool.and_true, e1]; cases gvAt l x.f2 <;> rfl
  have hb := h.b2 (by omega)
  have hb0 := h.b0
  have e2 : (gives (l.take k)).getD x.f3.toNat false = gvAt l x.f3 := by
    rw [gives_at (by omega) (by omega)]
    rfl
  rw [if_neg h5, if_neg h5, if_neg h6, if_neg h6]
  simp only [takesB, List.all_cons, List.all_nil, Bool.and_true, e1, e2]
  by_cases h15 : x.f0 ≤ 15
  · rw [if_pos h15, if_neg (by omega), if_neg (by omega)]; cases gvAt l x.f2 <;> cases gvAt l x.f3 <;> rfl
  by_cases h17 : x.f0 ≤ 17
  · rw [if_neg h15, if_pos h17, if_pos (by omega)]; cases gvAt l x.f2 <;> cases gvAt l x.f3 <;> rfl
  · rw [if_neg h15, if_neg h17, if_neg (by omega), if_pos (by omega)]; cases gvAt l x.f2 <;> cases gvAt l x.f3 <;> rfl
set_option maxHeartbeats 2000000 in
set_option maxRecDepth 100000 in
theorem fits06_calls (ad : Addr) (c : Nat) (l : List Nd) (k : Nat) (x : Nd) (hx : l[k]? = some x) (hs : Sound l k x) (w : World) (ha : RdN w (some ad) l) :
    Calls Tryd.prog 86 #[.slice (some ad) l.length c, .int .i64 k] w fun e w' => e = .returned (.bool (fitsR (gvAt l x.f2) (gvAt l x.f3) x.f0)) ∧ Below w.heap.size w w' := by
  obtain ⟨ad, e, hc⟩ := ha.2 (by have := (List.getElem?_eq_some_iff.1 hx).1; omega)
  injection e with e; subst e
  have hkl := (List.getElem?_eq_some_iff.1 hx).1
  have hl := ha.1
  obtain ⟨p, hp⟩ := Int.eq_ofNat_of_zero_le hs.a0
  obtain ⟨q, hq⟩ := Int.eq_ofNat_of_zero_le hs.b0
  have a1 := hs.a1
  have b1 := hs.b1
  obtain ⟨hx0, hx1, hx2, hx3, hx4⟩ := hc k x hx
  obtain ⟨y, hy⟩ : ∃ y, l[p]? = some y := ⟨l[p]'(by omega), by simp⟩
  obtain ⟨z, hz⟩ : ∃ z, l[q]? = some z := ⟨l[q]'(by omega), by simp⟩
  have hy0 := (hc p y hy).1
  have hz0 := (hc q z hz).1
  have e1 : gvAt l x.f2 = givesK y.f0 := by unfold gvAt; rw [hp, Int.toNat_natCast, List.getD_eq_getElem?_getD, hy]; rfl
  have e2 : gvAt l x.f3 = givesK z.f0 := by unfold gvAt; rw [hq, Int.toNat_natCast, List.getD_eq_getElem?_getD, hz]; rfl
  rw [e1, e2]
  rw [hp] at hx2 a1
  rw [hq] at hx3 b1
  have hpl : p < l.length := by omega
  have hql : q < l.length := by omega
  clear hc ha hs hx hy hz e1 e2 hp hq
  have hy1 := cell_below (below_alloc (Below.refl _ _) (.cells #[.int .u8 x.f0, .int .i64 x.f1, .int .i64 p, .int .i64 q, .int .i64 x.f4] 50)) hy0
  have hz1 := cell_below (below_alloc (Below.refl _ _) (.cells #[.int .u8 x.f0, .int .i64 x.f1, .int .i64 p, .int .i64 q, .int .i64 x.f4] 50)) hz0
  go_enter Tryd.func86, Tryd.ntmps86
  go_wp2_with fail
  go_quiet ((go_at_call 77; exact quiet_eq (gives_calls _ _)))
  go_wp2_with fail
  all_goals
    go_ret
    refine ⟨ret_bool ?_, by with_reducible repeat (first | exact Below.refl _ _ | apply below_alloc | apply drewN_below | apply below_drew)⟩
    try simp only [beq_iff_eq, beq_eq_false_iff_ne, ne_eq] at *
    unfold fitsR
    generalize givesK y.f0 = ga at *
    generalize givesK z.f0 = gb at *
    (repeat' split) <;> first | omega | (cases ga <;> cases gb <;> first | rfl | simp_all)
set_option maxHeartbeats 2000000 in
theorem wrong06_calls (A : Option Addr) (c : Nat) (l : List Nd) (h0 : chk l = 0) (w : World) (ha : RdN w A l) :
    Calls Tryd.prog 76 #[.slice A l.length c] w fun e w' => e = .returned (.int .i64 (wrongAt l)) ∧ Below w.heap.size w w' := by
  have l1 := ha.1
  have H0 := Lib.hid h0
  clear h0
  go_enter Tryd.func76, Tryd.ntmps76
  go_wp2
  go_loopw [3] (fun i wr => ∃ k : Nat, k ≤ l.length ∧ i = .int .i64 k ∧ Below w.heap.size w wr ∧ ∀ (j : Nat) (y : Nd), j < k → l[j]? = some y → fitsB (gives (l.take j)) y = true) (fun i _ => l.length - (intOf i).toNat)
  case atStart => exact ⟨0, Nat.zero_le _, rfl, Below.refl _ _, by intro j y h; omega⟩
  case round =>
    obtain ⟨k, hk, rfl, hB, hall⟩ := hrel
    by_cases hlt : k < l.length
    · obtain ⟨x, hx⟩ : ∃ x, l[k]? = some x := ⟨l[k], by simp [hlt]⟩
      obtain ⟨ad, rfl, hc⟩ := ha.2 (by omega)
      clear hc
      have hs := sound_of H0.out hx
      have he := fitsR_eq hs hlt
      have He := Lib.hid he
      have Hs := Lib.hid hs
      have Hx := Lib.hid hx
      have Hall := Lib.hid hall
      clear hx hall hs he
      go_wp2_with (go_at_call 86; refine (fits06_calls _ _ _ k x Hx.out Hs.out _ (ha.below hB)).mono ?_; rw [← He.out]; rintro e w1 ⟨rfl, hb⟩)
      all_goals first
        | (go_ret
           have hf : fitsB (gives (l.take k)) x = false := by simp_all
           exact ⟨ret_int (by rw [wrongAt_lt Hx.out Hall.out hf]), below_trans hB hb⟩)
        | (have hf : fitsB (gives (l.take k)) x = true := by simp_all
           go_roundw
           case rel => exact ⟨k + 1, hlt, by go_num, below_trans hB hb, fun j y hj hy => by
             rcases Nat.lt_or_ge j k with h | h
             · exact Hall.out j y h hy
             · obtain rfl : j = k := by omega
               rw [Hx.out] at hy; injection hy with hy; subst hy; exact hf⟩
           case measure => simp [intOf]; omega)
    · obtain rfl : k = l.length := by omega
      have E := Lib.hid (wrongAt_len hall)
      clear hall
      go_wp2
      go_ret
      exact ⟨ret_int (by rw [E.out]), hB⟩
end Go.Proofs.YthijjpbkpmojbaaDoor
