import Derived.Test.YthijjpbkpmojbaaDoorTold
namespace Go.Proofs.YthijjpbkpmojbaaDoor
open Go.RowKit Tw
set_option linter.unusedVariables false
set_option linter.unusedSimpArgs false
theorem step_range {ts ts' : List T} {x : Nd} (h : nstep ts x = some ts') : (5 ≤ x.f0 → 0 ≤ x.f2 ∧ x.f2 < sizes ts) ∧ (7 ≤ x.f0 → 0 ≤ x.f3 ∧ x.f3 < sizes ts) := by
  unfold nstep at h
  split at h
  · split at h
    · omega
    · split at h
      · split at h
        · cases h
        · split at h
          · rename_i a ts0 h2
            have := a.size_pos
            simp only [sizes] at *
            omega
          · cases h
      · split at h
        · split at h
          · split at h
            · rename_i b a ts0 h2
              have := a.size_pos
              have := b.size_pos
              simp only [sizes] at *
              omega
            · cases h
          · cases h
        · cases h
  · cases h
theorem run_range (l : List Nd) : ∀ (ts ts' : List T), nrun ts l = some ts' → ∀ (i : Nat) (x : Nd), l[i]? = some x → (5 ≤ x.f0 → 0 ≤ x.f2 ∧ x.f2 < sizes ts + i) ∧ (7 ≤ x.f0 → 0 ≤ x.f3 ∧ x.f3 < sizes ts + i) := by
  induction l with
  | nil => intro ts ts' h i x hx; simp at hx
  | cons y l ih =>
    intro ts ts' h i x hx
    simp only [nrun] at h
    split at h
    · rename_i ts1 h1
      cases i with
      | zero =>
        simp only [List.getElem?_cons_zero, Option.some.injEq] at hx
        subst hx
        simpa using step_range h1
      | succ i =>
        have := ih ts1 ts' h i x (by simpa using hx)
        have := (step_size h1).1
        omega
    · cases h
theorem chk_zero {l : List Nd} (h : chk l = 0) : l.length ≤ 60 ∧ ∃ t, nrun [] l = some [t] ∧ t.depth ≤ 20 := by
  unfold chk at h
  split at h
  · cases h
  · split at h
    · rename_i t ht
      split at h
      · cases h
      · exact ⟨by omega, t, ht, by omega⟩
    · cases h
theorem range_of {l : List Nd} (h : chk l = 0) : InRange l := by
  obtain ⟨_, t, ht, _⟩ := chk_zero h
  intro i x hx
  simpa [sizes] using run_range l [] _ ht i x hx
theorem pos_of {l : List Nd} (h : chk l = 0) : 0 < l.length := by
  obtain ⟨_, t, ht, _⟩ := chk_zero h
  cases l with
  | nil => cases ht
  | cons x l => simp
/-- What kinds.Of comes to. -/
def ofT (l : List Nd) : Bool := if chk l = 0 ∧ wrongAt l = l.length then givesK (l.getD (l.length - 1) default).f0 else false
def ofI (l : List Nd) : Int := if chk l = 0 then (if wrongAt l = l.length then (l.length : Int) - 1 else wrongAt l) else 0
def ofE (l : List Nd) : Int := if chk l = 0 then (if wrongAt l = l.length then 0 else 42) else chk l
theorem wrongAt_le (l : List Nd) : wrongAt l ≤ l.length := by
  unfold wrongAt
  cases h : (List.range l.length).find? fun i => !fitsB (gives (l.take i)) (l.getD i default) with
  | none => simp
  | some i => have := List.mem_of_find?_eq_some h; simp at this ⊢; omega
set_option maxHeartbeats 1000000 in
theorem of_calls (A : Option Addr) (c : Nat) (l : List Nd) (w : World) (hr : RdN w A l) :
    Calls Tryd.prog 61 #[.slice A l.length c] w fun e w' => e = .returned (.tuple #[.bool (ofT l), .int .i64 (ofI l), .int .i64 (ofE l)]) ∧ Below w.heap.size w w' := by
  have hle := wrongAt_le l
  by_cases h0 : chk l = 0
  · have f0 := eq_bool h0
    have hin := range_of h0
    have hpos := pos_of h0
    have h60 := (chk_zero h0).1
    have hw := wrap_sub (n := l.length) (k := 1) hpos (by omega)
    by_cases hwr : wrongAt l = l.length
    · have E : ofT l = givesK (l.getD (l.length - 1) default).f0 ∧ ofI l = (l.length : Int) - 1 ∧ ofE l = 0 := by simp [ofT, ofI, ofE, h0, hwr]
      replace E := Lib.hid E
      have d : decide ((wrongAt l : Int) < (l.length : Int)) = false := by simp; omega
      have d' : decide (wrongAt l < l.length) = false := by simp; omega
      have Hwr := Lib.hid hwr
      clear h0 hwr
      go_enter Tryd.func61, Tryd.ntmps61
      go_wp2_with fail
      refine (nodes_Check_calls _ _ l _ hr).mono ?_
      rintro e w1 ⟨rfl, hb1⟩
      go_wp2_with fail
      refine (told_calls _ _ l h60 hin _ (hr.below hb1)).mono ?_
      rintro e w2 ⟨hb2, A2, c2, rfl, hrd⟩
      rw [Hwr.out, if_pos rfl] at *
      obtain ⟨ad, rfl, hc⟩ := (hrd rfl).2 (by rw [gives_length]; exact hpos)
      have hcell := hc (l.length - 1) (givesK (l.getD (l.length - 1) default).f0) (by
        unfold gives
        rw [List.getElem?_map, List.getD_eq_getElem?_getD, List.getElem?_eq_getElem (by omega)]; rfl)
      clear hc hrd
      go_wp2
      go_ret3
      exact ⟨ret_bii E.out.1.symm E.out.2.1.symm E.out.2.2.symm, below_trans hb1 hb2⟩
    · have E : ofT l = false ∧ ofI l = wrongAt l ∧ ofE l = 42 := by simp [ofT, ofI, ofE, h0, hwr]
      replace E := Lib.hid E
      have d : decide ((wrongAt l : Int) < (l.length : Int)) = true := by simp; omega
      have d' : decide (wrongAt l < l.length) = true := by simp; omega
      have Hwr := Lib.hid hwr
      clear h0 hwr
      go_enter Tryd.func61, Tryd.ntmps61
      go_wp2_with fail
      refine (nodes_Check_calls _ _ l _ hr).mono ?_
      rintro e w1 ⟨rfl, hb1⟩
      go_wp2_with fail
      refine (told_calls _ _ l h60 hin _ (hr.below hb1)).mono ?_
      rintro e w2 ⟨hb2, A2, c2, rfl, hrd⟩
      clear hrd
      rw [if_neg Hwr.out]
      go_wp2
      go_ret3
      exact ⟨ret_bii E.out.1.symm E.out.2.1.symm E.out.2.2.symm, below_trans hb1 hb2⟩
  · have E : ofT l = false ∧ ofI l = 0 ∧ ofE l = chk l := by simp [ofT, ofI, ofE, h0]
    replace E := Lib.hid E
    have f0 := ne_bool h0
    clear h0
    go_enter Tryd.func61, Tryd.ntmps61
    go_wp2_with fail
    refine (nodes_Check_calls _ _ l _ hr).mono ?_
    rintro e w1 ⟨rfl, hb1⟩
    go_wp2
    go_ret3
    exact ⟨ret_bii E.out.1.symm E.out.2.1.symm E.out.2.2.symm, hb1⟩
/-- What kinds.want comes to: the error. -/
def wantE (l : List Nd) (tr : Bool) : Int := if ofE l = 0 ∧ ofT l ≠ tr then 42 else ofE l
set_option maxHeartbeats 1000000 in
theorem want_calls (A : Option Addr) (c : Nat) (l : List Nd) (tr : Bool) (w : World) (hr : RdN w A l) :
    Calls Tryd.prog 46 #[.slice A l.length c, .bool tr] w fun e w' => e = .returned (.tuple #[.int .i64 (ofI l), .int .i64 (wantE l tr)]) ∧ Below w.heap.size w w' := by
  go_enter Tryd.func46, Tryd.ntmps46
  go_wp2_with fail
  refine (of_calls _ _ l _ hr).mono ?_
  rintro e w1 ⟨rfl, hb1⟩
  go_wp2
  all_goals
    go_ret2
    refine ⟨ret_int2 rfl ?_, hb1⟩
    try simp only [beq_iff_eq, bne_iff_ne, beq_eq_false_iff_ne, bne_eq_false_iff_eq, ne_eq] at *
    unfold wantE
    (repeat' split) <;> simp_all
set_option maxHeartbeats 1000000 in
theorem number_calls (A : Option Addr) (c : Nat) (l : List Nd) (w : World) (hr : RdN w A l) :
    Calls Tryd.prog 28 #[.slice A l.length c] w fun e w' => e = .returned (.tuple #[.int .i64 (ofI l), .int .i64 (wantE l false)]) ∧ Below w.heap.size w w' := by
  go_enter Tryd.func28, Tryd.ntmps28
  go_wp2_with fail
  refine (want_calls _ _ l false _ hr).mono ?_
  rintro e w1 ⟨rfl, hb1⟩
  go_wp2
  go_ret2
  exact ⟨rfl, hb1⟩
set_option maxHeartbeats 1000000 in
theorem truth_calls (A : Option Addr) (c : Nat) (l : List Nd) (w : World) (hr : RdN w A l) :
    Calls Tryd.prog 29 #[.slice A l.length c] w fun e w' => e = .returned (.tuple #[.int .i64 (ofI l), .int .i64 (wantE l true)]) ∧ Below w.heap.size w w' := by
  go_enter Tryd.func29, Tryd.ntmps29
  go_wp2_with fail
  refine (want_calls _ _ l true _ hr).mono ?_
  rintro e w1 ⟨rfl, hb1⟩
  go_wp2
  go_ret2
  exact ⟨rfl, hb1⟩
/-- The index that kinds.Of gives lies in the list. -/
theorem ofI_in {l : List Nd} (h : 0 < l.length) : 0 ≤ ofI l ∧ ofI l < l.length := by
  have := wrongAt_le l
  unfold ofI
  (repeat' split) <;> omega
end Go.Proofs.YthijjpbkpmojbaaDoor
