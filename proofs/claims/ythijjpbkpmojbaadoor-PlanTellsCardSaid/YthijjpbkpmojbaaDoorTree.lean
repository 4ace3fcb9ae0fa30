/-! Expressions as trees and as lists of nodes. -/
namespace Tw
/-- A node: kind, number, first part, second part, place. -/
structure Nd where
  f0 : Int
  f1 : Int
  f2 : Int
  f3 : Int
  f4 : Int
deriving DecidableEq, Inhabited

inductive T where
  | leaf (k n p : Int)
  | un (k p : Int) (a : T)
  | bin (k p : Int) (a b : T)
deriving DecidableEq, Inhabited

namespace T
def size : T → Nat
  | leaf _ _ _ => 1
  | un _ _ a => a.size + 1
  | bin _ _ a b => a.size + b.size + 1
def depth : T → Nat
  | leaf _ _ _ => 1
  | un _ _ a => a.depth + 1
  | bin _ _ a b => max a.depth b.depth + 1
def kind : T → Int
  | leaf k _ _ => k
  | un k _ _ => k
  | bin k _ _ _ => k
def flat (o : Int) : T → List Nd
  | leaf k n p => [⟨k, n, 0, 0, p⟩]
  | un k p a => a.flat o ++ [⟨k, 0, o + a.size - 1, 0, p⟩]
  | bin k p a b => a.flat o ++ (b.flat (o + a.size) ++ [⟨k, 0, o + a.size - 1, o + a.size + b.size - 1, p⟩])
def wf : T → Prop
  | leaf k n p => 1 ≤ k ∧ k ≤ 4 ∧ 0 ≤ n ∧ (k ≠ 1 → n = 0) ∧ 0 ≤ p ∧ p ≤ 400
  | un k p a => (k = 5 ∨ k = 6) ∧ 0 ≤ p ∧ p ≤ 400 ∧ a.wf
  | bin k p a b => 7 ≤ k ∧ k ≤ 19 ∧ 0 ≤ p ∧ p ≤ 400 ∧ a.wf ∧ b.wf
theorem size_pos (t : T) : 0 < t.size := by cases t <;> simp [size]
theorem depth_pos (t : T) : 0 < t.depth := by cases t <;> simp [depth]
theorem depth_le_size (t : T) : t.depth ≤ t.size := by
  induction t with
  | leaf => simp [size, depth]
  | un k p a ih => simp [size, depth]; exact ih
  | bin k p a b iha ihb => simp only [size, depth]; omega
theorem flat_length (t : T) : ∀ o, (t.flat o).length = t.size := by
  induction t with
  | leaf => intro o; simp [size, flat]
  | un k p a ih => intro o; simp [size, flat, ih]
  | bin k p a b iha ihb => intro o; simp [size, flat, iha, ihb]; omega
end T

/-- How many nodes a stack of trees (its top first) has. -/
def sizes : List T → Nat
  | [] => 0
  | t :: ts => sizes ts + t.size
/-- The nodes of a stack of trees, from an index on. -/
def flats : List T → List Nd
  | [] => []
  | t :: ts => flats ts ++ t.flat (sizes ts)
theorem flats_length (ts : List T) : (flats ts).length = sizes ts := by
  induction ts with
  | nil => rfl
  | cons t ts ih => simp [flats, sizes, ih, T.flat_length]

/-- One node more: the stack behind it, if it fits. -/
def nstep (ts : List T) (x : Nd) : Option (List T) :=
  if 0 ≤ x.f4 ∧ x.f4 ≤ 400 then
    if 1 ≤ x.f0 ∧ x.f0 ≤ 4 then
      if 0 ≤ x.f1 ∧ (x.f0 ≠ 1 → x.f1 = 0) ∧ x.f2 = 0 ∧ x.f3 = 0 then some (.leaf x.f0 x.f1 x.f4 :: ts) else none
    else if x.f0 = 5 ∨ x.f0 = 6 then
      match ts with
      | [] => none
      | a :: ts' => if x.f1 = 0 ∧ x.f2 = sizes ts - 1 ∧ x.f3 = 0 then some (.un x.f0 x.f4 a :: ts') else none
    else if 7 ≤ x.f0 ∧ x.f0 ≤ 19 then
      match ts with
      | b :: a :: ts' => if x.f1 = 0 ∧ x.f2 = sizes (a :: ts') - 1 ∧ x.f3 = sizes ts - 1 then some (.bin x.f0 x.f4 a b :: ts') else none
      | _ => none
    else none
  else none
def nrun : List T → List Nd → Option (List T)
  | ts, [] => some ts
  | ts, x :: l => match nstep ts x with
    | some ts' => nrun ts' l
    | none => none
def wfs (ts : List T) : Prop := ∀ t ∈ ts, t.wf

theorem step_sound {ts ts' : List T} {x : Nd} (h : nstep ts x = some ts') (hw : wfs ts) : flats ts' = flats ts ++ [x] ∧ wfs ts' := by
  unfold nstep at h
  split at h
  · rename_i hp
    split at h
    · rename_i hk
      split at h
      · rename_i hn
        injection h with h
        subst h
        refine ⟨?_, ?_⟩
        · simp only [flats, T.flat]
          congr 1
          cases x
          simp only [List.cons.injEq, and_true] at *
          simp [hn.2.2.1, hn.2.2.2]
        · intro t ht
          simp only [List.mem_cons] at ht
          rcases ht with rfl | ht
          · exact ⟨hk.1, hk.2, hn.1, hn.2.1, hp.1, hp.2⟩
          · exact hw t ht
      · cases h
    · split at h
      · rename_i hk
        cases ts with
        | nil => cases h
        | cons a ts0 =>
          simp only at h
          split at h
          · rename_i hn
            injection h with h
            subst h
            refine ⟨?_, ?_⟩
            · simp only [flats, T.flat, List.append_assoc]
              congr 2
              cases x
              simp only [sizes] at hn
              simp only [List.cons.injEq, and_true, Nd.mk.injEq, true_and]
              omega
            · intro t ht
              simp only [List.mem_cons] at ht
              rcases ht with rfl | ht
              · exact ⟨hk, hp.1, hp.2, hw a (by simp)⟩
              · exact hw t (by simp [ht])
          · cases h
      · split at h
        · rename_i hk
          rcases ts with _ | ⟨b, _ | ⟨a, ts0⟩⟩
          · cases h
          · cases h
          · simp only at h
            split at h
            · rename_i hn
              injection h with h
              subst h
              refine ⟨?_, ?_⟩
              · simp only [flats, T.flat, List.append_assoc, sizes]
                cases x
                simp only [sizes] at hn
                simp only [List.append_cancel_left_eq, Int.natCast_add, List.cons.injEq, and_true, Nd.mk.injEq, true_and]
                omega
              · intro t ht
                simp only [List.mem_cons] at ht
                rcases ht with rfl | ht
                · exact ⟨hk.1, hk.2, hp.1, hp.2, hw a (by simp), hw b (by simp)⟩
                · exact hw t (by simp [ht])
            · cases h
        · cases h
  · cases h

theorem run_sound {l : List Nd} : ∀ {ts ts' : List T}, nrun ts l = some ts' → wfs ts → flats ts' = flats ts ++ l ∧ wfs ts' := by
  induction l with
  | nil => intro ts ts' h hw; simp only [nrun, Option.some.injEq] at h; subst h; exact ⟨by simp, hw⟩
  | cons x l ih =>
    intro ts ts' h hw
    simp only [nrun] at h
    cases hs : nstep ts x with
    | none => rw [hs] at h; cases h
    | some t1 =>
      rw [hs] at h
      obtain ⟨h1, h2⟩ := step_sound hs hw
      obtain ⟨h3, h4⟩ := ih h h2
      exact ⟨by rw [h3, h1]; simp, h4⟩
theorem run_append {l l' : List Nd} : ∀ {ts : List T}, nrun ts (l ++ l') = (nrun ts l).bind fun t => nrun t l' := by
  induction l with
  | nil => intro ts; simp [nrun]
  | cons x l ih =>
    intro ts
    simp only [List.cons_append, nrun]
    cases nstep ts x with
    | none => rfl
    | some t1 => exact ih
theorem run_flat (t : T) : ∀ (ts : List T), t.wf → nrun ts (t.flat (sizes ts)) = some (t :: ts) := by
  induction t with
  | leaf k n p =>
    intro ts ⟨h1, h2, h3, h4, h5, h6⟩
    simp only [T.flat, nrun, nstep]
    rw [if_pos ⟨h5, h6⟩, if_pos ⟨h1, h2⟩, if_pos ⟨h3, h4, trivial, trivial⟩]
  | un k p a ih =>
    intro ts ⟨h1, h2, h3, h4⟩
    simp only [T.flat, run_append, ih ts h4, Option.bind_some, nrun, nstep]
    rw [if_pos ⟨h2, h3⟩, if_neg (by omega), if_pos h1, if_pos ⟨trivial, by simp [sizes], trivial⟩]
  | bin k p a b iha ihb =>
    intro ts ⟨h1, h2, h3, h4, h5, h6⟩
    have hb := ihb (a :: ts) h6
    simp only [sizes, Int.natCast_add] at hb
    simp only [T.flat, run_append, iha ts h5, Option.bind_some, hb, nrun, nstep]
    rw [if_pos ⟨h3, h4⟩, if_neg (by omega), if_neg (by omega), if_pos ⟨h1, h2⟩, if_pos ⟨trivial, by simp [sizes], by simp [sizes]⟩]
/-- A list of nodes is an expression (but for its depth) just if it is a tree's. -/
theorem run_one {l : List Nd} {t : T} : nrun [] l = some [t] ↔ l = t.flat 0 ∧ t.wf := by
  constructor
  · intro h
    obtain ⟨h1, h2⟩ := run_sound h (fun _ h => by cases h)
    simp only [flats, List.nil_append, sizes] at h1
    exact ⟨h1.symm, h2 t (by simp)⟩
  · rintro ⟨rfl, h⟩
    exact run_flat t [] h
theorem flat_inj {s t : T} (hs : s.wf) (ht : t.wf) (h : s.flat 0 = t.flat 0) : s = t := by
  have h1 := run_one.2 ⟨rfl, hs⟩
  rw [h, run_one.2 ⟨rfl, ht⟩] at h1
  injection h1 with h1
  injection h1 with h1
  exact h1.symm
end Tw
