import Derived.Test.YthijjpbkpmojbaaDoorRefG
import Derived.Test.YthijjpbkpmojbaaDoorExpr
import Derived.Test.YthijjpbkpmojbaaDoorWrittenB
/-! Layer 22: what a line of a plan is; what holds of a query that is right. -/
namespace Go.Proofs.YthijjpbkpmojbaaDoor
open Go.RowKit Tw
set_option linter.unusedVariables false
set_option linter.unusedSimpArgs false
/-- The text of an expression. -/
def exprB (l : List Nd) : List UInt8 := match nrun [] l with
  | some [t] => bt 0 t
  | _ => []
theorem fit_flat (t : T) : ∀ o : Int, (∀ y ∈ t.flat o, I64 y.f1) → t.fit := by
  induction t with
  | leaf k n p => intro o h; exact h ⟨k, n, 0, 0, p⟩ (by simp [T.flat])
  | un k p a ih => intro o h; exact ih o fun y hy => h y (by simp [T.flat, hy])
  | bin k p a b iha ihb => intro o h; exact ⟨iha o fun y hy => h y (by simp [T.flat, hy]), ihb (o + a.size) fun y hy => h y (by simp [T.flat, hy])⟩
theorem tree_of {l : List Nd} (h : chk l = 0) (hw : ∀ y ∈ l, NdWf y) : ∃ t : T, l = t.flat 0 ∧ t.wf ∧ t.fit ∧ t.size ≤ 60 ∧ t.depth ≤ 20 ∧ exprB l = bt 0 t := by
  obtain ⟨h60, t, ht, hd⟩ := chk_zero h
  obtain ⟨hl, hwf⟩ := run_one.1 ht
  refine ⟨t, hl, hwf, fit_flat t 0 (fun y hy => (hw y (by rw [hl]; exact hy)).w1), ?_, hd, by unfold exprB; rw [ht]⟩
  rw [hl, T.flat_length] at h60; exact h60
theorem exprB_len {l : List Nd} (h : chk l = 0) (hw : ∀ y ∈ l, NdWf y) : (exprB l).length ≤ 1200 := by
  obtain ⟨t, _, _, hf, hs, _, he⟩ := tree_of h hw
  rw [he]
  have := bt_len t hf 0
  omega
theorem exprP_calls (A : Option Addr) (c : Nat) (l : List Nd) (w : World) (hR : RdN w A l) (hT : Tab w) (h : chk l = 0) (hw : ∀ y ∈ l, NdWf y) :
    Calls Tryd.prog 35 #[.slice A l.length c] w fun e w' => e = .returned (.tuple #[.string ⟨(exprB l).toArray⟩, .int .i64 0]) ∧ Below w.heap.size w w' := by
  obtain ⟨t, hl, hwf, hf, hs, _, he⟩ := tree_of h hw
  rw [he]
  exact expr_calls A c l t hl hwf hf hs h w hR hT
theorem writtenP_calls (A : Option Addr) (c : Nat) (l : List Nd) (w : World) (hR : RdN w A l) (h : chk l = 0) (hw : ∀ y ∈ l, NdWf y) :
    Calls Tryd.prog 39 #[.slice A l.length c, .int .i64 ((l.length : Int) - 1)] w fun e w' => e = .returned (.string ⟨(exprB l).toArray⟩) ∧ Below w.heap.size w w' := by
  obtain ⟨t, hl, hwf, hf, hs, _, he⟩ := tree_of h hw
  rw [he]
  have hln : l.length = t.size := by rw [hl, T.flat_length]
  have := written_calls A c l t 0 w hR (by rw [hl]; exact atL_flat t) hwf hf hs
  have e : ((0 : Nat) : Int) + (t.size : Int) - 1 = (l.length : Int) - 1 := by omega
  rw [e] at this
  exact this
/-- What a query that passes the check of clauses is. -/
structure QOk (q : Qr) : Prop where
  ag1 : 1 ≤ q.ag
  ag4 : q.ag ≤ 4
  lt : q.lt = 1 ∨ q.lt = 2
  cnt : q.ag = 1 → q.arg = []
  arg : q.ag ≠ 1 → chk q.arg = 0
  wh : 0 < q.wh.length → chk q.wh = 0
  src : ∀ x ∈ q.src, 0 ≤ x ∧ x ≤ 3
  srcl : q.src.length ≤ 4
  srcp : 0 < q.src.length
  srcd : q.src.Nodup
  jn : q.jn = true → q.wk = 1 ∧ q.src.length = 2
  ws : 1 ≤ q.ws ∧ q.ws ≤ 1073741824
  win : (q.wk = 2 ∧ 1 ≤ q.we ∧ q.we ≤ q.ws ∧ q.ws ≤ 16 * q.we) ∨ ((q.wk = 1 ∨ q.wk = 3) ∧ q.we = 0)
theorem dist_nodup {l : List Int} (h : ¬ dist l < l.length) : l.Nodup := by
  have := dist_aux l []
  unfold dist at h
  simp only [List.length_nil, Nat.zero_add] at this
  exact (this.2.1 (by omega)).2
theorem qok_of {q : Qr} (h : cchk q = 0) : QOk q := by
  rw [cchk_if] at h
  split at h
  · cases h
  rename_i h1
  split at h
  · cases h
  rename_i h2
  split at h
  · rename_i h3; exact absurd h h3.2
  rename_i h3
  split at h
  · rename_i h4; exact absurd h h4.2
  rename_i h4
  split at h
  · rename_i h5; exact absurd h h5
  rename_i h5
  split at h
  · cases h
  rename_i h6
  have h5' : srcs q.src q.jn = 0 := by rw [ne_eq, Decidable.not_not] at h5; exact h5
  unfold srcs at h5'
  split at h5'
  · cases h5'
  rename_i s1
  split at h5'
  · cases h5'
  rename_i s2
  split at h5'
  · cases h5'
  rename_i s3
  have hw0 : Go.Proofs.YthijjpbkpmojbaaDoor.win q.wk q.ws q.we = 0 := by by_cases hh : Go.Proofs.YthijjpbkpmojbaaDoor.win q.wk q.ws q.we = 0; exact hh; exact absurd (Or.inl hh) h6
  unfold Go.Proofs.YthijjpbkpmojbaaDoor.win at hw0
  refine ⟨by omega, by omega, by omega, fun h => ?_, fun h => ?_, fun h => ?_, fun x hx => ?_, by omega, by omega, dist_nodup s3, fun hj => ⟨?_, ?_⟩, ?_, ?_⟩
  · by_cases h0 : 0 < q.arg.length
    · exact absurd ⟨h, h0⟩ h2
    · exact List.length_eq_zero_iff.1 (by omega)
  · by_cases hc : chk q.arg = 0
    · exact hc
    · exact absurd ⟨h, hc⟩ h3
  · by_cases hc : chk q.wh = 0
    · exact hc
    · exact absurd ⟨h, hc⟩ h4
  · have : outS x = false := by
      cases ho : outS x with
      | false => rfl
      | true => exact absurd (Or.inr (Or.inr (List.any_eq_true.2 ⟨x, hx, ho⟩))) s2
    unfold outS at this
    simp only [Bool.or_eq_false_iff, decide_eq_false_iff_not] at this
    omega
  · by_cases hh : q.wk = 1
    · exact hh
    · exact absurd (Or.inr ⟨hj, hh⟩) h6
  · by_cases hh : q.src.length = 2
    · exact hh
    · exact absurd (Or.inr (Or.inl ⟨hj, hh⟩)) s2
  · split at hw0
    · cases hw0
    · omega
  · split at hw0
    · cases hw0
    · split at hw0
      · split at hw0
        · left; omega
        · cases hw0
      · split at hw0
        · split at hw0
          · right; omega
          · cases hw0
        · cases hw0
theorem orE_eq {a b : Int} (h : orE a b = 0) : a = 0 ∧ b = 0 := by
  unfold orE at h
  split at h
  · exact ⟨by assumption, h⟩
  · exact absurd h (by assumption)
theorem qE_cchk {q : Qr} (h : qE q = 0) : cchk q = 0 := (orE_eq h).1
/-- A source's name. -/
def srcB (x : Int) : UInt8 := UInt8.ofNat (97 + x.toNat)
def scanB (l : List Int) : List UInt8 := [115, 99, 97, 110] ++ l.flatMap fun x => [32, srcB x]
def aggB (a : Int) : List UInt8 := if a = 1 then [99, 111, 117, 110, 116] else if a = 2 then [115, 117, 109] else if a = 3 then [109, 105, 110] else [109, 97, 120]
def windowB (q : Qr) : List UInt8 := if q.wk = 2 then [115, 108, 105, 100, 101, 32] ++ (Lib.itoa q.ws ++ ([32, 101, 118, 101, 114, 121, 32] ++ Lib.itoa q.we)) else if q.wk = 1 then [116, 117, 109, 98, 108, 101, 32] ++ Lib.itoa q.ws else [115, 101, 115, 115, 105, 111, 110, 32] ++ Lib.itoa q.ws
/-- The line of a step. -/
def lineB (q : Qr) (s : Int) : List UInt8 :=
  if s = 1 then scanB q.src
  else if s = 2 then (if q.lt = 2 then [108, 97, 116, 101, 32, 115, 105, 100, 101] else [108, 97, 116, 101, 32, 100, 114, 111, 112])
  else if s = 3 then [119, 104, 101, 114, 101, 32] ++ exprB q.wh
  else if s = 4 then (if q.ag = 1 then [112, 114, 111, 106, 101, 99, 116, 32, 48] else [112, 114, 111, 106, 101, 99, 116, 32] ++ exprB q.arg)
  else if s = 5 then [107, 101, 121]
  else if s = 6 then windowB q
  else if s = 7 then aggB q.ag
  else if s = 8 then [106, 111, 105, 110, 32] ++ aggB q.ag
  else if s = 9 then [101, 109, 105, 116]
  else [115, 105, 100, 101]
theorem scanB_snoc {l : List Int} {k : Nat} {x : Int} (h : l[k]? = some x) : scanB (l.take (k + 1)) = scanB (l.take k) ++ [32, srcB x] := by
  have hk := (List.getElem?_eq_some_iff.1 h)
  obtain ⟨hk, rfl⟩ := hk
  unfold scanB
  rw [List.take_succ_eq_append_getElem hk, List.flatMap_append]
  simp
theorem scanB_len (l : List Int) : (scanB l).length = 4 + 2 * l.length := by
  induction l with
  | nil => rfl
  | cons x l ih =>
    unfold scanB at ih ⊢
    simp only [List.flatMap_cons, List.length_append, List.length_cons, List.length_nil] at ih ⊢
    omega
end Go.Proofs.YthijjpbkpmojbaaDoor
