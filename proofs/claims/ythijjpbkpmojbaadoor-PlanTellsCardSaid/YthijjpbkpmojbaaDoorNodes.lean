import Derived.Test.YthijjpbkpmojbaaDoorBase
namespace Go.Proofs.YthijjpbkpmojbaaDoor
open Go.RowKit Tw
attribute [local go_sem] max2_int min2_int max_two min_two
attribute [local go_sem high] eqNode
set_option linter.unusedVariables false
set_option linter.unusedSimpArgs false

def nParts (k : Int) : Int := if 7 ≤ k ∧ k ≤ 19 then 2 else if k = 5 ∨ k = 6 then 1 else 0
def eParts (k : Int) : Int := if 1 ≤ k ∧ k ≤ 19 then 0 else 2

set_option maxHeartbeats 400000 in
theorem parts_calls (k : Int) (w : World) : Calls Tryd.prog 83 #[.int .u8 k] w fun e w' => e = .returned (.tuple #[.int .i64 (nParts k), .int .i64 (eParts k)]) ∧ w = w' := by
  have h : (1 ≤ k ∧ k ≤ 4) ∨ k = 5 ∨ k = 6 ∨ (7 ≤ k ∧ k ≤ 19) ∨ k < 1 ∨ 19 < k := by omega
  rcases h with ⟨h1, h2⟩ | rfl | rfl | ⟨h1, h2⟩ | h1 | h1
  · rw [show nParts k = 0 from by unfold nParts; rw [if_neg (by omega), if_neg (by omega)], show eParts k = 0 from by unfold eParts; rw [if_pos (by omega)]]
    have d1 : decide (1 ≤ k) = true := decide_eq_true h1
    have d2 : decide (k ≤ 4) = true := decide_eq_true h2
    go_enter Tryd.func83, Tryd.ntmps83
    go_wp2
    go_ret2
    exact ⟨rfl, rfl⟩
  · go_enter Tryd.func83, Tryd.ntmps83
    go_wp2
    go_ret2
    exact ⟨rfl, rfl⟩
  · go_enter Tryd.func83, Tryd.ntmps83
    go_wp2
    go_ret2
    exact ⟨rfl, rfl⟩
  · rw [show nParts k = 2 from by unfold nParts; rw [if_pos (by omega)], show eParts k = 0 from by unfold eParts; rw [if_pos (by omega)]]
    have d1 : decide (1 ≤ k) = true := decide_eq_true (by omega)
    have d2 : decide (k ≤ 4) = false := decide_eq_false (by omega)
    have d3 : (k == 5) = false := beq_eq_false_iff_ne.2 (by omega)
    have d4 : (k == 6) = false := beq_eq_false_iff_ne.2 (by omega)
    have d5 : decide (7 ≤ k) = true := decide_eq_true h1
    have d6 : decide (k ≤ 19) = true := decide_eq_true h2
    go_enter Tryd.func83, Tryd.ntmps83
    go_wp2
    go_ret2
    exact ⟨rfl, rfl⟩
  · rw [show nParts k = 0 from by unfold nParts; rw [if_neg (by omega), if_neg (by omega)], show eParts k = 2 from by unfold eParts; rw [if_neg (by omega)]]
    have d1 : decide (1 ≤ k) = false := decide_eq_false (by omega)
    have d3 : (k == 5) = false := beq_eq_false_iff_ne.2 (by omega)
    have d4 : (k == 6) = false := beq_eq_false_iff_ne.2 (by omega)
    have d5 : decide (7 ≤ k) = false := decide_eq_false (by omega)
    go_enter Tryd.func83, Tryd.ntmps83
    go_wp2
    go_ret2
    exact ⟨rfl, rfl⟩
  · rw [show nParts k = 0 from by unfold nParts; rw [if_neg (by omega), if_neg (by omega)], show eParts k = 2 from by unfold eParts; rw [if_neg (by omega)]]
    have d1 : decide (1 ≤ k) = true := decide_eq_true (by omega)
    have d2 : decide (k ≤ 4) = false := decide_eq_false (by omega)
    have d3 : (k == 5) = false := beq_eq_false_iff_ne.2 (by omega)
    have d4 : (k == 6) = false := beq_eq_false_iff_ne.2 (by omega)
    have d5 : decide (7 ≤ k) = true := decide_eq_true (by omega)
    have d6 : decide (k ≤ 19) = false := decide_eq_false (by omega)
    go_enter Tryd.func83, Tryd.ntmps83
    go_wp2
    go_ret2
    exact ⟨rfl, rfl⟩
theorem wrap_sub {n k : Nat} (hk : k ≤ n) (hn : n ≤ 9223372036854775807) : IntKind.i64.wrap ((n : Int) - k) = ((n - k : Nat) : Int) := by
  rw [IntWalk.i64_in _ (by omega)]; omega
def PopPost (A : Option Addr) (n c k : Nat) (w : World) (e : Ending) (w' : World) : Prop :=
  ∃ A' m c', m = k ∧ e = .returned (.tuple #[.slice A (n-k) c, .slice A' m c']) ∧ (0 < k → A' = Option.map (fun x => x.add ((n - k) * 3)) A) ∧ ∃ d, w' = w.drewN d
set_option maxHeartbeats 400000 in
theorem pop_calls (A : Option Addr) (n c k : Nat) (hk : k ≤ n) (hn : n ≤ c) (hc : c ≤ 9223372036854775807) (w : World) :
    Calls Tryd.prog 84 #[.slice A n c, .int .i64 (k : Int)] w (PopPost A n c k w) := by
  have h1 := wrap_sub hk (by omega)
  go_enter Tryd.func84, Tryd.ntmps84
  go_wp2
  go_quiet (fail)
  go_wp2
  all_goals (go_ret2; exact ⟨_, n - (n - k), _, by omega, rfl, by intro; first | omega | rfl, _, rfl⟩)

/-! ### nodes.tops -/
theorem infoTop : (Tryd.prog.info? 130).map (fun i => (i.zero, i.size, i.bytes)) = some (some (.agg #[.int .i64 0, .int .i64 0, .int .i64 0]), 3, 24) := by kernel_rfl
theorem hs3 : 0 < 3 := by decide
theorem hb24 : 0 < 24 := by decide
def topCells (j : Int) (t : T) : List Value := [.int .i64 j, .int .i64 t.size, .int .i64 t.depth]
/-- What the stack holds: its first element is the top's. -/
def stackCells : List T → List Value
  | [] => []
  | t :: ts => stackCells ts ++ topCells (sizes (t :: ts) - 1) t
theorem stackCells_length (ts : List T) : (stackCells ts).length = ts.length * 3 := by
  induction ts with
  | nil => rfl
  | cons t ts ih => simp [stackCells, topCells, ih]; omega
def TopsRel (l : List Nd) (w : World) (all st i : Value) (wr : World) : Prop :=
  ∃ (k : Nat) (ts : List T) (al : List Value), k ≤ l.length ∧ i = .int .i64 k ∧ nrun [] (l.take k) = some ts ∧ ts.length ≤ k ∧ sizes ts = k ∧
    wr.ownsRow w.heap.size 130 3 st ts.length (stackCells ts) ∧ wr.ownsRow w.heap.size 130 3 all k al ∧
    (∀ t ts', ts = t :: ts' → ∃ pre, al = pre ++ topCells (k - 1) t) ∧ (st.ownBlock = none ∨ st.ownBlock ≠ all.ownBlock) ∧ Below w.heap.size w wr
/-- What tops comes to. -/
def TopsPost (l : List Nd) (w : World) (e : Ending) (w' : World) : Prop :=
  Below w.heap.size w w' ∧ ∃ v b, e = .returned (.tuple #[v, .bool b]) ∧
    (b = true → ∃ t g c, nrun [] l = some [t] ∧ v = .slice (some ⟨g, 0, none⟩) l.length c ∧ w'.cell? ⟨g, (l.length - 1) * 3 + 2, none⟩ = some (.int .i64 t.depth)) ∧ (b = false → ∀ t, nrun [] l ≠ some [t])
theorem mx_zero {x : Int} (h : 0 ≤ x) : mx x 0 = x := by unfold mx; rw [if_neg (by omega)]
theorem mx_at {x : Int} (h : 0 ≤ x) (h' : x ≤ 400) : mn (mx x 0) 400 = x := by rw [mx_zero h]; unfold mn; rw [if_neg (by omega)]
theorem mx_zero' {x : Int} (h : mx x 0 = x) : 0 ≤ x := by unfold mx at h; split at h <;> omega
theorem mx_at' {x : Int} (h : mn (mx x 0) 400 = x) : 0 ≤ x ∧ x ≤ 400 := by unfold mn mx at h; repeat' split at h
                                                                           all_goals omega
theorem run_step {l : List Nd} {k : Nat} {x : Nd} {ts : List T} (h : nrun [] (l.take k) = some ts) (hx : l[k]? = some x) : nrun [] (l.take (k + 1)) = nstep ts x := by
  obtain ⟨hk, rfl⟩ := List.getElem?_eq_some_iff.1 hx
  rw [List.take_succ_eq_append_getElem hk, run_append, h, Option.bind_some]
  simp only [nrun]
  cases nstep ts l[k] <;> rfl
theorem run_none {l : List Nd} {k : Nat} {x : Nd} {ts : List T} (h : nrun [] (l.take k) = some ts) (hx : l[k]? = some x) (hs : nstep ts x = none) : nrun [] l = none := by
  rw [← List.take_append_drop (k + 1) l, run_append, run_step h hx, hs]; rfl
theorem step_size {ts ts' : List T} {x : Nd} (h : nstep ts x = some ts') : sizes ts' = sizes ts + 1 ∧ ts'.length ≤ ts.length + 1 := by
  unfold nstep at h
  split at h
  · split at h
    · split at h
      · injection h with h; subst h; exact ⟨rfl, Nat.le_refl _⟩
      · cases h
    · split at h
      · split at h
        · cases h
        · split at h
          · injection h with h; subst h; simp [sizes, T.size]; omega
          · cases h
      · split at h
        · split at h
          · split at h
            · injection h with h; subst h; simp [sizes, T.size]; omega
            · cases h
          · cases h
        · cases h
  · cases h
def okLeaf (x : Nd) : Prop := (0 ≤ x.f4 ∧ x.f4 ≤ 400) ∧ 0 ≤ x.f1 ∧ (x.f0 ≠ 1 → x.f1 = 0) ∧ x.f2 = 0 ∧ x.f3 = 0
theorem step_leaf {ts : List T} {x : Nd} (hk : 1 ≤ x.f0 ∧ x.f0 ≤ 4) : (okLeaf x → nstep ts x = some (.leaf x.f0 x.f1 x.f4 :: ts)) ∧ (¬ okLeaf x → nstep ts x = none) := by
  unfold okLeaf nstep
  constructor
  · rintro ⟨h1, h2⟩
    rw [if_pos h1, if_pos hk, if_pos h2]
  · intro h
    by_cases h1 : 0 ≤ x.f4 ∧ x.f4 ≤ 400
    · rw [if_pos h1, if_pos hk, if_neg (fun h2 => h ⟨h1, h2⟩)]
    · rw [if_neg h1]
def okUn (ts : List T) (x : Nd) : Prop := (0 ≤ x.f4 ∧ x.f4 ≤ 400) ∧ x.f1 = 0 ∧ x.f2 = sizes ts - 1 ∧ x.f3 = 0
theorem step_un {a : T} {ts : List T} {x : Nd} (hk : x.f0 = 5 ∨ x.f0 = 6) : (okUn (a :: ts) x → nstep (a :: ts) x = some (.un x.f0 x.f4 a :: ts)) ∧ (¬ okUn (a :: ts) x → nstep (a :: ts) x = none) := by
  unfold okUn nstep
  constructor
  · rintro ⟨h1, h2⟩
    rw [if_pos h1, if_neg (by omega), if_pos hk]
    simp only
    rw [if_pos h2]
  · intro h
    by_cases h1 : 0 ≤ x.f4 ∧ x.f4 ≤ 400
    · rw [if_pos h1, if_neg (by omega), if_pos hk]
      simp only
      rw [if_neg (fun h2 => h ⟨h1, h2⟩)]
    · rw [if_neg h1]
def okBin (ts : List T) (m : Nat) (x : Nd) : Prop := (0 ≤ x.f4 ∧ x.f4 ≤ 400) ∧ x.f1 = 0 ∧ x.f2 = m - 1 ∧ x.f3 = sizes ts - 1
theorem step_bin {a b : T} {ts : List T} {x : Nd} (hk : 7 ≤ x.f0 ∧ x.f0 ≤ 19) : (okBin (b :: a :: ts) (sizes (a :: ts)) x → nstep (b :: a :: ts) x = some (.bin x.f0 x.f4 a b :: ts)) ∧ (¬ okBin (b :: a :: ts) (sizes (a :: ts)) x → nstep (b :: a :: ts) x = none) := by
  unfold okBin nstep
  constructor
  · rintro ⟨h1, h2⟩
    rw [if_pos h1, if_neg (by omega), if_neg (by omega), if_pos hk]
    simp only
    rw [if_pos h2]
  · intro h
    by_cases h1 : 0 ≤ x.f4 ∧ x.f4 ≤ 400
    · rw [if_pos h1, if_neg (by omega), if_neg (by omega), if_pos hk]
      simp only
      rw [if_neg (fun h2 => h ⟨h1, h2⟩)]
    · rw [if_neg h1]
theorem step_bad {ts : List T} {x : Nd} (h : eParts x.f0 ≠ 0 ∨ (ts.length : Int) < nParts x.f0) : nstep ts x = none := by
  unfold eParts nParts at h
  unfold nstep
  split
  · by_cases h1 : 1 ≤ x.f0 ∧ x.f0 ≤ 4
    · rw [if_pos (by omega), if_neg (by omega), if_neg (by omega)] at h
      omega
    · rw [if_neg h1]
      by_cases h5 : x.f0 = 5 ∨ x.f0 = 6
      · rw [if_pos (by omega), if_neg (by omega), if_pos h5] at h
        rw [if_pos h5]
        cases ts with
        | nil => rfl
        | cons a ts => simp at h; omega
      · rw [if_neg h5]
        by_cases h7 : 7 ≤ x.f0 ∧ x.f0 ≤ 19
        · rw [if_pos (by omega), if_pos h7] at h
          rw [if_pos h7]
          rcases ts with _ | ⟨b, _ | ⟨a, ts⟩⟩
          · rfl
          · rfl
          · simp at h; omega
        · rw [if_neg h7]
  · rfl
theorem stack_top {w : World} {B n c : Nat} {A : Option Addr} {a : T} {ts : List T} (h : w.ownsRow B 130 3 (.slice A n c) n (stackCells (a :: ts))) (hn : n = ts.length + 1) :
    ∃ g, A = some ⟨g, 0, none⟩ ∧ w.cell? ⟨g, ts.length * 3, none⟩ = some (.int .i64 (((sizes (a :: ts) : Nat) : Int) - 1)) ∧ w.cell? ⟨g, ts.length * 3 + 1, none⟩ = some (.int .i64 a.size) ∧ w.cell? ⟨g, ts.length * 3 + 2, none⟩ = some (.int .i64 a.depth) ∧
      ∀ j u, (stackCells ts)[j]? = some u → w.cell? ⟨g, j, none⟩ = some u := by
  rcases h.2 with ⟨_, h0⟩ | ⟨g, cap, cur, he, _⟩
  · omega
  · have hc := h.cells (g := g) (by rw [he]; rfl)
    have hl := stackCells_length ts
    injection he with he
    refine ⟨g, he, ?_, ?_, ?_, ?_⟩
    · have := hc (ts.length * 3) (.int .i64 (((sizes (a :: ts) : Nat) : Int) - 1)) (by simp [stackCells, topCells, hl])
      rwa [add_plain] at this
    · have := hc (ts.length * 3 + 1) (.int .i64 a.size) (by simp [stackCells, topCells, ← hl])
      rwa [add_plain] at this
    · have := hc (ts.length * 3 + 2) (.int .i64 a.depth) (by simp [stackCells, topCells, ← hl])
      rwa [add_plain] at this
    · intro j u hu
      have := hc j u (by simp only [stackCells]; rw [List.getElem?_append_left (List.getElem?_eq_some_iff.1 hu).1]; exact hu)
      rwa [add_plain] at this
theorem stop_post {l : List Nd} {k : Nat} {x : Nd} {ts : List T} {w w' : World} {v : Value} (hB : Below w.heap.size w w') (h : nrun [] (l.take k) = some ts) (hx : l[k]? = some x) (hs : nstep ts x = none) :
    TopsPost l w (.returned (.tuple #[v, .bool false])) w' :=
  ⟨hB, v, false, rfl, by simp, fun _ t ht => by rw [run_none h hx hs] at ht; cases ht⟩
theorem tops_next {l : List Nd} {w wr W w1 w2 : World} {st all v1 v2 : Value} {k : Nat} {t : T} {ts : List T} {al c : List Value} (hc : c = topCells k t) (hk : k < l.length) (hrun : nrun [] (l.take (k + 1)) = some (t :: ts)) (hsz : sizes (t :: ts) = k + 1) (htl : (t :: ts).length ≤ k + 1)
    (hall : wr.ownsRow w.heap.size 130 3 all k al) (hap : st.ownBlock = none ∨ st.ownBlock ≠ all.ownBlock)
    (hown1 : w1.ownsRow w.heap.size 130 3 v1 (ts.length + 1) (stackCells ts ++ c)) (hat1 : v1.ownBlock = st.ownBlock ∨ ∃ b, v1.ownBlock = some b ∧ W.heap.size ≤ b) (hW : wr.heap.size ≤ W.heap.size)
    (hown2 : w2.ownsRow w.heap.size 130 3 v2 (k + 1) (al ++ c)) (hg2 : w1.grownBy w2 all.ownBlock) (hat2 : v2.ownBlock = all.ownBlock ∨ ∃ b, v2.ownBlock = some b ∧ w1.heap.size ≤ b) (hB : Below w.heap.size w w2) :
    TopsRel l w v2 v1 (.int .i64 ((k : Int) + 1)) w2 := by
  subst hc
  have hne : v1.ownBlock = none ∨ v1.ownBlock ≠ all.ownBlock := by
    rcases hat1 with h | ⟨b, h, hb⟩
    · rw [h]; exact hap
    · refine .inr (fun h' => ?_)
      have := (hall.lt b (by rw [← h', h])).2
      omega
  refine ⟨k + 1, t :: ts, _, hk, by simp, hrun, htl, hsz, ?_, hown2, ?_, ?_, hB⟩
  · have hs : sizes (t :: ts) - 1 = k := by omega
    have : stackCells (t :: ts) = stackCells ts ++ topCells k t := by
      simp only [stackCells]
      rw [show ((sizes (t :: ts) : Nat) : Int) - 1 = (k : Int) from by omega]
    rw [this]
    exact hown1.kept hg2 hne
  · intro t' ts' h
    simp only [List.cons.injEq] at h
    obtain ⟨rfl, rfl⟩ := h
    exact ⟨al, by simp⟩
  · rcases hat2 with h | ⟨b, h, hb⟩
    · rw [h]; exact hne
    · rcases hne' : v1.ownBlock with _ | x
      · exact .inl rfl
      · refine .inr (fun h' => ?_)
        rw [h] at h'
        injection h' with h'
        have := (hown1.lt x hne').2
        omega
set_option maxHeartbeats 4000000 in
set_option maxRecDepth 100000 in
theorem tops_calls (A : Option Addr) (c : Nat) (l : List Nd) (hl : l.length ≤ 60) (w : World) (hr : RdN w A l) :
    Calls Tryd.prog 71 #[.slice A l.length c] w (TopsPost l w) := by
  obtain ⟨i0, hi, hz0, hz1, hz2⟩ := info_parts infoTop
  go_enter Tryd.func71, Tryd.ntmps71
  go_wp2
  go_loopw [4, 5, 17] (fun all st i wr => TopsRel l w all st i wr) (fun _ _ i _ => l.length - (intOf i).toNat)
  case atStart => exact ⟨0, [], [], Nat.zero_le _, rfl, rfl, Nat.le_refl _, rfl, World.ownsRow_nil _ _ _ _, World.ownsRow_nil _ _ _ _, by simp, .inl rfl, Below.refl _ _⟩
  case round =>
    obtain ⟨k, ts, al, hk, rfl, hrun, htl, hsz, hst, hall, hlast, hap, hB⟩ := hrel
    by_cases hlt : k < l.length
    · obtain ⟨ad, rfl, hcell⟩ := hr.2 (by omega)
      obtain ⟨x, hx⟩ : ∃ x, l[k]? = some x := ⟨l[k], by simp [hlt]⟩
      obtain ⟨hx0, hx1, hx2, hx3, hx4⟩ := (hcell k x hx).below hB
      clear hcell
      obtain ⟨A5, n5, rfl, hle5, hc5⟩ := own_slice hst
      have hkind : (eParts x.f0 ≠ 0 ∨ (ts.length : Int) < nParts x.f0) ∨ ((1 ≤ x.f0 ∧ x.f0 ≤ 4) ∧ nParts x.f0 = 0) ∨ ((x.f0 = 5 ∨ x.f0 = 6) ∧ nParts x.f0 = 1 ∧ 1 ≤ ts.length) ∨ ((7 ≤ x.f0 ∧ x.f0 ≤ 19) ∧ nParts x.f0 = 2 ∧ 2 ≤ ts.length) := by
        unfold eParts nParts
        repeat' split
        all_goals omega
      rcases hkind with hbad | ⟨hk4, hn⟩ | ⟨hk5, hn, hlen⟩ | ⟨hk7, hn, hlen⟩
      · have hs := step_bad hbad
        have Hrun := Lib.hid hrun
        have Hx := Lib.hid hx
        have Hs := Lib.hid hs
        have Hsz := Lib.hid hsz
        have Hbad := Lib.hid hbad
        clear hrun hx hs hsz hbad
        go_wp2_with (first
          | (go_at_call 83; refine (parts_calls _ _).mono ?_; rintro e w1 ⟨rfl, rfl⟩)
          | (go_at_call 84; exfalso; have h1 : eParts x.f0 = 0 := (by assumption); have h2 : nParts x.f0 ≤ (ts.length : Int) := (by assumption); rcases Hbad.out with h | h <;> omega))
        all_goals (go_ret2; exact stop_post (by with_reducible repeat (first | exact hB | apply below_alloc | apply drewN_below)) Hrun.out Hx.out Hs.out)
      · have he : eParts x.f0 = 0 := by unfold eParts; rw [if_pos (by omega)]
        obtain ⟨hyes, hno⟩ := step_leaf (ts := ts) hk4
        by_cases hok : okLeaf x
        · have hs := hyes hok
          clear hyes hno
          have hrun1 := run_step hrun hx
          rw [hs] at hrun1
          obtain ⟨hsz1, _⟩ := step_size hs
          have Hrun := Lib.hid hrun1
          have Hx := Lib.hid hx
          have Hsz := Lib.hid hsz
          have Hsz1 := Lib.hid hsz1
          clear hrun hrun1 hx hs hsz hsz1
          obtain ⟨y0, y1, y2, y3, y4⟩ := x
          obtain ⟨⟨hp1, hp2⟩, hp3, hp4, hp5, hp6⟩ := hok
          simp only at hp1 hp2 hp3 hp4 hp5 hp6 hx0 hx1 hx2 hx3 hx4 hk4 hn he
          subst hp5 hp6
          have e1 := mx_zero hp3
          have e2 := mx_at hp1 hp2
          have e3 : (y0 == 1) = false → y1 = 0 := fun h => hp4 (by simpa using h)
          go_wp2_with (go_at_call 83; refine (parts_calls _ _).mono ?_; rw [hn, he]; rintro e w1 ⟨rfl, rfl⟩)
          refine (pop_calls A5 ts.length n5 0 (Nat.zero_le _) hle5 hc5 _).mono ?_
          rintro e w1 ⟨A', m, c', rfl, rfl, _, nd, rfl⟩
          go_wp2
          refine wp_loop_rounds 1 ?_
          rw [rounds_succ]
          have hb1 : (ts.length + 1) * 24 ≤ 140737488355328 := by omega
          have hb2 : (k + 1) * 24 ≤ 140737488355328 := by omega
          go_wp2_with (first
            | (at_builtin; refine app_one (w0 := w) rfl (.tmp 92) (.tmp 94) 103 130 _ 3 24 rfl Tryd.underlying103 infoTop rfl hs3 hb24 (.slice A5 ts.length n5) ts.length (stackCells ts) (topCells k (.leaf 0 0 0)) rfl _ rfl rfl (three_one _ _ _ _ _ _) hb1 ?_ ?_ ?_ ?_; (simp); (with_reducible repeat (first | exact hst | apply World.ownsRow.alloc | apply own_drewN)); (with_reducible repeat (first | exact hB | apply below_alloc | apply drewN_below)); intro v1 w1 hown1 hB1 hg1 hat1; have q0 := own_keep hst hg1 (wr.heap.size + 1 + 1) 0 (.int .i64 k) (by omega) (by go_simp); have q1 := own_keep hst hg1 (wr.heap.size + 1 + 1) 1 (.int .i64 1) (by omega) (by go_simp); have q2 := own_keep hst hg1 (wr.heap.size + 1 + 1) 2 (.int .i64 1) (by omega) (by go_simp))
            | (at_builtin; refine app_one (w0 := w) rfl (.tmp 96) (.tmp 98) 103 130 _ 3 24 rfl Tryd.underlying103 infoTop rfl hs3 hb24 u4 k al (topCells k (.leaf 0 0 0)) rfl _ rfl rfl (three_one _ _ _ _ _ _) hb2 ?_ ?_ ?_ ?_; (rfl); (refine World.ownsRow.kept ?_ hg1 (apart_of hap); with_reducible repeat (first | exact hall | apply World.ownsRow.alloc | apply own_drewN)); (exact hB1); intro v2 w2 hown2 hB2 hg2 hat2))
          all_goals
            go_roundw
            case rel => exact tops_next rfl hlt Hrun.out (by rw [Hsz1.out, Hsz.out]) (by simp; omega) hall hap hown1 hat1 (by simp; omega) hown2 hg2 hat2 hB2
            case measure => simp [intOf]; omega
        · have hs := hno hok
          clear hyes hno
          have Hrun := Lib.hid hrun
          have Hx := Lib.hid hx
          have Hs := Lib.hid hs
          have Hsz := Lib.hid hsz
          clear hrun hx hs hsz
          go_wp2_with (go_at_call 83; refine (parts_calls _ _).mono ?_; rw [hn, he]; rintro e w1 ⟨rfl, rfl⟩)
          refine (pop_calls A5 ts.length n5 0 (Nat.zero_le _) hle5 hc5 _).mono ?_
          rintro e w1 ⟨A', m, c', rfl, rfl, _, nd, rfl⟩
          go_wp2
          refine wp_loop_rounds 1 ?_
          rw [rounds_succ]
          go_wp2_with fail
          all_goals first
            | (go_ret2; exact stop_post (by with_reducible repeat (first | exact hB | apply below_alloc | apply drewN_below)) Hrun.out Hx.out Hs.out)
            | (exfalso
               have e : (!(mx x.f1 0 == x.f1)) = false ∧ (!((0 : Int) == x.f2)) = false ∧ (!((0 : Int) == x.f3)) = false ∧ (!(mn (mx x.f4 0) 400 == x.f4)) = false := by assumption
               have e1 : (x.f0 == 1) = true := by assumption
               simp only [Bool.not_eq_false', beq_iff_eq] at e e1
               exact hok ⟨mx_at' e.2.2.2, mx_zero' e.1, fun h => absurd e1 h, e.2.1.symm, e.2.2.1.symm⟩)
            | (exfalso
               have e : (!((0 : Int) == x.f1)) = false ∧ (!((0 : Int) == x.f2)) = false ∧ (!((0 : Int) == x.f3)) = false ∧ (!(mn (mx x.f4 0) 400 == x.f4)) = false := by assumption
               simp only [Bool.not_eq_false', beq_iff_eq] at e
               exact hok ⟨mx_at' e.2.2.2, by omega, fun h => e.1.symm, e.2.1.symm, e.2.2.1.symm⟩)
      · have he : eParts x.f0 = 0 := by unfold eParts; rw [if_pos (by omega)]
        obtain ⟨a, ts', rfl⟩ : ∃ a ts', ts = a :: ts' := by cases ts with | nil => simp at hlen | cons a ts' => exact ⟨a, ts', rfl⟩
        clear hlen
        simp only [List.length_cons] at hst htl hle5 hap
        obtain ⟨g, rfl, q0, q1, q2, _⟩ := stack_top hst rfl
        have hg0 := World.block_lt_of_cell? wr _ q0
        simp only at hg0
        have hg1 : g < wr.heap.size + 1 := by omega
        have hg2 : g < wr.heap.size + 1 + 1 := by omega
        have hg3 : g < wr.heap.size + 1 + 1 + 1 := by omega
        have hst' := own_take (m := ts'.length) hst (by omega)
        rw [show (stackCells (a :: ts')).take (ts'.length * 3) = stackCells ts' from by simp only [stackCells]; rw [← stackCells_length ts', List.take_left]] at hst'
        have hab : 0 ≤ (a.size : Int) ∧ (a.size : Int) ≤ 100 := by
          have : sizes (a :: ts') = sizes ts' + a.size := rfl
          omega
        have hdb : 1 ≤ (a.depth : Int) ∧ (a.depth : Int) ≤ 100 := by
          have h1 := a.depth_pos
          have h2 := a.depth_le_size
          omega
        obtain ⟨hyes, hno⟩ := step_un (a := a) (ts := ts') hk5
        obtain ⟨q, hq⟩ : ∃ q : Int, ((sizes (a :: ts') : Nat) : Int) - 1 = q := ⟨_, rfl⟩
        rw [hq] at q0
        have Hq := Lib.hid hq
        have e5 : mx 1 ((a.depth : Int) + 1) = (a.depth : Int) + 1 := by unfold mx; rw [if_pos (by omega)]
        have f1 : (x.f0 == 1) = false := beq_eq_false_iff_ne.2 (by omega)
        obtain ⟨dA, hdA⟩ : ∃ d : Int, (a.depth : Int) = d := ⟨_, rfl⟩
        obtain ⟨sA, hsA⟩ : ∃ d : Int, (a.size : Int) = d := ⟨_, rfl⟩
        rw [hdA] at q2 e5 hdb
        rw [hsA] at q1 hab
        have HdA := Lib.hid hdA
        have HsA := Lib.hid hsA
        clear hq hdA hsA
        by_cases hok : okUn (a :: ts') x
        · have hs := hyes hok
          clear hyes hno
          have hrun1 := run_step hrun hx
          rw [hs] at hrun1
          obtain ⟨hsz1, _⟩ := step_size hs
          have Hrun := Lib.hid hrun1
          have Hx := Lib.hid hx
          have Hsz := Lib.hid hsz
          have Hsz1 := Lib.hid hsz1
          clear hrun hrun1 hx hs hsz hsz1
          obtain ⟨y0, y1, y2, y3, y4⟩ := x
          obtain ⟨⟨hp1, hp2⟩, hp3, hp4, hp5⟩ := hok
          rw [Hq.out] at hp4
          simp only at hp1 hp2 hp3 hp4 hp5 hx0 hx1 hx2 hx3 hx4 hk5 hn he f1
          subst hp3 hp4 hp5
          have e2 := mx_at hp1 hp2
          go_wp2_with (go_at_call 83; refine (parts_calls _ _).mono ?_; rw [hn, he]; rintro e w1 ⟨rfl, rfl⟩)
          refine (pop_calls _ (ts'.length + 1) n5 1 (by omega) hle5 hc5 _).mono ?_
          rintro e w1 ⟨A', m, c', rfl, rfl, hA', nd, rfl⟩
          have hA2 := hA' (by omega)
          rw [show ts'.length + 1 - 1 = ts'.length from by omega, Option.map_some, add_plain] at hA2
          subst hA2
          clear hA'
          go_wp2
          refine wp_loop_rounds 2 ?_
          rw [rounds_succ]
          go_wp2
          rw [rounds_succ]
          have hb1 : (ts'.length + 1) * 24 ≤ 140737488355328 := by omega
          have hb2 : (k + 1) * 24 ≤ 140737488355328 := by omega
          go_wp2_with (first
            | (at_builtin; refine app_one (w0 := w) rfl (.tmp 92) (.tmp 94) 103 130 _ 3 24 rfl Tryd.underlying103 infoTop rfl hs3 hb24 (.slice (some ⟨g, 0, none⟩) ts'.length n5) ts'.length (stackCells ts') [.int .i64 k, .int .i64 (1 + sA), .int .i64 (dA + 1)] rfl _ rfl rfl (three_one _ _ _ _ _ _) hb1 ?_ ?_ ?_ ?_; (simp); (with_reducible repeat (first | exact hst' | apply World.ownsRow.alloc | apply own_drewN)); (with_reducible repeat (first | exact hB | apply below_alloc | apply drewN_below)); intro v1 w1 hown1 hB1 hg1 hat1; have q0 := own_keep hst hg1 (wr.heap.size + 1 + 1) 0 (.int .i64 k) (by omega) (by go_simp); have q1 := own_keep hst hg1 (wr.heap.size + 1 + 1) 1 (.int .i64 (1 + sA)) (by omega) (by go_simp); have q2 := own_keep hst hg1 (wr.heap.size + 1 + 1) 2 (.int .i64 (dA + 1)) (by omega) (by go_simp))
            | (at_builtin; refine app_one (w0 := w) rfl (.tmp 96) (.tmp 98) 103 130 _ 3 24 rfl Tryd.underlying103 infoTop rfl hs3 hb24 u4 k al [.int .i64 k, .int .i64 (1 + sA), .int .i64 (dA + 1)] rfl _ rfl rfl (three_one _ _ _ _ _ _) hb2 ?_ ?_ ?_ ?_; (rfl); (refine World.ownsRow.kept ?_ hg1 (apart_of hap); with_reducible repeat (first | exact hall | apply World.ownsRow.alloc | apply own_drewN)); (exact hB1); intro v2 w2 hown2 hB2 hg2 hat2))
          go_roundw
          case rel => exact tops_next (by simp only [topCells, T.size, T.depth]; rw [← HsA.out, ← HdA.out]; simp; omega) hlt Hrun.out (by rw [Hsz1.out, Hsz.out]) (by simp; omega) hall hap hown1 hat1 (by simp; omega) hown2 hg2 hat2 hB2
          case measure => simp [intOf]; omega
        · have hs := hno hok
          clear hyes hno
          have Hrun := Lib.hid hrun
          have Hx := Lib.hid hx
          have Hs := Lib.hid hs
          have Hsz := Lib.hid hsz
          clear hrun hx hs hsz
          go_wp2_with (go_at_call 83; refine (parts_calls _ _).mono ?_; rw [hn, he]; rintro e w1 ⟨rfl, rfl⟩)
          refine (pop_calls _ (ts'.length + 1) n5 1 (by omega) hle5 hc5 _).mono ?_
          rintro e w1 ⟨A', m, c', rfl, rfl, hA', nd, rfl⟩
          have hA2 := hA' (by omega)
          rw [show ts'.length + 1 - 1 = ts'.length from by omega, Option.map_some, add_plain] at hA2
          subst hA2
          clear hA'
          go_wp2
          refine wp_loop_rounds 2 ?_
          rw [rounds_succ]
          go_wp2
          rw [rounds_succ]
          go_wp2_with (at_builtin; exfalso; have e : (!((0 : Int) == x.f1)) = false ∧ (!(q == x.f2)) = false ∧ (!((0 : Int) == x.f3)) = false ∧ (!(mn (mx x.f4 0) 400 == x.f4)) = false := (by assumption); simp only [Bool.not_eq_false', beq_iff_eq] at e; exact hok ⟨mx_at' e.2.2.2, e.1.symm, e.2.1.symm.trans Hq.out.symm, e.2.2.1.symm⟩)
          all_goals (go_ret2; exact stop_post (by with_reducible repeat (first | exact hB | apply below_alloc | apply drewN_below)) Hrun.out Hx.out Hs.out)
      · have he : eParts x.f0 = 0 := by unfold eParts; rw [if_pos (by omega)]
        obtain ⟨b, a, ts', rfl⟩ : ∃ b a ts', ts = b :: a :: ts' := by
          rcases ts with _ | ⟨b, _ | ⟨a, ts'⟩⟩
          · simp at hlen
          · simp at hlen
          · exact ⟨b, a, ts', rfl⟩
        clear hlen
        simp only [List.length_cons] at hst htl hle5 hap
        obtain ⟨g, rfl, q0, q1, q2, qs⟩ := stack_top hst rfl
        have hl' := stackCells_length ts'
        have q3 := qs (ts'.length * 3) (.int .i64 (((sizes (a :: ts') : Nat) : Int) - 1)) (by simp [stackCells, topCells, ← hl'])
        have q4 := qs (ts'.length * 3 + 1) (.int .i64 a.size) (by simp [stackCells, topCells, ← hl'])
        have q5 := qs (ts'.length * 3 + 2) (.int .i64 a.depth) (by simp [stackCells, topCells, ← hl'])
        clear qs hl'
        simp only [List.length_cons, Nat.add_mul, Nat.one_mul] at q0 q1 q2
        have hg0 := World.block_lt_of_cell? wr _ q0
        simp only at hg0
        have hg1 : g < wr.heap.size + 1 := by omega
        have hg2 : g < wr.heap.size + 1 + 1 := by omega
        have hg3 : g < wr.heap.size + 1 + 1 + 1 := by omega
        have hst' := own_take (m := ts'.length) hst (by omega)
        rw [show (stackCells (b :: a :: ts')).take (ts'.length * 3) = stackCells ts' from by simp only [stackCells]; rw [← stackCells_length ts', List.append_assoc, List.take_left]] at hst'
        have hsum : sizes (b :: a :: ts') = sizes ts' + a.size + b.size := rfl
        have hab : 0 ≤ (a.size : Int) ∧ (a.size : Int) ≤ 100 := by omega
        have hab2 : 0 ≤ (b.size : Int) ∧ (b.size : Int) ≤ 100 := by omega
        have hdb2 : 1 ≤ (b.depth : Int) ∧ (b.depth : Int) ≤ 100 := by
          have h1 := b.depth_pos
          have h2 := b.depth_le_size
          omega
        have hdb : 1 ≤ (a.depth : Int) ∧ (a.depth : Int) ≤ 100 := by
          have h1 := a.depth_pos
          have h2 := a.depth_le_size
          omega
        obtain ⟨hyes, hno⟩ := step_bin (a := a) (b := b) (ts := ts') hk7
        obtain ⟨q, hq⟩ : ∃ q : Int, ((sizes (a :: ts') : Nat) : Int) - 1 = q := ⟨_, rfl⟩
        obtain ⟨qb, hqb⟩ : ∃ q : Int, ((sizes (b :: a :: ts') : Nat) : Int) - 1 = q := ⟨_, rfl⟩
        rw [hq] at q3
        rw [hqb] at q0
        have Hq := Lib.hid hq
        have Hqb := Lib.hid hqb
        have e5 : mx 1 ((a.depth : Int) + 1) = (a.depth : Int) + 1 := by unfold mx; rw [if_pos (by omega)]
        have f1 : (x.f0 == 1) = false := beq_eq_false_iff_ne.2 (by omega)
        obtain ⟨dA, hdA⟩ : ∃ d : Int, (a.depth : Int) = d := ⟨_, rfl⟩
        obtain ⟨sA, hsA⟩ : ∃ d : Int, (a.size : Int) = d := ⟨_, rfl⟩
        obtain ⟨dB, hdB⟩ : ∃ d : Int, (b.depth : Int) = d := ⟨_, rfl⟩
        obtain ⟨sB, hsB⟩ : ∃ d : Int, (b.size : Int) = d := ⟨_, rfl⟩
        rw [hdA] at q5 e5 hdb
        rw [hsA] at q4 hab
        rw [hdB] at q2 hdb2
        rw [hsB] at q1 hab2
        have HdA := Lib.hid hdA
        have HsA := Lib.hid hsA
        have HdB := Lib.hid hdB
        have HsB := Lib.hid hsB
        clear hq hdA hsA hqb hdB hsB hsum
        by_cases hok : okBin (b :: a :: ts') (sizes (a :: ts')) x
        · have hs := hyes hok
          clear hyes hno
          have hrun1 := run_step hrun hx
          rw [hs] at hrun1
          obtain ⟨hsz1, _⟩ := step_size hs
          have Hrun := Lib.hid hrun1
          have Hx := Lib.hid hx
          have Hsz := Lib.hid hsz
          have Hsz1 := Lib.hid hsz1
          clear hrun hrun1 hx hs hsz hsz1
          obtain ⟨y0, y1, y2, y3, y4⟩ := x
          obtain ⟨⟨hp1, hp2⟩, hp3, hp4, hp5⟩ := hok
          rw [Hq.out] at hp4
          rw [Hqb.out] at hp5
          simp only at hp1 hp2 hp3 hp4 hp5 hx0 hx1 hx2 hx3 hx4 hk7 hn he f1
          subst hp3 hp4 hp5
          have e2 := mx_at hp1 hp2
          go_wp2_with (go_at_call 83; refine (parts_calls _ _).mono ?_; rw [hn, he]; rintro e w1 ⟨rfl, rfl⟩)
          refine (pop_calls _ (ts'.length + 1 + 1) n5 2 (by omega) hle5 hc5 _).mono ?_
          rintro e w1 ⟨A', m, c', rfl, rfl, hA', nd, rfl⟩
          have hA2 := hA' (by omega)
          rw [show ts'.length + 1 + 1 - 2 = ts'.length from by omega, Option.map_some, add_plain] at hA2
          subst hA2
          clear hA'
          go_wp2
          refine wp_loop_rounds 3 ?_
          rw [rounds_succ]
          go_wp2
          rw [rounds_succ]
          go_wp2
          rw [rounds_succ]
          have hb1 : (ts'.length + 1) * 24 ≤ 140737488355328 := by omega
          have hb2 : (k + 1) * 24 ≤ 140737488355328 := by omega
          go_wp2_with (first
            | (at_builtin; refine app_one (w0 := w) rfl (.tmp 92) (.tmp 94) 103 130 _ 3 24 rfl Tryd.underlying103 infoTop rfl hs3 hb24 (.slice (some ⟨g, 0, none⟩) ts'.length n5) ts'.length (stackCells ts') [.int .i64 k, .int .i64 (1 + sA + sB), .int .i64 (mx (dA + 1) (dB + 1))] rfl _ rfl rfl (three_one _ _ _ _ _ _) hb1 ?_ ?_ ?_ ?_; (simp); (with_reducible repeat (first | exact hst' | apply World.ownsRow.alloc | apply own_drewN)); (with_reducible repeat (first | exact hB | apply below_alloc | apply drewN_below)); intro v1 w1 hown1 hB1 hg1 hat1; have q0 := own_keep hst hg1 (wr.heap.size + 1 + 1) 0 (.int .i64 k) (by omega) (by go_simp); have q1 := own_keep hst hg1 (wr.heap.size + 1 + 1) 1 (.int .i64 (1 + sA + sB)) (by omega) (by go_simp); have q2 := own_keep hst hg1 (wr.heap.size + 1 + 1) 2 (.int .i64 (mx (dA + 1) (dB + 1))) (by omega) (by go_simp))
            | (at_builtin; refine app_one (w0 := w) rfl (.tmp 96) (.tmp 98) 103 130 _ 3 24 rfl Tryd.underlying103 infoTop rfl hs3 hb24 u4 k al [.int .i64 k, .int .i64 (1 + sA + sB), .int .i64 (mx (dA + 1) (dB + 1))] rfl _ rfl rfl (three_one _ _ _ _ _ _) hb2 ?_ ?_ ?_ ?_; (rfl); (refine World.ownsRow.kept ?_ hg1 (apart_of hap); with_reducible repeat (first | exact hall | apply World.ownsRow.alloc | apply own_drewN)); (exact hB1); intro v2 w2 hown2 hB2 hg2 hat2))
          go_roundw
          case rel => exact tops_next (by simp only [topCells, T.size, T.depth]; rw [← HsA.out, ← HdA.out, ← HsB.out, ← HdB.out]; unfold mx; simp; split <;> omega) hlt Hrun.out (by rw [Hsz1.out, Hsz.out]) (by simp; omega) hall hap hown1 hat1 (by simp; omega) hown2 hg2 hat2 hB2
          case measure => simp [intOf]; omega
        · have hs := hno hok
          clear hyes hno
          have Hrun := Lib.hid hrun
          have Hx := Lib.hid hx
          have Hs := Lib.hid hs
          have Hsz := Lib.hid hsz
          clear hrun hx hs hsz
          go_wp2_with (go_at_call 83; refine (parts_calls _ _).mono ?_; rw [hn, he]; rintro e w1 ⟨rfl, rfl⟩)
          refine (pop_calls _ (ts'.length + 1 + 1) n5 2 (by omega) hle5 hc5 _).mono ?_
          rintro e w1 ⟨A', m, c', rfl, rfl, hA', nd, rfl⟩
          have hA2 := hA' (by omega)
          rw [show ts'.length + 1 + 1 - 2 = ts'.length from by omega, Option.map_some, add_plain] at hA2
          subst hA2
          clear hA'
          go_wp2
          refine wp_loop_rounds 3 ?_
          rw [rounds_succ]
          go_wp2
          rw [rounds_succ]
          go_wp2
          rw [rounds_succ]
          go_wp2_with (at_builtin; exfalso; have e : (!((0 : Int) == x.f1)) = false ∧ (!(q == x.f2)) = false ∧ (!(qb == x.f3)) = false ∧ (!(mn (mx x.f4 0) 400 == x.f4)) = false := (by assumption); simp only [Bool.not_eq_false', beq_iff_eq] at e; exact hok ⟨mx_at' e.2.2.2, e.1.symm, e.2.1.symm.trans Hq.out.symm, e.2.2.1.symm.trans Hqb.out.symm⟩)
          all_goals (go_ret2; exact stop_post (by with_reducible repeat (first | exact hB | apply below_alloc | apply drewN_below)) Hrun.out Hx.out Hs.out)
    · obtain rfl : k = l.length := by omega
      rw [List.take_length] at hrun
      obtain ⟨A5, n5, rfl, hle5, hc5⟩ := own_slice hst
      obtain ⟨A4, n4, rfl, hle4, hc4⟩ := own_slice hall
      have Hrun := Lib.hid hrun
      clear hrun
      by_cases h1 : ts.length = 1
      · obtain ⟨t, rfl⟩ : ∃ t, ts = [t] := by
          rcases ts with _ | ⟨t, _ | ⟨t', ts⟩⟩
          · simp at h1
          · exact ⟨t, rfl⟩
          · simp at h1
        obtain ⟨pre, rfl⟩ := hlast t [] rfl
        have hpos : 0 < l.length := by have := t.size_pos; have : sizes [t] = t.size := by simp [sizes]
                                       omega
        have hl2 : pre.length = (l.length - 1) * 3 := by have := hall.1; simp [topCells] at this; omega
        have hcell : wr.cell? (⟨(A4.map (·.block)).getD 0, 0, none⟩ : Addr) = wr.cell? (⟨(A4.map (·.block)).getD 0, 0, none⟩ : Addr) := rfl
        obtain ⟨g, rfl⟩ : ∃ g, A4 = some ⟨g, 0, none⟩ := by
          rcases hall.2 with ⟨_, h0⟩ | ⟨g, cap, cur, he, _⟩
          · omega
          · injection he with he; exact ⟨g, he⟩
        have hc := hall.cells (g := g) rfl ((l.length - 1) * 3 + 2) (.int .i64 t.depth) (by rw [List.getElem?_append_right (by omega), hl2]; simp [topCells])
        rw [add_plain] at hc
        clear hall hlast hcell
        go_wp2
        go_ret2
        exact ⟨hB, _, true, rfl, fun _ => ⟨t, g, n4, Hrun.out, rfl, hc⟩, by simp⟩
      · have h2 : ((ts.length : Int) == 1) = false := beq_eq_false_iff_ne.2 (by omega)
        clear hall hlast
        go_wp2
        go_ret2
        exact ⟨hB, _, false, rfl, by simp, fun _ t ht => h1 (by rw [Hrun.out] at ht; injection ht with ht; rw [ht]; rfl)⟩
end Go.Proofs.YthijjpbkpmojbaaDoor
