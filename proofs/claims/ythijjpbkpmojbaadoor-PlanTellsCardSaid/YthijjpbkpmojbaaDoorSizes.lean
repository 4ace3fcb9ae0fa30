import Derived.Test.YthijjpbkpmojbaaDoorRefE
/-! The reference of layer 4: Sizes, Check. -/
namespace Go.Proofs.YthijjpbkpmojbaaDoor
open Go.RowKit Tw
attribute [local go_sem] max2_int min2_int max_two min_two
set_option linter.unusedVariables false
set_option linter.unusedSimpArgs false
theorem infoInt : (Tryd.prog.info? 3).map (fun i => (i.zero, i.size, i.bytes)) = some (some (.int .i64 0), 1, 8) := by kernel_rfl
/-- The tops' sizes and depths, as the rows have them. -/
def StkOk (sl dl : List Nat) : List T → Prop
  | [] => True
  | t :: ts => sl[sizes (t :: ts) - 1]? = some t.size ∧ dl[sizes (t :: ts) - 1]? = some t.depth ∧ StkOk sl dl ts
theorem StkOk.app {sl dl : List Nat} {a b : Nat} : ∀ {ts : List T}, StkOk sl dl ts → StkOk (sl ++ [a]) (dl ++ [b]) ts
  | [], _ => trivial
  | t :: ts, h => ⟨by rw [List.getElem?_append_left (List.getElem?_eq_some_iff.1 h.1).1]; exact h.1, by rw [List.getElem?_append_left (List.getElem?_eq_some_iff.1 h.2.1).1]; exact h.2.1, h.2.2.app⟩
def nvals (l : List Nat) : List Value := l.map fun n : Nat => Value.int .i64 n
def SzRel (l : List Nd) (w : World) (st dp i : Value) (wr : World) : Prop :=
  ∃ (k : Nat) (ts : List T) (sl dl : List Nat), k ≤ l.length ∧ i = .int .i64 k ∧ nrun [] (l.take k) = some ts ∧ sizes ts = k ∧
    wr.ownsRow w.heap.size 3 1 st k (nvals sl) ∧ wr.ownsRow w.heap.size 3 1 dp k (nvals dl) ∧ (st.ownBlock = none ∨ st.ownBlock ≠ dp.ownBlock) ∧ StkOk sl dl ts ∧ Below w.heap.size w wr
/-- What Sizes comes to. -/
def SizesPost (l : List Nd) (w : World) (e : Ending) (w' : World) : Prop :=
  Below w.heap.size w w' ∧ ∃ v1 v2 b, e = .returned (.tuple #[v1, v2, .bool b]) ∧
    (b = true → ∃ t g c, nrun [] l = some [t] ∧ v2 = .slice (some ⟨g, 0, none⟩) l.length c ∧ w'.cell? ⟨g, l.length - 1, none⟩ = some (.int .i64 t.depth)) ∧ (b = false → ∀ t, nrun [] l ≠ some [t])
theorem step_A {ts : List T} {x : Nd} (h : x.f0 ≤ 4) : nstep ts x = if rightB x 0 0 = true then some (.leaf x.f0 x.f1 x.f4 :: ts) else none := by
  unfold rightB
  simp only [decide_eq_true_eq]
  split
  · rename_i hr
    obtain ⟨h1, h2⟩ := step_leaf (ts := ts) (x := x) (by omega)
    exact h1 (by unfold okLeaf; omega)
  · rename_i hr
    by_cases h0 : 1 ≤ x.f0
    · obtain ⟨h1, h2⟩ := step_leaf (ts := ts) (x := x) (by omega)
      exact h2 (by unfold okLeaf; omega)
    · exact step_bad (.inl (by unfold eParts; rw [if_neg (by omega)]; decide))
theorem step_B {a : T} {ts : List T} {x : Nd} (h : ¬ x.f0 ≤ 4) (h' : x.f0 ≤ 6) : nstep (a :: ts) x = if rightB x ((sizes (a :: ts) : Int) - 1) 0 = true then some (.un x.f0 x.f4 a :: ts) else none := by
  unfold rightB
  simp only [decide_eq_true_eq]
  obtain ⟨h1, h2⟩ := step_un (a := a) (ts := ts) (x := x) (by omega)
  unfold okUn at h1 h2
  split
  · exact h1 (by omega)
  · exact h2 (by omega)
theorem step_C {a b : T} {ts : List T} {x : Nd} (h : ¬ x.f0 ≤ 6) : nstep (b :: a :: ts) x = if rightB x ((sizes (a :: ts) : Int) - 1) ((sizes (b :: a :: ts) : Int) - 1) = true then some (.bin x.f0 x.f4 a b :: ts) else none := by
  unfold rightB
  simp only [decide_eq_true_eq]
  by_cases h19 : x.f0 ≤ 19
  · obtain ⟨h1, h2⟩ := step_bin (a := a) (b := b) (ts := ts) (x := x) (by omega)
    unfold okBin at h1 h2
    split
    · exact h1 (by omega)
    · exact h2 (by omega)
  · rw [if_neg (by omega)]
    exact step_bad (.inl (by unfold eParts; rw [if_neg (by omega)]; decide))
theorem sizes_stop {l : List Nd} {k : Nat} {x : Nd} {ts : List T} {w w' : World} {v1 v2 : Value} (hB : Below w.heap.size w w') (h : nrun [] (l.take k) = some ts) (hx : l[k]? = some x) (hs : nstep ts x = none) :
    SizesPost l w (.returned (.tuple #[v1, v2, .bool false])) w' :=
  ⟨hB, v1, v2, false, rfl, by simp, fun _ t ht => by rw [run_none h hx hs] at ht; cases ht⟩
theorem sizes_next {l : List Nd} {w wr w1 w2 : World} {st dp v1 v2 : Value} {k : Nat} {x : Nd} {t : T} {ts ts' : List T} {sl dl : List Nat} {s d : Int} (hk : k < l.length) (hx : l[k]? = some x) (hrun : nrun [] (l.take k) = some ts) (hsz : sizes ts = k) (hs : nstep ts x = some (t :: ts')) (hss : s = t.size) (hdd : d = t.depth)
    (hst : wr.ownsRow w.heap.size 3 1 st k (nvals sl)) (hdp : wr.ownsRow w.heap.size 3 1 dp k (nvals dl)) (hap : st.ownBlock = none ∨ st.ownBlock ≠ dp.ownBlock) (hok : StkOk sl dl ts')
    (hown1 : w1.ownsRow w.heap.size 3 1 v1 (k + 1) (nvals sl ++ [.int .i64 s])) (hat1 : v1.ownBlock = st.ownBlock ∨ ∃ b, v1.ownBlock = some b ∧ wr.heap.size ≤ b)
    (hown2 : w2.ownsRow w.heap.size 3 1 v2 (k + 1) (nvals dl ++ [.int .i64 d])) (hg2 : w1.grownBy w2 dp.ownBlock) (hat2 : v2.ownBlock = dp.ownBlock ∨ ∃ b, v2.ownBlock = some b ∧ w1.heap.size ≤ b) (hB : Below w.heap.size w w2) :
    SzRel l w v1 v2 (.int .i64 ((k : Int) + 1)) w2 := by
  subst hss hdd
  have hne : v1.ownBlock = none ∨ v1.ownBlock ≠ dp.ownBlock := by
    rcases hat1 with h | ⟨b, h, hb⟩
    · rw [h]; exact hap
    · refine .inr (fun h' => ?_)
      have := (hdp.lt b (by rw [← h', h])).2
      omega
  have hrun1 := run_step hrun hx
  rw [hs] at hrun1
  have hsz1 : sizes (t :: ts') = k + 1 := by rw [(step_size hs).1, hsz]
  have l1 : sl.length = k := by have := hst.1; simpa [nvals] using this
  have l2 : dl.length = k := by have := hdp.1; simpa [nvals] using this
  refine ⟨k + 1, t :: ts', sl ++ [t.size], dl ++ [t.depth], hk, by simp, hrun1, hsz1, ?_, ?_, ?_, ⟨?_, ?_, hok.app⟩, hB⟩
  · have : nvals (sl ++ [t.size]) = nvals sl ++ [.int .i64 (t.size : Int)] := by simp [nvals]
    rw [this]
    exact hown1.kept hg2 hne
  · have : nvals (dl ++ [t.depth]) = nvals dl ++ [.int .i64 (t.depth : Int)] := by simp [nvals]
    rw [this]
    exact hown2
  · rcases hat2 with h | ⟨b, h, hb⟩
    · rw [h]; exact hne
    · rcases hne' : v1.ownBlock with _ | y
      · exact .inl rfl
      · refine .inr (fun h' => ?_)
        rw [h] at h'
        injection h' with h'
        have := (hown1.lt y hne').2
        omega
  · rw [hsz1, Nat.add_sub_cancel, List.getElem?_append_right (by omega), l1, Nat.sub_self]; rfl
  · rw [hsz1, Nat.add_sub_cancel, List.getElem?_append_right (by omega), l2, Nat.sub_self]; rfl
/-- An element of a row of ints. -/
theorem row_at {w : World} {B k c i n : Nat} {A : Option Addr} {l : List Nat} (h : w.ownsRow B 3 1 (.slice A k c) k (nvals l)) (hi : l[i]? = some n) : ∃ g, A = some ⟨g, 0, none⟩ ∧ w.cell? ⟨g, i, none⟩ = some (.int .i64 n) := by
  have hl : l.length = k := by have := h.1; simpa [nvals] using this
  have hlt := (List.getElem?_eq_some_iff.1 hi).1
  rcases h.2 with ⟨_, h0⟩ | ⟨g, cap, cur, he, _⟩
  · omega
  · have hc := h.cells (g := g) (by rw [he]; rfl) i (.int .i64 n) (by unfold nvals; rw [List.getElem?_map, hi]; rfl)
    injection he with he
    rw [add_plain] at hc
    exact ⟨g, he, hc⟩
set_option maxHeartbeats 4000000 in
set_option maxRecDepth 100000 in
theorem sizes_calls (A : Option Addr) (c : Nat) (l : List Nd) (hl : l.length ≤ 100) (w : World) (hr : RdN w A l) :
    Calls Tryd.prog 62 #[.slice A l.length c] w (SizesPost l w) := by
  go_enter Tryd.func62, Tryd.ntmps62
  go_wp2
  go_loopw [5, 6, 7] (fun st dp i wr => SzRel l w st dp i wr) (fun _ _ i _ => l.length - (intOf i).toNat)
  case atStart => exact ⟨0, [], [], [], Nat.zero_le _, rfl, rfl, rfl, World.ownsRow_nil _ _ _ _, World.ownsRow_nil _ _ _ _, .inl rfl, trivial, Below.refl _ _⟩
  case round =>
    obtain ⟨k, ts, sl, dl, hk, rfl, hrun, hsz, hst, hdp, hap, hok, hB⟩ := hrel
    have hb1 : (k + 1) * 8 ≤ 140737488355328 := by omega
    by_cases hlt : k < l.length
    · obtain ⟨ad, rfl, hcell⟩ := hr.2 (by omega)
      obtain ⟨x, hx⟩ : ∃ x, l[k]? = some x := ⟨l[k], by simp [hlt]⟩
      obtain ⟨hx0, hx1, hx2, hx3, hx4⟩ := (hcell k x hx).below hB
      clear hcell
      by_cases h4 : x.f0 ≤ 4
      · have hn : Hid (cnt x.f0 = 0) := by unfold cnt; rw [if_pos h4]; exact rfl
        have hstep := step_A (ts := ts) h4
        have Hstep := Lib.hid hstep
        have Hx := Lib.hid hx
        have Hrun := Lib.hid hrun
        have Hsz := Lib.hid hsz
        have Hok := Lib.hid hok
        clear hstep hx hrun hsz hok
        cases hrb : rightB x (0) (0) with
        | true =>
          have hs := Hstep.out
          rw [hrb, if_pos rfl] at hs
          have Hs := Lib.hid hs
          have Hrb := Lib.hid hrb
          clear hrb hs
          go_wp2_with (first | (go_at_call 74; refine (count_calls x.f0 _).mono ?_; rw [hn.out]; rintro e w9 ⟨rfl, rfl⟩) | (go_at_call 75; refine (right_calls x (0) (0) _).mono ?_; rw [Hrb.out]; rintro e w9 ⟨rfl, hb⟩) | (at_builtin; refine app_row (own_below hst hb) (below_trans hB hb) rfl _ _ rfl Tryd.underlying23 infoInt rfl h01 h08 _ (by rfl) _ (by rfl) ?_ rfl (one_int _ _) hb1 (Below.refl _ _) ?_; (rfl); intro v1 w1 hown1 hB1 hg1 hat1) | (at_builtin; refine app_row ((own_below hdp hb).kept hg1 (apart_of hap)) hB1 rfl _ _ rfl Tryd.underlying23 infoInt rfl h01 h08 _ (by rfl) _ (by rfl) ?_ rfl (one_int _ _) hb1 (Below.refl _ _) ?_; (rfl); intro v2 w2 hown2 hB2 hg2 hat2))
          go_roundw
          case rel => exact sizes_next hlt Hx.out Hrun.out Hsz.out Hs.out (by simp [T.size]) (by simp [T.depth]) (own_below hst hb) (own_below hdp hb) hap Hok.out hown1 hat1 hown2 hg2 hat2 hB2
          case measure => simp [intOf]; omega
        | false =>
          have hs := Hstep.out
          rw [hrb, if_neg (by decide)] at hs
          have Hs := Lib.hid hs
          have Hrb := Lib.hid hrb
          clear hrb hs
          go_wp2_with (first | (go_at_call 74; refine (count_calls x.f0 _).mono ?_; rw [hn.out]; rintro e w9 ⟨rfl, rfl⟩) | (go_at_call 75; refine (right_calls x (0) (0) _).mono ?_; rw [Hrb.out]; rintro e w9 ⟨rfl, hb⟩))
          go_ret3
          exact sizes_stop (below_trans hB hb) Hrun.out Hx.out Hs.out
      by_cases h6 : x.f0 ≤ 6
      · have hn : Hid (cnt x.f0 = 1) := by unfold cnt; rw [if_neg h4, if_pos h6]; exact rfl
        rcases ts with _ | ⟨a, ts⟩
        · have hk0 : k ≤ 0 := by rw [← hsz]; simp [sizes]
          have hs : nstep [] x = none := step_bad (.inr (by unfold nParts; rw [if_neg (by omega), if_pos (by omega)]; simp))
          have Hs := Lib.hid hs
          have Hx := Lib.hid hx
          have Hrun := Lib.hid hrun
          clear hx hrun hs hsz
          go_wp2_with (go_at_call 74; refine (count_calls x.f0 _).mono ?_; rw [hn.out]; rintro e w9 ⟨rfl, rfl⟩)
          go_ret3
          exact sizes_stop (by with_reducible repeat (first | exact hB | apply below_alloc)) Hrun.out Hx.out Hs.out
        · have hap1 := a.size_pos
          have hds := a.depth_le_size
          have hsa : sizes (a :: ts) = sizes ts + a.size := rfl
          have hstep := step_B (a := a) (ts := ts) h4 h6
          rw [hsz] at hstep
          obtain ⟨o1, o2, o3⟩ := hok
          rw [hsz] at o1 o2
          obtain ⟨As, ns, rfl, _, _⟩ := own_slice hst
          obtain ⟨Ad, nd, rfl, _, _⟩ := own_slice hdp
          obtain ⟨g1, rfl, q1⟩ := row_at hst o1
          obtain ⟨g2, rfl, q2⟩ := row_at hdp o2
          have hk1 : 1 ≤ k := by omega
          have ha1 : a.size ≤ k := by omega
          clear o1 o2
          have hok := o3
          clear o3 hsa
          have Hstep := Lib.hid hstep
          have Hx := Lib.hid hx
          have Hrun := Lib.hid hrun
          have Hsz := Lib.hid hsz
          have Hok := Lib.hid hok
          clear hstep hx hrun hsz hok
          cases hrb : rightB x ((k : Int) - 1) (0) with
          | true =>
            have hs := Hstep.out
            rw [hrb, if_pos rfl] at hs
            have Hs := Lib.hid hs
            have Hrb := Lib.hid hrb
            clear hrb hs
            go_wp2_with (first | (go_at_call 74; refine (count_calls x.f0 _).mono ?_; rw [hn.out]; rintro e w9 ⟨rfl, rfl⟩) | (go_at_call 75; refine (right_calls x ((k : Int) - 1) (0) _).mono ?_; rw [Hrb.out]; rintro e w9 ⟨rfl, hb⟩) | (at_builtin; refine app_row (own_below hst hb) (below_trans hB hb) rfl _ _ rfl Tryd.underlying23 infoInt rfl h01 h08 _ (by rfl) _ (by rfl) ?_ rfl (one_int _ _) hb1 (Below.refl _ _) ?_; (rfl); intro v1 w1 hown1 hB1 hg1 hat1) | (at_builtin; refine app_row ((own_below hdp hb).kept hg1 (apart_of hap)) hB1 rfl _ _ rfl Tryd.underlying23 infoInt rfl h01 h08 _ (by rfl) _ (by rfl) ?_ rfl (one_int _ _) hb1 (Below.refl _ _) ?_; (rfl); intro v2 w2 hown2 hB2 hg2 hat2))
            go_roundw
            case rel => exact sizes_next hlt Hx.out Hrun.out Hsz.out Hs.out (by simp [T.size]; omega) (by simp [T.depth]; omega) (own_below hst hb) (own_below hdp hb) hap Hok.out hown1 hat1 hown2 hg2 hat2 hB2
            case measure => simp [intOf]; omega
          | false =>
            have hs := Hstep.out
            rw [hrb, if_neg (by decide)] at hs
            have Hs := Lib.hid hs
            have Hrb := Lib.hid hrb
            clear hrb hs
            go_wp2_with (first | (go_at_call 74; refine (count_calls x.f0 _).mono ?_; rw [hn.out]; rintro e w9 ⟨rfl, rfl⟩) | (go_at_call 75; refine (right_calls x ((k : Int) - 1) (0) _).mono ?_; rw [Hrb.out]; rintro e w9 ⟨rfl, hb⟩))
            go_ret3
            exact sizes_stop (below_trans hB hb) Hrun.out Hx.out Hs.out
      have hn : Hid (cnt x.f0 = 2) := by unfold cnt; rw [if_neg h4, if_neg h6]; exact rfl
      rcases ts with _ | ⟨b, _ | ⟨a, ts⟩⟩
      · have hk0 : k ≤ 0 := by rw [← hsz]; simp [sizes]
        have hs : nstep [] x = none := by
          by_cases h19 : x.f0 ≤ 19
          · exact step_bad (.inr (by unfold nParts; rw [if_pos (by omega)]; simp))
          · exact step_bad (.inl (by unfold eParts; rw [if_neg (by omega)]; decide))
        have Hs := Lib.hid hs
        have Hx := Lib.hid hx
        have Hrun := Lib.hid hrun
        clear hx hrun hs hsz
        go_wp2_with (go_at_call 74; refine (count_calls x.f0 _).mono ?_; rw [hn.out]; rintro e w9 ⟨rfl, rfl⟩)
        go_ret3
        exact sizes_stop (by with_reducible repeat (first | exact hB | apply below_alloc)) Hrun.out Hx.out Hs.out
      · have hs : nstep [b] x = none := by
          by_cases h19 : x.f0 ≤ 19
          · exact step_bad (.inr (by unfold nParts; rw [if_pos (by omega)]; simp))
          · exact step_bad (.inl (by unfold eParts; rw [if_neg (by omega)]; decide))
        have hsb : k = b.size := by rw [← hsz]; simp [sizes]
        have hbp := b.size_pos
        have hds := b.depth_le_size
        obtain ⟨o1, o2, o3⟩ := hok
        rw [hsz] at o1 o2
        obtain ⟨As, ns, rfl, _, _⟩ := own_slice hst
        obtain ⟨Ad, nd, rfl, _, _⟩ := own_slice hdp
        obtain ⟨g1, rfl, q1⟩ := row_at hst o1
        obtain ⟨g2, rfl, q2⟩ := row_at hdp o2
        rw [← hsb] at q1 hbp
        have hdk : b.depth ≤ k := by omega
        have hfirst : IntKind.i64.wrap ((k : Int) - 1 - k) = -1 := by rw [IntWalk.i64_in _ (by omega)]; omega
        have Hs := Lib.hid hs
        have Hx := Lib.hid hx
        have Hrun := Lib.hid hrun
        clear hx hrun hs hsz hsb o1 o2 o3 hds
        go_wp2_with (go_at_call 74; refine (count_calls x.f0 _).mono ?_; rw [hn.out]; rintro e w9 ⟨rfl, rfl⟩)
        go_ret3
        exact sizes_stop (by with_reducible repeat (first | exact hB | apply below_alloc)) Hrun.out Hx.out Hs.out
      · have hap1 := a.size_pos
        have hbp1 := b.size_pos
        have hda := a.depth_le_size
        have hdb := b.depth_le_size
        have hsa : sizes (b :: a :: ts) = sizes ts + a.size + b.size := rfl
        have hsf : sizes (a :: ts) = k - b.size := by rw [← hsz]; simp [sizes]
        have hstep := step_C (a := a) (b := b) (ts := ts) h6
        rw [hsz] at hstep hsa
        have hfi : ((sizes (a :: ts) : Nat) : Int) - 1 = (k : Int) - 1 - b.size := by rw [hsf]; omega
        rw [hfi] at hstep
        obtain ⟨o1, o2, p1, p2, o3⟩ := hok
        rw [hsz] at o1 o2
        rw [hsf] at p1 p2
        rw [show k - b.size - 1 = k - 1 - b.size by omega] at p1 p2
        obtain ⟨As, ns, rfl, _, _⟩ := own_slice hst
        obtain ⟨Ad, nd, rfl, _, _⟩ := own_slice hdp
        obtain ⟨g1, rfl, q1⟩ := row_at hst o1
        obtain ⟨g2, rfl, q2⟩ := row_at hdp o2
        obtain ⟨g3, e3, q3⟩ := row_at hst p1
        obtain ⟨g4, e4, q4⟩ := row_at hdp p2
        injection e3 with e3
        injection e4 with e4
        injection e3 with e3
        injection e4 with e4
        subst e3 e4
        have hk1 : 1 + b.size + a.size ≤ k + 1 := by omega
        have hf0 : (0 : Int) ≤ (k : Int) - 1 - b.size := by omega
        have hmx : mx (1 + (b.depth : Int)) (1 + (a.depth : Int)) = mx (1 + (b.depth : Int)) (1 + (a.depth : Int)) := rfl
        clear o1 o2 p1 p2 hsf hfi hmx
        have hok := o3
        clear o3 hsa
        have Hstep := Lib.hid hstep
        have Hx := Lib.hid hx
        have Hrun := Lib.hid hrun
        have Hsz := Lib.hid hsz
        have Hok := Lib.hid hok
        clear hstep hx hrun hsz hok
        cases hrb : rightB x ((k : Int) - 1 - b.size) ((k : Int) - 1) with
        | true =>
          have hs := Hstep.out
          rw [hrb, if_pos rfl] at hs
          have Hs := Lib.hid hs
          have Hrb := Lib.hid hrb
          clear hrb hs
          go_wp2_with (first | (go_at_call 74; refine (count_calls x.f0 _).mono ?_; rw [hn.out]; rintro e w9 ⟨rfl, rfl⟩) | (go_at_call 75; refine (right_calls x ((k : Int) - 1 - b.size) ((k : Int) - 1) _).mono ?_; rw [Hrb.out]; rintro e w9 ⟨rfl, hb⟩) | (at_builtin; refine app_row (own_below hst hb) (below_trans hB hb) rfl _ _ rfl Tryd.underlying23 infoInt rfl h01 h08 _ (by rfl) _ (by rfl) ?_ rfl (one_int _ _) hb1 (Below.refl _ _) ?_; (rfl); intro v1 w1 hown1 hB1 hg1 hat1) | (at_builtin; refine app_row ((own_below hdp hb).kept hg1 (apart_of hap)) hB1 rfl _ _ rfl Tryd.underlying23 infoInt rfl h01 h08 _ (by rfl) _ (by rfl) ?_ rfl (one_int _ _) hb1 (Below.refl _ _) ?_; (rfl); intro v2 w2 hown2 hB2 hg2 hat2))
          go_roundw
          case rel => exact sizes_next hlt Hx.out Hrun.out Hsz.out Hs.out (by simp [T.size]; omega) (by simp only [T.depth, mx]; split <;> omega) (own_below hst hb) (own_below hdp hb) hap Hok.out hown1 hat1 hown2 hg2 hat2 hB2
          case measure => simp [intOf]; omega
        | false =>
          have hs := Hstep.out
          rw [hrb, if_neg (by decide)] at hs
          have Hs := Lib.hid hs
          have Hrb := Lib.hid hrb
          clear hrb hs
          go_wp2_with (first | (go_at_call 74; refine (count_calls x.f0 _).mono ?_; rw [hn.out]; rintro e w9 ⟨rfl, rfl⟩) | (go_at_call 75; refine (right_calls x ((k : Int) - 1 - b.size) ((k : Int) - 1) _).mono ?_; rw [Hrb.out]; rintro e w9 ⟨rfl, hb⟩))
          go_ret3
          exact sizes_stop (below_trans hB hb) Hrun.out Hx.out Hs.out
    · obtain rfl : k = l.length := by omega
      rw [List.take_length] at hrun
      obtain ⟨As, ns, rfl, _, _⟩ := own_slice hst
      obtain ⟨Ad, nd, rfl, _, _⟩ := own_slice hdp
      rcases ts with _ | ⟨t, ts⟩
      · have hl0 : l.length = 0 := hsz.symm
        have d0 : decide (0 < l.length) = false := decide_eq_false (by omega)
        have d1 : decide ((0 : Int) < (l.length : Int)) = false := decide_eq_false (by omega)
        have Hrun := Lib.hid hrun
        clear hrun hok hsz hl0
        go_wp2
        go_quiet (fail)
        go_wp2
        go_ret3
        exact ⟨by with_reducible repeat (first | exact hB | apply below_alloc | apply drewN_below), _, _, false, rfl, by simp, fun _ t ht => by rw [Hrun.out] at ht; cases ht⟩
      · obtain ⟨o1, o2, o3⟩ := hok
        have hp := t.size_pos
        have hts : sizes (t :: ts) = sizes ts + t.size := rfl
        rw [hsz] at o1 o2
        obtain ⟨g1, rfl, q1⟩ := row_at hst o1
        obtain ⟨g2, rfl, q2⟩ := row_at hdp o2
        have hpos : 0 < l.length := by omega
        have d0 : decide (0 < l.length) = true := decide_eq_true hpos
        have d1 : decide ((0 : Int) < (l.length : Int)) = true := decide_eq_true (by omega)
        have hw := wrap_sub (n := l.length) (k := 1) (by omega) (by omega)
        have Hrun := Lib.hid hrun
        have Hsz := Lib.hid hsz
        have Hts := Lib.hid hts
        clear hrun hsz hts o1 o2 o3
        go_wp2
        go_quiet (fail)
        go_wp2
        go_ret3
        refine ⟨by with_reducible repeat (first | exact hB | apply below_alloc | apply drewN_below), _, _, _, rfl, fun hb => ?_, fun hb t' ht' => ?_⟩
        · rw [beq_iff_eq] at hb
          have h1 := Hts.out
          rw [Hsz.out] at h1
          have h2 : ts = [] := by
            rcases ts with _ | ⟨u, ts⟩
            · rfl
            · have := u.size_pos
              have h3 : sizes (u :: ts) = sizes ts + u.size := rfl
              omega
          subst h2
          exact ⟨t, g2, nd, Hrun.out, rfl, by simpa using q2⟩
        · rw [beq_eq_false_iff_ne] at hb
          rw [Hrun.out] at ht'
          injection ht' with ht'
          injection ht' with h1 h2
          subst h2
          have h1 := Hts.out
          rw [Hsz.out] at h1
          simp only [sizes] at h1
          omega
/-! ### Check -/
set_option maxHeartbeats 1000000 in
theorem check04_calls (A : Option Addr) (c : Nat) (l : List Nd) (w : World) (hr : RdN w A l) : Calls Tryd.prog 47 #[.slice A l.length c] w fun e w' => e = .returned (.int .i64 (chk l)) ∧ Below w.heap.size w w' := by
  by_cases h60 : 60 < l.length
  · have d1 : decide (60 < l.length) = true := decide_eq_true h60
    have e1 : Hid (chk l = 4) := by unfold chk; rw [if_pos h60]; exact rfl
    go_enter Tryd.func47, Tryd.ntmps47
    go_wp2
    go_ret
    exact ⟨ret_int e1.out.symm, Below.refl _ _⟩
  · have d1 : decide (60 < l.length) = false := decide_eq_false h60
    go_enter Tryd.func47, Tryd.ntmps47
    go_wp2_with fail
    refine (sizes_calls A c l (by omega) _ hr).mono ?_
    rintro e w1 ⟨hB, v1, v2, b, rfl, hyes, hno⟩
    cases b with
    | false =>
      have e1 : Hid (chk l = 8) := by
        unfold chk
        rw [if_neg h60]
        split
        · rename_i t ht; exact absurd ht (hno rfl t)
        · exact rfl
      clear hno hyes
      go_wp2
      go_ret
      exact ⟨ret_int e1.out.symm, hB⟩
    | true =>
      obtain ⟨t, g, c', hrun, rfl, hcell⟩ := hyes rfl
      clear hno hyes
      have hpos : 0 < l.length := by
        rcases l with _ | ⟨x, l⟩
        · cases hrun
        · simp
      have e1 : chk l = if 20 < t.depth then 34 else 0 := by unfold chk; rw [if_neg h60, hrun]
      have hw : IntKind.i64.wrap ((l.length : Int) - 1) = ((l.length - 1 : Nat) : Int) := by rw [IntWalk.i64_in _ (by omega)]; omega
      have E1 := Lib.hid e1
      clear e1 hrun
      go_wp2
      all_goals
        go_ret
        refine ⟨ret_int ?_, hB⟩
        rw [E1.out]
        first | rw [if_pos (by omega)] | rw [if_neg (by omega)]
end Go.Proofs.YthijjpbkpmojbaaDoor
