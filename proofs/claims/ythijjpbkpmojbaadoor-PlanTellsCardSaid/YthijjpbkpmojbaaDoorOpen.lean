import Derived.Test.YthijjpbkpmojbaaDoorSame
import Derived.Deep.Slices
import Derived.Deep.Fields
import Derived.ChangeSame
import Derived.ChangeArms
import Derived.ChangeSlices
/-! What comes in as data: lists of nodes, of whole numbers, queries. -/
namespace Go.Proofs.YthijjpbkpmojbaaDoor
open Go.RowKit Tw Go.ChangeShapes Go.WideShapes
set_option linter.unusedVariables false
set_option linter.unusedSimpArgs false
theorem list_of {α : Type} {P : Nat → α → Prop} : ∀ n, (∀ i, i < n → ∃ x, P i x) → ∃ l : List α, l.length = n ∧ ∀ i x, l[i]? = some x → P i x
  | 0, _ => ⟨[], rfl, by intro i x h; simp at h⟩
  | n + 1, h => by
    obtain ⟨l, hl, hp⟩ := list_of n (fun i hi => h i (by omega))
    obtain ⟨x, hx⟩ := h n (by omega)
    refine ⟨l ++ [x], by simp [hl], fun i y hy => ?_⟩
    rcases Nat.lt_or_ge i n with hi | hi
    · rw [List.getElem?_append_left (by omega)] at hy
      exact hp i y hy
    · rw [List.getElem?_append_right (by omega), hl] at hy
      have : i = n := by
        have := (List.getElem?_eq_some_iff.1 hy).1
        simp at this
        omega
      subst this
      simp at hy
      rw [← hy]; exact hx
def I64 (n : Int) : Prop := -9223372036854775808 ≤ n ∧ n ≤ 9223372036854775807
def U8 (n : Int) : Prop := 0 ≤ n ∧ n ≤ 255
theorem i64_of {n : Int} (h : (Lit.int .i64 n).wf = true) : I64 n := by
  have hmin : IntKind.i64.min = -9223372036854775808 := rfl
  have hmax : IntKind.i64.max = 9223372036854775807 := rfl
  simp only [Lit.wf, Bool.and_eq_true, decide_eq_true_eq] at h
  unfold I64; omega
theorem u8_of {n : Int} (h : (Lit.int .u8 n).wf = true) : U8 n := by
  have hmin : IntKind.u8.min = 0 := rfl
  have hmax : IntKind.u8.max = 255 := rfl
  simp only [Lit.wf, Bool.and_eq_true, decide_eq_true_eq] at h
  unfold U8; omega
structure NdWf (x : Nd) : Prop where
  w0 : U8 x.f0
  w1 : I64 x.f1
  w2 : I64 x.f2
  w3 : I64 x.f3
  w4 : I64 x.f4
theorem add_pos (b : Addr) {j : Nat} (hj : 0 < j) : b.add j = ⟨b.block, b.off + j, none⟩ := by unfold Addr.add; rw [if_neg (by omega)]
section
variable {H : Type} {enc : TypeId × Value → H} {w : World} {base : Nat} {spare : Nat → Bool} {held : Bool} {fuel : Nat} {cs : List Value} {x : DataW H × List MemPlace}
set_option maxRecDepth 100000 in
theorem open_node (h : DataW.trod enc Tryd.prog w base spare held fuel 50 cs = some x) : ∃ nd : Nd, cs = ndc nd ∧ NdWf nd := by
  obtain ⟨ys, n, _, _, hlen, _, hf⟩ := DataW.trod_struct Tryd.underlying50 h
  have hl5 : cs.length = 5 := hlen
  match cs, hl5 with
  | [c0, c1, c2, c3, c4], _ =>
    have k0 := hf 0 _ rfl
    have k1 := hf 1 _ rfl
    have k2 := hf 2 _ rfl
    have k3 := hf 3 _ rfl
    have k4 := hf 4 _ rfl
    have hys : ys.length = 5 := by assumption
    match ys, hys with
    | [y0, y1, y2, y3, y4], _ =>
      obtain ⟨n0, e0, _, w0⟩ := DataW.trod_int Tryd.underlying5 (x := y0) (cs := [c0]) k0
      obtain ⟨n1, e1, _, w1⟩ := DataW.trod_int Tryd.underlying2 (x := y1) (cs := [c1]) k1
      obtain ⟨n2, e2, _, w2⟩ := DataW.trod_int Tryd.underlying3 (x := y2) (cs := [c2]) k2
      obtain ⟨n3, e3, _, w3⟩ := DataW.trod_int Tryd.underlying3 (x := y3) (cs := [c3]) k3
      obtain ⟨n4, e4, _, w4⟩ := DataW.trod_int Tryd.underlying3 (x := y4) (cs := [c4]) k4
      injection e0 with e0
      injection e1 with e1
      injection e2 with e2
      injection e3 with e3
      injection e4 with e4
      subst e0 e1 e2 e3 e4
      exact ⟨⟨n0, n1, n2, n3, n4⟩, rfl, u8_of w0, i64_of w1, i64_of w2, i64_of w3, i64_of w4⟩
set_option maxRecDepth 100000 in
theorem open_nodes (h : DataW.trod enc Tryd.prog w base spare held fuel 22 cs = some x) :
    ∃ (A : Option Addr) (c : Nat) (l : List Nd), cs = [.slice A l.length c] ∧ RdN w A l ∧ l.length ≤ c ∧ (A = none → l.length = 0 ∧ c = 0) ∧ ∀ y ∈ l, NdWf y := by
  rcases Go.Deep.open_slice Tryd.underlying22 h with ⟨hcs, _⟩ | ⟨a, len, cap, m, n, D, Pl, hcs, hb, hl, hm, hmm, hx, hi⟩
  · exact ⟨none, 0, [], hcs, ⟨by simp, fun hp => by simp at hp⟩, Nat.le_refl _, fun _ => ⟨rfl, rfl⟩, by simp⟩
  · have key : ∀ i, i < len → ∃ nd, NdAt w (a.add (i * 5)) nd ∧ NdWf nd := by
      intro i hlt
      obtain ⟨cs', hc, ht⟩ := hi i (by rw [hmm]; split <;> omega)
      obtain ⟨nd, rfl, hwf⟩ := open_node ht
      have hC : Tryd.prog.cellsOf 50 = 5 := by kernel_rfl
      rw [hC] at hc
      obtain ⟨_, _, hat⟩ := World.cells?_some hc
      have c0 : w.cell? (a.add (i * 5)) = some (.int .u8 nd.f0) := hat 0 (by omega)
      have g : ∀ j v, j < 5 → 0 < j → (ndc nd)[j]? = some v → w.cell? ⟨(a.add (i * 5)).block, (a.add (i * 5)).off + j, none⟩ = some v := by
        intro j v hj hp hv
        have := hat j (by omega)
        rw [hv] at this
        rw [add_pos _ hp] at this
        exact this
      exact ⟨nd, ⟨c0, g 1 _ (by omega) (by omega) rfl, g 2 _ (by omega) (by omega) rfl, g 3 _ (by omega) (by omega) rfl, g 4 _ (by omega) (by omega) rfl⟩, hwf⟩
    obtain ⟨l, rfl, hp⟩ := list_of len key
    refine ⟨some a, cap, l, hcs, ⟨by unfold maxLen at hm; omega, fun _ => ⟨a, rfl, fun j y hj => (hp j y hj).1⟩⟩, hl, (fun e => by cases e), fun y hy => ?_⟩
    obtain ⟨j, hj⟩ := List.getElem?_of_mem hy
    exact (hp j y hj).2
set_option maxRecDepth 100000 in
theorem open_ints' (h : DataW.trod enc Tryd.prog w base spare held fuel 23 cs = some x) :
    ∃ (A : Option Addr) (c : Nat) (l : List Int), cs = [.slice A l.length c] ∧ RdI w A l ∧ l.length ≤ c ∧ (A = none → l.length = 0 ∧ c = 0) ∧ ∀ y ∈ l, I64 y := by
  rcases open_ints Tryd.underlying23 Tryd.underlying3 (by kernel_rfl) h with ⟨hcs, _⟩ | ⟨a, len, cap, zs, hcs, _, hl, hm, hz, _, hcell, hwz⟩
  · exact ⟨none, 0, [], hcs, ⟨by simp, fun hp => by simp at hp⟩, Nat.le_refl _, fun _ => ⟨rfl, rfl⟩, by simp⟩
  · have hle : len ≤ zs.length := by rw [hz]; split <;> omega
    have hlen : (zs.take len).length = len := by rw [List.length_take]; omega
    refine ⟨some a, cap, zs.take len, by rw [hlen]; exact hcs, ⟨by rw [hlen]; unfold maxLen at hm; omega, fun _ => ⟨a, rfl, fun j y hj => ?_⟩⟩, by omega, (fun e => by cases e), fun y hy => i64_of (hwz y (List.mem_of_mem_take hy))⟩
    have hj' : zs[j]? = some y := by rw [List.getElem?_take] at hj; split at hj; exact hj; cases hj
    have := hcell j (List.getElem?_eq_some_iff.1 hj').1
    rw [List.getD_eq_getElem?_getD, hj'] at this
    exact this
end
structure QWf (q : Qr) : Prop where
  ag : U8 q.ag
  arg : ∀ y ∈ q.arg, NdWf y
  src : ∀ y ∈ q.src, I64 y
  wh : ∀ y ∈ q.wh, NdWf y
  wk : U8 q.wk
  ws : I64 q.ws
  we : I64 q.we
  lt : U8 q.lt
set_option maxRecDepth 100000 in
theorem open_query {H : Type} {enc : TypeId × Value → H} {w : World} {base : Nat} {spare : Nat → Bool} {held : Bool} {r : Reach} {b0 : Nat} {v : Value} {d : DataW H} {p : List MemPlace} (hv : Value.okWide Tryd.prog w r b0 27 v)
    (h : DataW.Trod enc Tryd.prog w base spare held 27 v d p) : ∃ (pa : QAt) (q : Qr), v = qval pa q ∧ RdQ w pa q ∧ NilQ pa q ∧ QWf q := by
  obtain ⟨cs, rfl, hsz⟩ := okWide_struct Tryd.underlying27 hv
  obtain ⟨l⟩ := cs
  have hl10 : l.length = 10 := hsz
  match l, hl10 with
  | [c0, c1, c2, c3, c4, c5, c6, c7, c8, c9], _ =>
    obtain ⟨fuel, hf0⟩ := h
    obtain ⟨ys, n, _, _, _, hys, hf⟩ := DataW.trod_struct Tryd.underlying27 hf0
    have hys8 : ys.length = 8 := hys
    match ys, hys8 with
    | [y0, y1, y2, y3, y4, y5, y6, y7], _ =>
      obtain ⟨n0, e0, _, w0⟩ := DataW.trod_int Tryd.underlying5 (x := y0) (cs := [c0]) (hf 0 _ rfl)
      obtain ⟨a1, d1, l1, e1, r1, g1, z1, x1⟩ := open_nodes (x := y1) (cs := [c1]) (hf 1 _ rfl)
      obtain ⟨a2, d2, l2, e2, r2, g2, z2, x2⟩ := open_ints' (x := y2) (cs := [c2]) (hf 2 _ rfl)
      obtain ⟨n3, e3, _⟩ := DataW.trod_bool Tryd.underlying4 (x := y3) (cs := [c3]) (hf 3 _ rfl)
      obtain ⟨a4, d4, l4, e4, r4, g4, z4, x4⟩ := open_nodes (x := y4) (cs := [c4]) (hf 4 _ rfl)
      obtain ⟨us, m, _, _, _, hus, hg⟩ := DataW.trod_struct Tryd.underlying25 (x := y5) (cs := [c5, c6, c7]) (hf 5 _ rfl)
      obtain ⟨n8, e8, _⟩ := DataW.trod_bool Tryd.underlying4 (x := y6) (cs := [c8]) (hf 6 _ rfl)
      obtain ⟨n9, e9, _, w9⟩ := DataW.trod_int Tryd.underlying5 (x := y7) (cs := [c9]) (hf 7 _ rfl)
      have hus3 : us.length = 3 := hus
      match us, hus3 with
      | [u0, u1, u2], _ =>
        obtain ⟨n5, e5, _, w5⟩ := DataW.trod_int Tryd.underlying5 (x := u0) (cs := [c5]) (hg 0 _ rfl)
        obtain ⟨n6, e6, _, w6⟩ := DataW.trod_int Tryd.underlying2 (x := u1) (cs := [c6]) (hg 1 _ rfl)
        obtain ⟨n7, e7, _, w7⟩ := DataW.trod_int Tryd.underlying2 (x := u2) (cs := [c7]) (hg 2 _ rfl)
        injection e0 with e0
        injection e1 with e1
        injection e2 with e2
        injection e3 with e3
        injection e4 with e4
        injection e5 with e5
        injection e6 with e6
        injection e7 with e7
        injection e8 with e8
        injection e9 with e9
        subst e0 e1 e2 e3 e4 e5 e6 e7 e8 e9
        exact ⟨⟨a1, d1, a2, d2, a4, d4⟩, ⟨n0, l1, l2, n3, l4, n5, n6, n7, n8, n9⟩, rfl, ⟨r1, r2, r4, g1, g2, g4⟩, ⟨z1, z2, z4⟩, u8_of w0, x1, x2, x4, u8_of w5, i64_of w6, i64_of w7, u8_of w9⟩
end Go.Proofs.YthijjpbkpmojbaaDoor
