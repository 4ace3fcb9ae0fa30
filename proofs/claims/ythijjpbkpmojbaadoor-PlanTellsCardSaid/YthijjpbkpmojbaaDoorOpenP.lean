import Derived.Test.YthijjpbkpmojbaaDoorLawP
/-! What comes in as data: a plan; the library's tables as laid. -/
namespace Go.Proofs.YthijjpbkpmojbaaDoor
open Go.RowKit Tw Go.ChangeShapes Go.WideShapes
set_option linter.unusedVariables false
set_option linter.unusedSimpArgs false
section
variable {H : Type} {enc : TypeId × Value → H} {w : World} {base : Nat} {spare : Nat → Bool} {held : Bool} {fuel : Nat} {cs : List Value} {x : DataW H × List MemPlace}
set_option maxRecDepth 100000 in
theorem open_bytes' (h : DataW.trod enc Tryd.prog w base spare held fuel 28 cs = some x) :
    ∃ (A : Option Addr) (c : Nat) (l : List Int), cs = [.slice A l.length c] ∧ RdU w A l ∧ ∀ y ∈ l, U8 y := by
  rcases open_ints Tryd.underlying28 Tryd.underlying5 (by kernel_rfl) h with ⟨hcs, _⟩ | ⟨a, len, cap, zs, hcs, _, hl, hm, hz, _, hcell, hwz⟩
  · exact ⟨none, 0, [], hcs, ⟨by simp, fun hp => by simp at hp⟩, by simp⟩
  · have hle : len ≤ zs.length := by rw [hz]; split <;> omega
    have hlen : (zs.take len).length = len := by rw [List.length_take]; omega
    refine ⟨some a, cap, zs.take len, by rw [hlen]; exact hcs, ⟨by rw [hlen]; unfold maxLen at hm; omega, fun _ => ⟨a, rfl, fun j y hj => ?_⟩⟩, fun y hy => u8_of (hwz y (List.mem_of_mem_take hy))⟩
    have hj' : zs[j]? = some y := by rw [List.getElem?_take] at hj; split at hj; exact hj; cases hj
    have := hcell j (List.getElem?_eq_some_iff.1 hj').1
    rw [List.getD_eq_getElem?_getD, hj'] at this
    exact this
set_option maxRecDepth 100000 in
theorem open_queryC (h : DataW.trod enc Tryd.prog w base spare held fuel 27 cs = some x) : ∃ (pa : QAt) (q : Qr), cs = [.int .u8 q.ag, .slice pa.a1 q.arg.length pa.c1, .slice pa.a2 q.src.length pa.c2, .bool q.jn, .slice pa.a4 q.wh.length pa.c4, .int .u8 q.wk, .int .i64 q.ws, .int .i64 q.we, .bool q.bk, .int .u8 q.lt] ∧ RdQ w pa q ∧ NilQ pa q ∧ QWf q := by
  obtain ⟨ys, n, _, _, hlen, hys, hf⟩ := DataW.trod_struct Tryd.underlying27 h
  have hl10 : cs.length = 10 := hlen
  match cs, hl10 with
  | [c0, c1, c2, c3, c4, c5, c6, c7, c8, c9], _ =>
    have hys8 : ys.length = 8 := hys
    match ys, hys8 with
    | [y0, y1, y2, y3, y4, y5, y6, y7], _ =>
      obtain ⟨n0, e0, _, w0⟩ := DataW.trod_int Tryd.underlying5 (x := y0) (cs := [c0]) (hf 0 _ rfl)
      obtain ⟨a1, d1, l1, e1, r1, g1, z1, x1⟩ := open_nodes (x := y1) (cs := [c1]) (hf 1 _ rfl)
      obtain ⟨a2, d2, l2, e2, r2, g2, z2, x2⟩ := open_ints' (x := y2) (cs := [c2]) (hf 2 _ rfl)
      obtain ⟨n3, e3, _⟩ := DataW.trod_bool Tryd.underlying4 (x := y3) (cs := [c3]) (hf 3 _ rfl)
      obtain ⟨a4, d4, l4, e4, r4, g4, z4, x4⟩ := open_nodes (x := y4) (cs := [c4]) (hf 4 _ rfl)
      obtain ⟨us, m, _, _, _, hus, hg⟩ := DataW.trod_struct Tryd.underlying25 (x := y5) (cs := [c5, c6, c7]) (hf 5 _ rfl)
      obtain ⟨n8, e8, _⟩ := DataW.trod_bool Tryd.underlying4 (x := y6) (cs := [c8]) (hf 6 _ rfl)
      obtain ⟨n9, e9, _, w9⟩ := DataW.trod_int Tryd.underlying5 (x := y7) (cs := [c9]) (hf 7 _ rfl)
      have hus3 : us.length = 3 := hus
      match us, hus3 with
      | [u0, u1, u2], _ =>
        obtain ⟨n5, e5, _, w5⟩ := DataW.trod_int Tryd.underlying5 (x := u0) (cs := [c5]) (hg 0 _ rfl)
        obtain ⟨n6, e6, _, w6⟩ := DataW.trod_int Tryd.underlying2 (x := u1) (cs := [c6]) (hg 1 _ rfl)
        obtain ⟨n7, e7, _, w7⟩ := DataW.trod_int Tryd.underlying2 (x := u2) (cs := [c7]) (hg 2 _ rfl)
        injection e0 with e0
        injection e1 with e1
        injection e2 with e2
        injection e3 with e3
        injection e4 with e4
        injection e5 with e5
        injection e6 with e6
        injection e7 with e7
        injection e8 with e8
        injection e9 with e9
        subst e0 e1 e2 e3 e4 e5 e6 e7 e8 e9
        exact ⟨⟨a1, d1, a2, d2, a4, d4⟩, ⟨n0, l1, l2, n3, l4, n5, n6, n7, n8, n9⟩, rfl, ⟨r1, r2, r4, g1, g2, g4⟩, ⟨z1, z2, z4⟩, u8_of w0, x1, x2, x4, u8_of w5, i64_of w6, i64_of w7, u8_of w9⟩
end
set_option maxRecDepth 100000 in
theorem open_plan {H : Type} {enc : TypeId × Value → H} {w : World} {base : Nat} {spare : Nat → Bool} {held : Bool} {r : Reach} {b0 : Nat} {v : Value} {d : DataW H} {p : List MemPlace} (hv : Value.okWide Tryd.prog w r b0 30 v)
    (h : DataW.Trod enc Tryd.prog w base spare held 30 v d p) : ∃ (S : Option Addr) (st : List Int) (c : Nat) (pa : QAt) (q : Qr), v = planval S st.length c pa q ∧ RdU w S st ∧ (∀ y ∈ st, U8 y) ∧ RdQ w pa q ∧ QWf q := by
  obtain ⟨cs, rfl, hsz⟩ := okWide_struct Tryd.underlying30 hv
  obtain ⟨l⟩ := cs
  have hl11 : l.length = 11 := hsz
  match l, hl11 with
  | [c0, c1, c2, c3, c4, c5, c6, c7, c8, c9, c10], _ =>
    obtain ⟨fuel, hf0⟩ := h
    obtain ⟨ys, n, _, _, _, hys, hf⟩ := DataW.trod_struct Tryd.underlying30 hf0
    have hys2 : ys.length = 2 := hys
    match ys, hys2 with
    | [y0, y1], _ =>
      obtain ⟨S, c, st, e0, hS, hu⟩ := open_bytes' (x := y0) (cs := [c0]) (hf 0 _ rfl)
      obtain ⟨pa, q, e1, hr, _, hw⟩ := open_queryC (x := y1) (cs := [c1, c2, c3, c4, c5, c6, c7, c8, c9, c10]) (hf 1 _ rfl)
      injection e0 with e0
      simp only [List.cons.injEq, and_true] at e1
      obtain ⟨e1, e2, e3, e4, e5, e6, e7, e8, e9, e10⟩ := e1
      subst e0 e1 e2 e3 e4 e5 e6 e7 e8 e9 e10
      exact ⟨S, st, c, pa, q, rfl, hS, hu, hr, hw⟩
end Go.Proofs.YthijjpbkpmojbaaDoor
