import Derived.Test.YthijjpbkpmojbaaDoorNum
import Derived.Deep.RegionHeld3
/-! printer.write: an expression's text into a builder. -/
namespace Go.Proofs.YthijjpbkpmojbaaDoor
open Go.RowKit Tw
set_option linter.unusedVariables false
set_option linter.unusedSimpArgs false
/-- A kind's sign. -/
def sgB (k : Int) : List UInt8 := if k ≤ 6 then unB k else opB k
def strV (l : List UInt8) : Value := .string ⟨l.toArray⟩
def opCells : Array Value := #[strV [45], .int .i64 8, strV [110, 111, 116, 32], .int .i64 3, strV [32, 42, 32], .int .i64 7, strV [32, 43, 32], .int .i64 6, strV [32, 45, 32], .int .i64 6, strV [32, 60, 60, 32], .int .i64 5, strV [32, 62, 62, 32], .int .i64 5, strV [32, 60, 32], .int .i64 4, strV [32, 60, 61, 32], .int .i64 4, strV [32, 62, 32], .int .i64 4, strV [32, 62, 61, 32], .int .i64 4, strV [32, 61, 32], .int .i64 4, strV [32, 33, 61, 32], .int .i64 4, strV [32, 97, 110, 100, 32], .int .i64 2, strV [32, 111, 114, 32], .int .i64 1]
theorem op_cell (k : Int) (h : 5 ≤ k) (h' : k ≤ 19) : opCells[(k - 5).toNat * 2]? = some (.string ⟨(sgB k).toArray⟩) ∧ opCells[(k - 5).toNat * 2 + 1]? = some (.int .i64 (lineK k : Int)) := by
  obtain ⟨j, rfl⟩ : ∃ j : Nat, k = 5 + j := ⟨(k - 5).toNat, by omega⟩
  have hj : j < 15 := by omega
  have : j = 0 ∨ j = 1 ∨ j = 2 ∨ j = 3 ∨ j = 4 ∨ j = 5 ∨ j = 6 ∨ j = 7 ∨ j = 8 ∨ j = 9 ∨ j = 10 ∨ j = 11 ∨ j = 12 ∨ j = 13 ∨ j = 14 := by omega
  rcases this with rfl | rfl | rfl | rfl | rfl | rfl | rfl | rfl | rfl | rfl | rfl | rfl | rfl | rfl | rfl <;> exact ⟨rfl, rfl⟩
def OpsPost (w : World) (e : Ending) (w' : World) : Prop := ∃ ad : Addr, e = .returned (.slice (some ad) 15 15) ∧ ad.block = w.heap.size ∧ w' = w.alloc (.cells opCells 117) ∧
  ∀ k : Int, 5 ≤ k → k ≤ 19 → w'.cell? (ad.add ((k - 5).toNat * 2)) = some (.string ⟨(sgB k).toArray⟩) ∧ w'.cell? ⟨(ad.add ((k - 5).toNat * 2)).block, (ad.add ((k - 5).toNat * 2)).off + 1, none⟩ = some (.int .i64 (lineK k : Int))
set_option maxHeartbeats 1000000 in
set_option maxRecDepth 100000 in
theorem operators_calls (w : World) : Calls Tryd.prog 66 #[] w (OpsPost w) := by
  go_enter Tryd.func66, Tryd.ntmps66
  go_wp2_with fail
  go_ret
  refine ⟨⟨w.heap.size, 0, none⟩, rfl, rfl, rfl, fun k h h' => ?_⟩
  have hB := Bx.new w 117 opCells
  have hk := op_cell k h h'
  rw [add_plain]
  exact ⟨hB.cell _ _ hk.1, hB.cell _ _ hk.2⟩
theorem Bu.lt {B b : Nat} {l : List UInt8} {w : World} (h : Bu B b l w) : B ≤ b ∧ b < w.heap.size := by
  rcases h with h | h <;> exact ⟨h.1, by obtain ⟨_, v, hb, _⟩ := h; exact lt_of_block hb⟩
theorem Bx.others {w w1 : World} {b c : Nat} {t : TypeId} {cs : Array Value} (h : Bx w b t cs) (hk : Lib.OthersKept TU (some c) w w1) (hne : b ≠ c) (ht : t ≠ TU) : Bx w1 b t cs :=
  hk b _ h (fun e => hne (Option.some.inj e)) (fun _ _ e => by injection e with _ e; exact ht e)
theorem Bu.below {B b : Nat} {l : List UInt8} {w w1 : World} (h : Bu B b l w) (hb : Below w.heap.size w w1) : Bu B b l w1 := by
  have key : ∀ p, Lib.BuilderAtF TB TU B b p (Lib.byteCells l) w → Lib.BuilderAtF TB TU B b p (Lib.byteCells l) w1 := by
    intro p h
    have hlt := h.lt
    obtain ⟨hB, v, hv, hown, hne⟩ := h
    exact ⟨hB, v, (hb.block b hlt).trans hv, hown.kept (row := none) ⟨hb.os, hb.tape, hb.output, hb.size, fun k hk _ => hb.block k hk⟩ (Classical.em _), hne⟩
  exact h.elim (fun x => .inl (key _ x)) (fun x => .inr (key _ x))
theorem Bu.alloc {B b : Nat} {l : List UInt8} {w : World} (h : Bu B b l w) (o : Obj) : Bu B b l (w.alloc o) := Lib.IsBuilderF.alloc h o
theorem others_below {w w1 : World} {c : Option Nat} (h : Below w.heap.size w w1) : Lib.OthersKept TU c w w1 := fun k o hk _ _ => (h.block k (lt_of_block hk)).trans hk
theorem Wrote.bu {B b : Nat} {l : List UInt8} {w w1 : World} (h : Wrote B b l w w1) : Bu B b l w1 := h.1
/-- What ways do one behind the other. -/
theorem Wrote.then {B b : Nat} {l l' : List UInt8} {w w1 w2 : World} (h : Wrote B b l w w1) (k : Wrote B b l' w1 w2) : Wrote B b l' w w2 := ⟨k.1, h.2.1.trans k.2.1, h.2.2.trans k.2.2⟩
theorem Wrote.pre {B b : Nat} {l' : List UInt8} {w w1 w2 : World} (hB : B ≤ w.heap.size) (h : Below w.heap.size w w1) (k : Wrote B b l' w1 w2) : Wrote B b l' w w2 := ⟨k.1, (Below.mono h hB).trans k.2.1, (others_below h).trans k.2.2⟩
set_option maxHeartbeats 1000000 in
set_option maxRecDepth 100000 in
theorem write_leaf (w0 : World) (A : Option Addr) (c : Nat) (l : List Nd) (hR : RdN w0 A l) (hT : Tab w0) (b : Nat) (k n p : Int) (o : Nat) (least : Int) (bs : List UInt8) (w : World) (hw : Below w0.heap.size w0 w) (hb : Bu w0.heap.size b bs w)
    (ha : AtL l o (.leaf k n p)) (hwf : T.wf (.leaf k n p)) (hfit : T.fit (.leaf k n p)) (hlen : bs.length + 24 ≤ 140737488355328) :
    Calls Tryd.prog 52 #[.pointer (some ⟨b, 0, none⟩), .slice A l.length c, .int .i64 o, .int .i64 least] w fun e w' => e = .returned (.tuple #[]) ∧ Wrote w0.heap.size b (bs ++ leafB k n) w w' := by
  obtain ⟨hl, hR⟩ := hR
  have hlt : o < l.length := (List.getElem?_eq_some_iff.1 ha.leaf).1
  obtain ⟨ad, rfl, hc⟩ := hR (by omega)
  obtain ⟨c0, c1, c2, c3, c4⟩ := (hc o _ ha.leaf).below hw
  obtain ⟨hwf1, hwf2, -, -, -, -⟩ := hwf
  obtain ⟨hf1, hf2⟩ := hfit
  have hob : Hid ((leafB k n).length ≤ 20) := bt_len (.leaf k n p) ⟨hf1, hf2⟩ 0
  have hsz := hw.size
  clear hc ha hR
  have HB := below_alloc (Below.refl w.heap.size w) (.cells #[.int .u8 k, .int .i64 n, .int .i64 0, .int .i64 0, .int .i64 p] 50)
  have hk : k = 1 ∨ k = 2 ∨ k = 3 ∨ k = 4 := by omega
  rcases hk with rfl | rfl | rfl | rfl
  · have hl20 : (Lib.itoa n).length ≤ 20 := itoa_len hf1 hf2
    go_enter_defers Tryd.func52, Tryd.ntmps52
    go_wp2_with (first
      | (go_at_call 64; refine (itext_calls n ⟨hf1, hf2⟩ _ (hT.below (below_trans hw HB))).mono ?_; rintro e w1 ⟨rfl, hb1⟩)
      | (go_at_call 20; refine (wstring_calls w0.heap.size b bs _ _ ((hb.alloc _).below hb1) (by omega) (by have := hb1.size; simp at this; omega)).mono ?_; rintro e w2 ⟨rfl, h2⟩))
    exact ⟨_, results_none rfl _ _ _, rfl, h2.pre hsz (below_trans HB hb1)⟩
  · go_enter_defers Tryd.func52, Tryd.ntmps52
    go_wp2_with (first
      | (go_at_call 65; refine (wbyte_calls w0.heap.size b bs 107 _ (hb.alloc _) (by omega) (by simp; omega)).mono ?_; rintro e w2 ⟨rfl, h2⟩))
    exact ⟨_, results_none rfl _ _ _, rfl, h2.pre hsz HB⟩
  · go_enter_defers Tryd.func52, Tryd.ntmps52
    go_wp2_with (first
      | (go_at_call 65; refine (wbyte_calls w0.heap.size b bs 116 _ (hb.alloc _) (by omega) (by simp; omega)).mono ?_; rintro e w2 ⟨rfl, h2⟩))
    exact ⟨_, results_none rfl _ _ _, rfl, h2.pre hsz HB⟩
  · go_enter_defers Tryd.func52, Tryd.ntmps52
    go_wp2_with (first
      | (go_at_call 65; refine (wbyte_calls w0.heap.size b bs 118 _ (hb.alloc _) (by omega) (by simp; omega)).mono ?_; rintro e w2 ⟨rfl, h2⟩))
    exact ⟨_, results_none rfl _ _ _, rfl, h2.pre hsz HB⟩
/-- What the statement 'op := ..' leaves. -/
def OpBox (W : World) (k : Int) (v : Value) (wx : World) : Prop := ∃ q, v = .pointer (some ⟨q, 0, none⟩) ∧ W.heap.size ≤ q ∧ Bx wx q 117 #[.string ⟨(sgB k).toArray⟩, .int .i64 (lineK k : Int)] ∧ Below W.heap.size W wx
theorem opbox_a {W w1 : World} {k : Int} (h : Below W.heap.size W w1) : OpBox W k (.pointer (some ⟨w1.heap.size, 0, none⟩)) (w1.alloc (.cells #[.string ⟨(sgB k).toArray⟩, .int .i64 (lineK k : Int)] 117)) :=
  ⟨_, rfl, h.size, Bx.new _ _ _, below_alloc h _⟩
theorem opbox_b {W w1 : World} {k : Int} {z0 z1 : Value} (hx : Bx w1 W.heap.size 117 #[z0, z1]) (h : Below W.heap.size W w1) :
    OpBox W k (.pointer (some ⟨W.heap.size, 0, none⟩)) ((w1.setCell ⟨W.heap.size, 0, none⟩ (.string ⟨(sgB k).toArray⟩)).setCell ⟨W.heap.size, 1, none⟩ (.int .i64 (lineK k : Int))) :=
  ⟨_, rfl, Nat.le_refl _, (hx.set 0 _).set 1 _, (h.setCell (p := ⟨W.heap.size, 0, none⟩) (Nat.le_refl _) _).setCell (p := ⟨W.heap.size, 1, none⟩) (Nat.le_refl _) _⟩
theorem below_ops (W : World) (o : Obj) : Below W.heap.size W (W.drew.alloc o) := below_alloc (below_drew (Below.refl _ _)) _
theorem bx_ops (W : World) (cs ds : Array Value) (t u : TypeId) : Bx ((W.drew.alloc (.cells cs t)).alloc (.cells ds u)) W.heap.size t cs := (Bx.new W.drew t cs).alloc _
set_option maxHeartbeats 1000000 in
set_option maxRecDepth 100000 in
theorem write_un (w0 : World) (A : Option Addr) (c : Nat) (l : List Nd) (hR : RdN w0 A l) (hT : Tab w0) (b : Nat) (k p : Int) (a : T)
    (ih : ∀ (o least : Nat) (bs : List UInt8) (w : World), Below w0.heap.size w0 w → Bu w0.heap.size b bs w → AtL l o a → a.wf → a.fit → least ≤ 9 → bs.length + 24 * a.size ≤ 140737488355328 →
      Calls Tryd.prog 52 #[.pointer (some ⟨b, 0, none⟩), .slice A l.length c, .int .i64 ((o : Int) + a.size - 1), .int .i64 least] w fun e w' => e = .returned (.tuple #[]) ∧ Wrote w0.heap.size b (bs ++ bt least a) w w')
    (o least : Nat) (bs : List UInt8) (w : World) (hw : Below w0.heap.size w0 w) (hb : Bu w0.heap.size b bs w)
    (ha : AtL l o (.un k p a)) (hwf : T.wf (.un k p a)) (hfit : T.fit (.un k p a)) (hle : least ≤ 9) (hlen : bs.length + 24 * (T.un k p a).size ≤ 140737488355328) :
    Calls Tryd.prog 52 #[.pointer (some ⟨b, 0, none⟩), .slice A l.length c, .int .i64 ((o : Int) + (T.un k p a).size - 1), .int .i64 least] w fun e w' => e = .returned (.tuple #[]) ∧ Wrote w0.heap.size b (bs ++ bt least (.un k p a)) w w' := by
  obtain ⟨hl, hR⟩ := hR
  obtain ⟨haa, hat⟩ := ha.un
  have hlt := (List.getElem?_eq_some_iff.1 hat).1
  obtain ⟨ad, rfl, hc⟩ := hR (by omega)
  obtain ⟨c0, c1, c2, c3, c4⟩ := (hc _ _ hat).below hw
  obtain ⟨hk, -, -, hwa⟩ := hwf
  have hsz := hw.size
  obtain ⟨m, hm⟩ : ∃ m, o + a.size = m := ⟨_, rfl⟩
  have hm' : (o : Int) + (T.un k p a).size - 1 = m := by simp only [T.size]; omega
  have hx : (o : Int) + a.size - 1 = (m : Int) - 1 := by omega
  rw [hm] at c0 c1 c2 c3 c4 hlt
  simp only at c0 c1 c2 c3 c4
  rw [hx] at c2
  rw [hm']
  have hap := a.size_pos
  have hm1 : 1 ≤ m := by omega
  clear hc ha hR hat hm' 
  have HB := below_alloc (Below.refl w.heap.size w) (.cells #[.int .u8 k, .int .i64 0, .int .i64 ((m : Int) - 1), .int .i64 0, .int .i64 p] 50)
  have HX := Bx.new w 50 #[.int .u8 k, .int .i64 0, .int .i64 ((m : Int) - 1), .int .i64 0, .int .i64 p]
  have HU := hb.alloc (.cells #[.int .u8 k, .int .i64 0, .int .i64 ((m : Int) - 1), .int .i64 0, .int .i64 p] 50)
  have x0 : (w.alloc (.cells #[.int .u8 k, .int .i64 0, .int .i64 ((m : Int) - 1), .int .i64 0, .int .i64 p] 50)).cell? ⟨w.heap.size, 0, none⟩ = some (.int .u8 k) := HX.cell 0 _ rfl
  have hk5 : 5 ≤ k := by omega
  have hk6 : k ≤ 6 := by omega
  have hkw : IntKind.u8.wrap (k - 5) = k - 5 := by simp [IntKind.wrap, IntKind.signed, IntKind.bits]; omega
  have hk0 : (0 : Int) ≤ k - 5 := by omega
  have hk15 : k - 5 < 15 := by omega
  go_enter_defers Tryd.func52, Tryd.ntmps52
  go_wp2_with fail
  generalize w.alloc (.cells #[.int .u8 k, .int .i64 0, .int .i64 ((m : Int) - 1), .int .i64 0, .int .i64 p] 50) = W at *
  go_cut [9] from 11 to 39 (fun v wx => OpBox W k v wx)
  case first =>
    have hlw : w.heap.size < W.heap.size := HX.lt
    have y0 : W.drew.cell? ⟨w.heap.size, 0, none⟩ = some (.int .u8 k) := x0
    have y1 : ∀ o, (W.drew.alloc o).cell? ⟨w.heap.size, 0, none⟩ = some (.int .u8 k) := fun o => cell_below (below_alloc (Below.refl _ _) o) y0
    have y2 : ∀ o o', ((W.drew.alloc o).alloc o').cell? ⟨w.heap.size, 0, none⟩ = some (.int .u8 k) := fun o o' => cell_below (below_alloc (Below.refl _ _) o') (y1 o)
    refine wp_region_noPanic ?_
    go_region_with (first | (go_at_call 66; refine (operators_calls _).mono ?_; rintro e w1 ⟨aop, rfl, -, hw1, hoc⟩; obtain ⟨z0, z1⟩ := hoc k hk5 (by omega); have u0 : w1.cell? ⟨w.heap.size, 0, none⟩ = some (.int .u8 k) := (by rw [hw1]; first | exact y1 _ | exact y2 _ _); have u1 := fun o => cell_below (below_alloc (Below.refl _ _) o) u0; obtain ⟨u2, u3⟩ := bcell (hw1 ▸ below_alloc (Below.refl _ _) _); have hs1 := congrArg (fun w => w.heap.size) hw1; replace hw1 := Lib.hid hw1; replace hs1 := Lib.hid hs1; clear hoc; have z2 := fun o => cell_below (below_alloc (Below.refl _ _) o) z0; have z3 := fun o => cell_below (below_alloc (Below.refl _ _) o) z1))
    all_goals (refine NoPanic.normal ?_; go_wp2_with fail; go_meet)
    all_goals (obtain rfl := hw1.out; clear z0 z1 z2 z3 u0 u1 u2 u3 y0 y1 y2)
    all_goals first
      | exact opbox_a (below_ops W _)
      | exact opbox_b (bx_ops W _ _ _ _) (below_alloc (below_ops W _) _)
      | trace_state
  case rest =>
    obtain ⟨q, rfl, hq, HQ, hbw⟩ := hcut
    have hlw := HX.lt
    have hwc := below_trans (below_trans hw HB) hbw
    have hwW := below_trans HB hbw
    have Xc := HX.below hbw
    have Uc := HU.below hbw
    have hsc := hwc.size
    obtain ⟨hbB, hblt⟩ := hb.lt
    have hqb : q ≠ b := by omega
    have hwb : w.heap.size ≠ b := by omega
    have ih' := ih o
    rw [hx] at ih'
    have hsg : sgB k = unB k := by unfold sgB; rw [if_pos hk6]
    have hul : (unB k).length ≤ 4 := by unfold unB; split <;> simp
    have hL9 : lineK k ≤ 9 := by unfold lineK; (repeat' split) <;> omega
    have hal := bt_len a hfit (lineK k)
    have hBT : Hid (bt least (.un k p a) = brB (decide (lineK k < least)) (unB k ++ bt (lineK k) a)) := rfl
    simp only [T.size] at hlen
    rw [hsg] at HQ
    clear hsg HX HU HB x0 ih hlt c0 c1 c2 c3 c4 hb hw hbw hkw hk0 hk15
    have xc0 := Xc.cell 0 _ rfl
    have xc2 := Xc.cell 2 _ rfl
    have qc0 := HQ.cell 0 _ rfl
    have qc1 := HQ.cell 1 _ rfl
    by_cases hbr : lineK k < least
    · have hbi : (lineK k : Int) < (least : Int) := by omega
      have hE : Hid (bs ++ bt least (.un k p a) = bs ++ [40] ++ unB k ++ bt (lineK k) a ++ [41]) := by rw [hBT.out, decide_eq_true hbr]; simp [brB, Hid]
      rcases hk with rfl | rfl
      all_goals (
        go_wp2_with (first
          | (go_at_call 65; refine (wbyte_calls w0.heap.size b bs 40 _ Uc (by omega) hsc).mono ?_; rintro e w1 ⟨rfl, h1⟩; have hw1 := hwc.trans h1.2.1; have hs1 := hw1.size; have X1 := Xc.others h1.2.2 hwb (by decide); have xe0 := X1.cell 0 _ rfl; have Q1 := HQ.others h1.2.2 hqb (by decide); have qe0 := Q1.cell 0 _ rfl)
          | (go_at_call 20; refine (wstring_calls w0.heap.size b _ _ _ h1.1 (by simp only [List.length_append, List.length_cons, List.length_nil]; omega) hs1).mono ?_; rintro e w2 ⟨rfl, h2⟩; have hw2 := hw1.trans h2.2.1; have X2 := X1.others h2.2.2 hwb (by decide); have xd0 := X2.cell 0 _ rfl; have xd2 := X2.cell 2 _ rfl; have Q2 := Q1.others h2.2.2 hqb (by decide); have qd1 := Q2.cell 1 _ rfl)
          | (go_at_call 52; refine (ih' _ _ _ hw2 h2.1 haa hwa hfit hL9 (by simp only [List.length_append, List.length_cons, List.length_nil]; omega)).mono ?_; rintro e w3 ⟨rfl, h3⟩))
        refine leaves_cons (f := 65) (args := #[.pointer (some ⟨b, 0, none⟩), .int .u8 41]) (by simp) (by simp [go_sem]) ?_
        refine (wbyte_deferred w0.heap.size b _ 41 .returning _ h3.1 (by simp only [List.length_append, List.length_cons, List.length_nil]; omega) (hw2.trans h3.2.1).size).mono ?_
        rintro e u' w4 ⟨rfl, rfl, h4⟩
        refine ⟨_, results_none rfl _ _ _, rfl, ?_⟩
        rw [hE.out]
        exact (((h1.then h2).then h3).then h4).pre hsz hwW)
    · have hbi : ¬ ((lineK k : Int) < (least : Int)) := by omega
      have hE : Hid (bs ++ bt least (.un k p a) = bs ++ unB k ++ bt (lineK k) a) := by rw [hBT.out, decide_eq_false hbr]; simp [brB, Hid]
      rcases hk with rfl | rfl
      all_goals (
        go_wp2_with (first
          | (go_at_call 20; refine (wstring_calls w0.heap.size b bs _ _ Uc (by omega) hsc).mono ?_; rintro e w2 ⟨rfl, h2⟩; have hw2 := hwc.trans h2.2.1; have X2 := Xc.others h2.2.2 hwb (by decide); have xd0 := X2.cell 0 _ rfl; have xd2 := X2.cell 2 _ rfl; have Q2 := HQ.others h2.2.2 hqb (by decide); have qd1 := Q2.cell 1 _ rfl)
          | (go_at_call 52; refine (ih' _ _ _ hw2 h2.1 haa hwa hfit hL9 (by simp only [List.length_append]; omega)).mono ?_; rintro e w3 ⟨rfl, h3⟩))
        refine ⟨_, results_none rfl _ _ _, rfl, ?_⟩
        rw [hE.out]
        exact (h2.then h3).pre hsz hwW)
theorem lvK_le8 {k : Int} : lvK k ≤ 6 := by unfold lvK; (repeat' split) <;> omega
set_option maxHeartbeats 1000000 in
set_option maxRecDepth 100000 in
theorem write_bin (w0 : World) (A : Option Addr) (c : Nat) (l : List Nd) (hR : RdN w0 A l) (hT : Tab w0) (b : Nat) (k p : Int) (t1 t2 : T)
    (ih1 : ∀ (o least : Nat) (bs : List UInt8) (w : World), Below w0.heap.size w0 w → Bu w0.heap.size b bs w → AtL l o t1 → t1.wf → t1.fit → least ≤ 9 → bs.length + 24 * t1.size ≤ 140737488355328 →
      Calls Tryd.prog 52 #[.pointer (some ⟨b, 0, none⟩), .slice A l.length c, .int .i64 ((o : Int) + t1.size - 1), .int .i64 least] w fun e w' => e = .returned (.tuple #[]) ∧ Wrote w0.heap.size b (bs ++ bt least t1) w w')
    (ih2 : ∀ (o least : Nat) (bs : List UInt8) (w : World), Below w0.heap.size w0 w → Bu w0.heap.size b bs w → AtL l o t2 → t2.wf → t2.fit → least ≤ 9 → bs.length + 24 * t2.size ≤ 140737488355328 →
      Calls Tryd.prog 52 #[.pointer (some ⟨b, 0, none⟩), .slice A l.length c, .int .i64 ((o : Int) + t2.size - 1), .int .i64 least] w fun e w' => e = .returned (.tuple #[]) ∧ Wrote w0.heap.size b (bs ++ bt least t2) w w')
    (o least : Nat) (bs : List UInt8) (w : World) (hw : Below w0.heap.size w0 w) (hb : Bu w0.heap.size b bs w)
    (ha : AtL l o (.bin k p t1 t2)) (hwf : T.wf (.bin k p t1 t2)) (hfit : T.fit (.bin k p t1 t2)) (hle : least ≤ 9) (hlen : bs.length + 24 * (T.bin k p t1 t2).size ≤ 140737488355328) :
    Calls Tryd.prog 52 #[.pointer (some ⟨b, 0, none⟩), .slice A l.length c, .int .i64 ((o : Int) + (T.bin k p t1 t2).size - 1), .int .i64 least] w fun e w' => e = .returned (.tuple #[]) ∧ Wrote w0.heap.size b (bs ++ bt least (.bin k p t1 t2)) w w' := by
  obtain ⟨hl, hR⟩ := hR
  obtain ⟨haa, hbb, hat⟩ := ha.bin
  have hlt := (List.getElem?_eq_some_iff.1 hat).1
  obtain ⟨ad, rfl, hc⟩ := hR (by omega)
  obtain ⟨c0, c1, c2, c3, c4⟩ := (hc _ _ hat).below hw
  obtain ⟨hk7, hk19, -, -, hwa, hwb2⟩ := hwf
  obtain ⟨hf1, hf2⟩ := hfit
  have hsz := hw.size
  obtain ⟨m, hm⟩ : ∃ m, o + t1.size + t2.size = m := ⟨_, rfl⟩
  have hm' : (o : Int) + (T.bin k p t1 t2).size - 1 = m := by simp only [T.size]; omega
  obtain ⟨ia, hia⟩ : ∃ ia, (o : Int) + t1.size - 1 = ia := ⟨_, rfl⟩
  obtain ⟨ib, hib⟩ : ∃ ib, (o : Int) + t1.size + t2.size - 1 = ib := ⟨_, rfl⟩
  have hib' : ((o + t1.size : Nat) : Int) + t2.size - 1 = ib := by omega
  rw [hm] at c0 c1 c2 c3 c4 hlt
  simp only at c0 c1 c2 c3 c4
  rw [hia] at c2
  rw [hib] at c3
  rw [hm']
  have hap := t1.size_pos
  have hbp := t2.size_pos
  have hia0 := hia
  have hib0 := hib
  clear hc ha hR hat hm'
  have HB := below_alloc (Below.refl w.heap.size w) (.cells #[.int .u8 k, .int .i64 0, .int .i64 ia, .int .i64 ib, .int .i64 p] 50)
  have HX := Bx.new w 50 #[.int .u8 k, .int .i64 0, .int .i64 ia, .int .i64 ib, .int .i64 p]
  have HU := hb.alloc (.cells #[.int .u8 k, .int .i64 0, .int .i64 ia, .int .i64 ib, .int .i64 p] 50)
  have x0 : (w.alloc (.cells #[.int .u8 k, .int .i64 0, .int .i64 ia, .int .i64 ib, .int .i64 p] 50)).cell? ⟨w.heap.size, 0, none⟩ = some (.int .u8 k) := HX.cell 0 _ rfl
  have hk5 : 5 ≤ k := by omega
  have hkn5 : (k == 5) = false := beq_eq_false_iff_ne.2 (by omega)
  have hkn6 : (k == 6) = false := beq_eq_false_iff_ne.2 (by omega)
  have hkn1 : (k == 1) = false := beq_eq_false_iff_ne.2 (by omega)
  have hkw : IntKind.u8.wrap (k - 5) = k - 5 := by simp [IntKind.wrap, IntKind.signed, IntKind.bits]; omega
  have hk0 : (0 : Int) ≤ k - 5 := by omega
  have hk15 : k - 5 < 15 := by omega
  go_enter_defers Tryd.func52, Tryd.ntmps52
  go_wp2_with fail
  generalize w.alloc (.cells #[.int .u8 k, .int .i64 0, .int .i64 ia, .int .i64 ib, .int .i64 p] 50) = W at *
  go_cut [9] from 11 to 39 (fun v wx => OpBox W k v wx)
  case first =>
    have hlw : w.heap.size < W.heap.size := HX.lt
    have y0 : W.drew.cell? ⟨w.heap.size, 0, none⟩ = some (.int .u8 k) := x0
    have y1 : ∀ o, (W.drew.alloc o).cell? ⟨w.heap.size, 0, none⟩ = some (.int .u8 k) := fun o => cell_below (below_alloc (Below.refl _ _) o) y0
    have y2 : ∀ o o', ((W.drew.alloc o).alloc o').cell? ⟨w.heap.size, 0, none⟩ = some (.int .u8 k) := fun o o' => cell_below (below_alloc (Below.refl _ _) o') (y1 o)
    refine wp_region_noPanic ?_
    go_region_with (first | (go_at_call 66; refine (operators_calls _).mono ?_; rintro e w1 ⟨aop, rfl, -, hw1, hoc⟩; obtain ⟨z0, z1⟩ := hoc k hk5 (by omega); have u0 : w1.cell? ⟨w.heap.size, 0, none⟩ = some (.int .u8 k) := (by rw [hw1]; first | exact y1 _ | exact y2 _ _); have u1 := fun o => cell_below (below_alloc (Below.refl _ _) o) u0; obtain ⟨u2, u3⟩ := bcell (hw1 ▸ below_alloc (Below.refl _ _) _); have hs1 := congrArg (fun w => w.heap.size) hw1; replace hw1 := Lib.hid hw1; replace hs1 := Lib.hid hs1; clear hoc; have z2 := fun o => cell_below (below_alloc (Below.refl _ _) o) z0; have z3 := fun o => cell_below (below_alloc (Below.refl _ _) o) z1))
    all_goals (refine NoPanic.normal ?_; go_wp2_with fail; go_meet)
    all_goals (obtain rfl := hw1.out; clear z0 z1 z2 z3 u0 u1 u2 u3 y0 y1 y2)
    all_goals first
      | exact opbox_a (below_ops W _)
      | exact opbox_b (bx_ops W _ _ _ _) (below_alloc (below_ops W _) _)
      | trace_state
  case rest =>
    obtain ⟨q, rfl, hq, HQ, hbw⟩ := hcut
    have hlw := HX.lt
    have hwc := below_trans (below_trans hw HB) hbw
    have hwW := below_trans HB hbw
    have Xc := HX.below hbw
    have Uc := HU.below hbw
    have hsc := hwc.size
    obtain ⟨hbB, hblt⟩ := hb.lt
    have hqb : q ≠ b := by omega
    have hwb : w.heap.size ≠ b := by omega
    have hsg : sgB k = opB k := by unfold sgB; rw [if_neg (by omega)]
    have hul : (opB k).length ≤ 5 := by unfold opB; have := ops_len (k - 7).toNat; simp only [List.length_cons, List.length_append, List.length_nil]; omega
    have hL8 : lineK k ≤ 8 := by unfold lineK; have := @lvK_le8 k; (repeat' split) <;> omega
    have hlk : Hid (leftK k = if lineK k = 4 then 5 else lineK k) := rfl
    have hBT : Hid (bt least (.bin k p t1 t2) = brB (decide (lineK k < least)) (bt (leftK k) t1 ++ (opB k ++ bt (lineK k + 1) t2))) := rfl
    simp only [T.size] at hlen
    rw [hsg] at HQ
    obtain ⟨L, hL⟩ : ∃ L, lineK k = L := ⟨_, rfl⟩
    rw [hL] at HQ hL8 hlk hBT
    have ha1 := bt_len t1 hf1 (leftK k)
    have hb1 := bt_len t2 hf2 (L + 1)
    have hLi : (L : Int) ≤ 8 := by omega
    have hL1 : ((L + 1 : Nat) : Int) = (L : Int) + 1 := by omega
    have ihb := ih2 (o + t1.size) (L + 1)
    rw [hib', hL1] at ihb
    have hLn9 : L + 1 ≤ 9 := by omega
    obtain ⟨lf, hlf⟩ : ∃ lf, leftK k = lf := ⟨_, rfl⟩
    rw [hlf] at hlk hBT ha1
    have hlf9 : lf ≤ 9 := by rw [hlk.out]; split <;> omega
    have iha := ih1 o lf
    rw [hia] at iha
    clear hsg HX HU HB x0 ih1 ih2 hlt c0 c1 c2 c3 c4 hb hw hbw hkw hk0 hk15 hL hL1 hlf hib hib' hia hia0 hib0 hm
    have xc0 := Xc.cell 0 _ rfl
    have xc2 := Xc.cell 2 _ rfl
    have qc0 := HQ.cell 0 _ rfl
    have qc1 := HQ.cell 1 _ rfl
    have hLf : (L = 4 ∧ lf = 5) ∨ (L ≠ 4 ∧ lf = L) := by have := hlk.out; by_cases h4 : L = 4 <;> simp [h4] at this <;> omega
    by_cases hbr : L < least
    · have hbi : (L : Int) < (least : Int) := by omega
      have hE : Hid (bs ++ bt least (.bin k p t1 t2) = bs ++ [40] ++ bt lf t1 ++ opB k ++ bt (L + 1) t2 ++ [41]) := by rw [hBT.out, decide_eq_true hbr]; simp [brB, Hid]
      replace hBT := Lib.hid hBT
      rcases hLf with ⟨rfl, rfl⟩ | ⟨h4, rfl⟩
      all_goals try rw [show ((4 : Nat) : Int) + 1 = 5 from rfl] at ihb
      all_goals try rw [show ((5 : Nat) : Int) = 5 from rfl] at iha
      all_goals try have h4i : ((lf : Int) == 4) = false := beq_eq_false_iff_ne.2 (by omega)
      all_goals (
        go_wp2_with (first
          | (go_at_call 65; refine (wbyte_calls w0.heap.size b bs 40 _ Uc (by omega) hsc).mono ?_; rintro e w1 ⟨rfl, h1⟩; have hw1 := hwc.trans h1.2.1; have hs1 := hw1.size; have X1 := Xc.others h1.2.2 hwb (by decide); have xe0 := X1.cell 0 _ rfl; have xe2 := X1.cell 2 _ rfl; have Q1 := HQ.others h1.2.2 hqb (by decide); have qe1 := Q1.cell 1 _ rfl)
          | (go_at_call 52; (with_reducible refine (iha _ _ hw1 (Wrote.bu h1) haa hwa hf1 hlf9 ?hz).mono ?_); (case hz => try simp only [List.length_append, List.length_cons, List.length_nil]; omega); rintro e w2 ⟨rfl, h2⟩; have hw2 := hw1.trans h2.2.1; have hs2 := hw2.size; have X2 := X1.others h2.2.2 hwb (by decide); have Q2 := Q1.others h2.2.2 hqb (by decide); have qd0 := Q2.cell 0 _ rfl)
          | (go_at_call 20; refine (wstring_calls w0.heap.size b _ _ _ h2.1 (by simp only [List.length_append, List.length_cons, List.length_nil]; omega) hs2).mono ?_; rintro e w3 ⟨rfl, h3⟩; have hw3 := hw2.trans h3.2.1; have X3 := X2.others h3.2.2 hwb (by decide); have xf3 := X3.cell 3 _ rfl; have Q3 := Q2.others h3.2.2 hqb (by decide); have qf1 := Q3.cell 1 _ rfl)
          | (go_at_call 52; (with_reducible refine (ihb _ _ hw3 (Wrote.bu h3) hbb hwb2 hf2 hLn9 ?hz).mono ?_); (case hz => try simp only [List.length_append, List.length_cons, List.length_nil]; omega); rintro e w4 ⟨rfl, h4⟩))
        refine leaves_cons (f := 65) (args := #[.pointer (some ⟨b, 0, none⟩), .int .u8 41]) (by simp) (by simp [go_sem]) ?_
        refine (wbyte_deferred w0.heap.size b _ 41 .returning _ h4.1 (by simp only [List.length_append, List.length_cons, List.length_nil]; omega) (hw3.trans h4.2.1).size).mono ?_
        rintro e u' w5 ⟨rfl, rfl, h5⟩
        refine ⟨_, results_none rfl _ _ _, rfl, ?_⟩
        rw [hE.out]
        exact ((((h1.then h2).then h3).then h4).then h5).pre hsz hwW)
    · have hbi : ¬ ((L : Int) < (least : Int)) := by omega
      have hE : Hid (bs ++ bt least (.bin k p t1 t2) = bs ++ bt lf t1 ++ opB k ++ bt (L + 1) t2) := by rw [hBT.out, decide_eq_false hbr]; simp [brB, Hid]
      replace hBT := Lib.hid hBT
      rcases hLf with ⟨rfl, rfl⟩ | ⟨h4, rfl⟩
      all_goals try rw [show ((4 : Nat) : Int) + 1 = 5 from rfl] at ihb
      all_goals try rw [show ((5 : Nat) : Int) = 5 from rfl] at iha
      all_goals try have h4i : ((lf : Int) == 4) = false := beq_eq_false_iff_ne.2 (by omega)
      all_goals (
        go_wp2_with (first
          | (go_at_call 52; (with_reducible refine (iha bs wc hwc Uc haa hwa hf1 hlf9 ?hz).mono ?_); (case hz => omega); rintro e w2 ⟨rfl, h2⟩; have hw2 := hwc.trans h2.2.1; have hs2 := hw2.size; have X2 := Xc.others h2.2.2 hwb (by decide); have Q2 := HQ.others h2.2.2 hqb (by decide); have qd0 := Q2.cell 0 _ rfl)
          | (go_at_call 20; refine (wstring_calls w0.heap.size b _ _ _ h2.1 (by simp only [List.length_append, List.length_cons, List.length_nil]; omega) hs2).mono ?_; rintro e w3 ⟨rfl, h3⟩; have hw3 := hw2.trans h3.2.1; have X3 := X2.others h3.2.2 hwb (by decide); have xf3 := X3.cell 3 _ rfl; have Q3 := Q2.others h3.2.2 hqb (by decide); have qf1 := Q3.cell 1 _ rfl)
          | (go_at_call 52; (with_reducible refine (ihb _ _ hw3 (Wrote.bu h3) hbb hwb2 hf2 hLn9 ?hz).mono ?_); (case hz => try simp only [List.length_append, List.length_cons, List.length_nil]; omega); rintro e w4 ⟨rfl, h4⟩))
        refine ⟨_, results_none rfl _ _ _, rfl, ?_⟩
        rw [hE.out]
        exact ((h2.then h3).then h4).pre hsz hwW)
theorem write_calls (w0 : World) (A : Option Addr) (c : Nat) (l : List Nd) (hR : RdN w0 A l) (hT : Tab w0) (b : Nat) (t : T) :
    ∀ (o least : Nat) (bs : List UInt8) (w : World), Below w0.heap.size w0 w → Bu w0.heap.size b bs w → AtL l o t → t.wf → t.fit → least ≤ 9 → bs.length + 24 * t.size ≤ 140737488355328 →
      Calls Tryd.prog 52 #[.pointer (some ⟨b, 0, none⟩), .slice A l.length c, .int .i64 ((o : Int) + t.size - 1), .int .i64 least] w fun e w' => e = .returned (.tuple #[]) ∧ Wrote w0.heap.size b (bs ++ bt least t) w w' := by
  induction t with
  | leaf k n p =>
    intro o least bs w h1 h2 h3 h4 h5 h6 h7
    have e : (o : Int) + ((T.leaf k n p).size : Nat) - 1 = o := by simp only [T.size]; omega
    rw [e]
    exact write_leaf w0 A c l hR hT b k n p o least bs w h1 h2 h3 h4 h5 (by simp only [T.size] at h7; omega)
  | un k p a ih => exact fun o least bs w h1 h2 h3 h4 h5 h6 h7 => write_un w0 A c l hR hT b k p a ih o least bs w h1 h2 h3 h4 h5 h6 h7
  | bin k p a d iha ihb => exact fun o least bs w h1 h2 h3 h4 h5 h6 h7 => write_bin w0 A c l hR hT b k p a d iha ihb o least bs w h1 h2 h3 h4 h5 h6 h7
end Go.Proofs.YthijjpbkpmojbaaDoor
