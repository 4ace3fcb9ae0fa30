import Derived.Test.YthijjpbkpmojbaaDoorKinds
import Derived.OneCell
import Derived.WalkMore
/-! Appends of one element, in a form that any walk can offer: what is appended is read off the world. -/
namespace Go.Proofs.YthijjpbkpmojbaaDoor
open Go.RowKit Tw
set_option linter.unusedVariables false
set_option linter.unusedSimpArgs false
theorem ret_int {k : IntKind} {a b : Int} (h : a = b) : Ending.returned (.int k a) = .returned (.int k b) := by rw [h]
theorem ret_bool {a b : Bool} (h : a = b) : Ending.returned (.bool a) = .returned (.bool b) := by rw [h]
theorem ret_int2 {k j : IntKind} {a b c d : Int} (h : a = b) (h' : c = d) : Ending.returned (.tuple #[.int k a, .int j c]) = .returned (.tuple #[.int k b, .int j d]) := by rw [h, h']
theorem ret_bi {k : IntKind} {a b : Bool} {c d : Int} (h : a = b) (h' : c = d) : Ending.returned (.tuple #[.bool a, .int k c]) = .returned (.tuple #[.bool b, .int k d]) := by rw [h, h']
theorem ret_bii {k j : IntKind} {a b : Bool} {c d e f : Int} (h : a = b) (h' : c = d) (h'' : e = f) : Ending.returned (.tuple #[.bool a, .int k c, .int j e]) = .returned (.tuple #[.bool b, .int k d, .int j f]) := by rw [h, h', h'']
section
variable {P : Program} {ops : Array Oper} {rest : List Oper} {o : Oper} {a : Act} {Q : Exit → Act → World → Prop}
/-- append of one element to a row of the call's own. 'wr': where the row is known; W: the world of the append. -/
theorem app_at {w0 wr W : World} {v : Value} {n : Nat} {xs : List Value} {t e : TypeId} {z : Value} {size bytes : Nat} (HO : wr.ownsRow w0.heap.size e size v n xs) (HB : Below w0.heap.size w0 wr) (hgd : o.guard = none) (s x : Operand)
    (ho : o.op = .call { callee := .builtin .append, args := #[s, x], argTypes := #[t, t] })
    (ht : P.underlying t = some (.slice e)) (hinfo : (P.info? e).map (fun i => (i.zero, i.size, i.bytes)) = some (some z, size, bytes)) (hz : z.cells.size = size) (hs0 : 0 < size) (hb0 : 0 < bytes)
    (cs : List Value) (hs : a.eval s = v) (N : Nat) (hx : a.eval x = .slice (some ⟨N, 0, none⟩) 1 1) (hcl : cs.length = size) (h1 : ∀ u ∈ cs, u.oneCell' = true) (hl : (n + 1) * bytes ≤ 140737488355328)
    (hnews : ∀ j u, cs[j]? = some u → W.cell? ((⟨N, 0, none⟩ : Addr).add j) = some u) (HW : Below wr.heap.size wr W)
    (h : ∀ v1 w1, w1.ownsRow w0.heap.size e size v1 (n + 1) (xs ++ cs) → Below w0.heap.size w0 w1 → wr.grownBy w1 v.ownBlock → (v1.ownBlock = v.ownBlock ∨ ∃ b, v1.ownBlock = some b ∧ wr.heap.size ≤ b) → wpList P ops Q rest (a.put o.dst v1) w1) :
    wpList P ops Q (o :: rest) a W := by
  obtain ⟨i0, hi, hzz⟩ := Option.map_eq_some_iff.1 hinfo
  simp only [Prod.mk.injEq] at hzz
  obtain ⟨hz0, hz1, hz2⟩ := hzz
  have hlen : n + 1 ≤ 140737488355328 := Nat.le_trans (Nat.le_mul_of_pos_right _ hb0) hl
  have HBW := below_then HB HB.size HW
  refine wpList_append_own_at W hgd s x t ho w0.heap.size e i0 z size bytes ht hi hz0 hz1 hz2 hz hs0 v n xs hs (own_below HO HW) ⟨N, 0, none⟩ 1 1 cs hx (by omega) hnews h1 (by simp only [maxLen]; omega) hl HBW.size ?_
  intro v1 w1 hown hg _ hat
  refine h v1 w1 hown (HBW.grown hg HBW.size (own_base HO)) (World.grownBy.trans (row := v.ownBlock) ⟨HW.os, HW.tape, HW.output, HW.size, fun i hi _ => HW.block i hi⟩ hg) ?_
  rcases hat with hat | hat
  · exact .inl hat
  · exact .inr ⟨_, hat, HW.size⟩
theorem app_row {w0 wr W : World} {v : Value} {n : Nat} {xs : List Value} {t e : TypeId} {z : Value} {size bytes : Nat} (HO : wr.ownsRow w0.heap.size e size v n xs) (HB : Below w0.heap.size w0 wr) (hgd : o.guard = none) (s x : Operand)
    (ho : o.op = .call { callee := .builtin .append, args := #[s, x], argTypes := #[t, t] })
    (ht : P.underlying t = some (.slice e)) (hinfo : (P.info? e).map (fun i => (i.zero, i.size, i.bytes)) = some (some z, size, bytes)) (hz : z.cells.size = size) (hs0 : 0 < size) (hb0 : 0 < bytes)
    (cs : Array Value) (hs : a.eval s = v) (N : Nat) (hx : a.eval x = .slice (some ⟨N, 0, none⟩) 1 1) (hN : N = W.heap.size) (hcl : cs.toList.length = size) (h1 : ∀ u ∈ cs.toList, u.oneCell' = true) (hl : (n + 1) * bytes ≤ 140737488355328)
    (HW : Below wr.heap.size wr W)
    (h : ∀ v1 w1, w1.ownsRow w0.heap.size e size v1 (n + 1) (xs ++ cs.toList) → Below w0.heap.size w0 w1 → wr.grownBy w1 v.ownBlock → (v1.ownBlock = v.ownBlock ∨ ∃ b, v1.ownBlock = some b ∧ wr.heap.size ≤ b) → wpList P ops Q rest (a.put o.dst v1) w1) :
    wpList P ops Q (o :: rest) a (W.alloc (.cells cs e)) := by
  subst hN
  obtain ⟨l⟩ := cs
  exact app_at HO HB hgd s x ho ht hinfo hz hs0 hb0 l hs _ hx hcl h1 hl (news_cells W l e) (HW.alloc HW.size _) h
/-- The same behind a draw. -/
theorem app_row_d {w0 wr W : World} {v : Value} {n : Nat} {xs : List Value} {t e : TypeId} {z : Value} {size bytes : Nat} (HO : wr.ownsRow w0.heap.size e size v n xs) (HB : Below w0.heap.size w0 wr) (hgd : o.guard = none) (s x : Operand)
    (ho : o.op = .call { callee := .builtin .append, args := #[s, x], argTypes := #[t, t] })
    (ht : P.underlying t = some (.slice e)) (hinfo : (P.info? e).map (fun i => (i.zero, i.size, i.bytes)) = some (some z, size, bytes)) (hz : z.cells.size = size) (hs0 : 0 < size) (hb0 : 0 < bytes)
    (cs : Array Value) (hs : a.eval s = v) (N : Nat) (hx : a.eval x = .slice (some ⟨N, 0, none⟩) 1 1) (hN : N = W.heap.size) (hcl : cs.toList.length = size) (h1 : ∀ u ∈ cs.toList, u.oneCell' = true) (hl : (n + 1) * bytes ≤ 140737488355328)
    (HW : Below wr.heap.size wr W)
    (h : ∀ v1 w1, w1.ownsRow w0.heap.size e size v1 (n + 1) (xs ++ cs.toList) → Below w0.heap.size w0 w1 → wr.grownBy w1 v.ownBlock → (v1.ownBlock = v.ownBlock ∨ ∃ b, v1.ownBlock = some b ∧ wr.heap.size ≤ b) → wpList P ops Q rest (a.put o.dst v1) w1) :
    wpList P ops Q (o :: rest) a (W.alloc (.cells cs e)).drew := by
  subst hN
  obtain ⟨l⟩ := cs
  exact app_at HO HB hgd s x ho ht hinfo hz hs0 hb0 l hs _ hx hcl h1 hl (fun j u hj => (news_cells W l e j u hj)) (below_drew (HW.alloc HW.size _)) h
end
/-- A block that isn't the row's is as it was. -/
theorem box_keep {wr w1 : World} {b : Nat} {ob : Obj} {row : Option Nat} (hbox : wr.heap[b]? = some ob) (hne : row ≠ some b) (hg : wr.grownBy w1 row) : w1.heap[b]? = some ob :=
  (hg.block b (lt_of_block hbox) (Ne.symm hne)).trans hbox
theorem one_int (k : IntKind) (b : Int) : ∀ u ∈ [Value.int k b], u.oneCell' = true := by
  intro u hu
  simp only [List.mem_cons, List.not_mem_nil, or_false] at hu
  rw [hu]; rfl
theorem one_bool (b : Bool) : ∀ u ∈ [Value.bool b], u.oneCell' = true := by
  intro u hu
  simp only [List.mem_cons, List.not_mem_nil, or_false] at hu
  rw [hu]; rfl
theorem h01 : 0 < 1 := by decide
theorem hs5 : 0 < 5 := by decide
theorem h08 : 0 < 8 := by decide
theorem infoBool : (Tryd.prog.info? 4).map (fun i => (i.zero, i.size, i.bytes)) = some (some (.bool false), 1, 1) := by kernel_rfl
end Go.Proofs.YthijjpbkpmojbaaDoor
