import Derived.Test.YthijjpbkpmojbaaDoorShow
import Derived.Lib.ItoaNum
/-! An expression's text, byte by byte, with as few brackets as there have to be; where a tree's nodes stand in a list. -/
namespace Tw
def leafB (k n : Int) : List UInt8 := if k = 1 then Go.Lib.itoa n else if k = 2 then [107] else if k = 3 then [116] else [118]
def unB (k : Int) : List UInt8 := if k = 5 then [45] else [110, 111, 116, 32]
def opB (k : Int) : List UInt8 := 32 :: (ops.getD (k - 7).toNat [] ++ [32])
/-- The line of a kind. -/
def lineK (k : Int) : Nat := if k ≤ 4 then 9 else if k = 5 then 8 else if k = 6 then 3 else lvK k + 1
def leftK (k : Int) : Nat := if lineK k = 4 then 5 else lineK k
def brB (b : Bool) (l : List UInt8) : List UInt8 := if b then 40 :: (l ++ [41]) else l
/-- The text of a tree, in brackets where its line is less than another one. -/
def bt : Nat → T → List UInt8
  | _, .leaf k n _ => leafB k n
  | least, .un k _ a => brB (decide (lineK k < least)) (unB k ++ bt (lineK k) a)
  | least, .bin k _ a b => brB (decide (lineK k < least)) (bt (leftK k) a ++ (opB k ++ bt (lineK k + 1) b))
theorem bt_un {least : Nat} {k p : Int} {a : T} : bt least (.un k p a) = brB (decide (lineK k < least)) (bt 0 (.un k p a)) := by simp [bt, brB]
theorem bt_bin {least : Nat} {k p : Int} {a b : T} : bt least (.bin k p a b) = brB (decide (lineK k < least)) (bt 0 (.bin k p a b)) := by simp [bt, brB]
/-- A tree's nodes stand in a list, from an index on. -/
def AtL (l : List Nd) (o : Nat) (t : T) : Prop := ∀ (i : Nat) (x : Nd), (t.flat o)[i]? = some x → l[o + i]? = some x
theorem AtL.leaf {l : List Nd} {o : Nat} {k n p : Int} (h : AtL l o (.leaf k n p)) : l[o]? = some ⟨k, n, 0, 0, p⟩ := h 0 _ rfl
theorem AtL.un {l : List Nd} {o : Nat} {k p : Int} {a : T} (h : AtL l o (.un k p a)) : AtL l o a ∧ l[o + a.size]? = some ⟨k, 0, (o : Int) + a.size - 1, 0, p⟩ := by
  refine ⟨fun i x hx => h i x ?_, h a.size _ ?_⟩
  · simp only [T.flat]
    rw [List.getElem?_append_left (List.getElem?_eq_some_iff.1 hx).1]; exact hx
  · simp only [T.flat]
    rw [List.getElem?_append_right (by rw [T.flat_length]; exact Nat.le_refl _), T.flat_length, Nat.sub_self]; rfl
theorem AtL.bin {l : List Nd} {o : Nat} {k p : Int} {a b : T} (h : AtL l o (.bin k p a b)) :
    AtL l o a ∧ AtL l (o + a.size) b ∧ l[o + a.size + b.size]? = some ⟨k, 0, (o : Int) + a.size - 1, (o : Int) + a.size + b.size - 1, p⟩ := by
  refine ⟨fun i x hx => h i x ?_, fun i x hx => ?_, ?_⟩
  · simp only [T.flat]
    rw [List.getElem?_append_left (List.getElem?_eq_some_iff.1 hx).1]; exact hx
  · rw [Nat.add_assoc]
    refine h (a.size + i) x ?_
    simp only [T.flat]
    rw [List.getElem?_append_right (by rw [T.flat_length]; omega), T.flat_length, Nat.add_sub_cancel_left, List.getElem?_append_left (by
      have := (List.getElem?_eq_some_iff.1 hx).1
      rw [T.flat_length] at this ⊢; exact this)]
    rw [show ((o + a.size : Nat) : Int) = (o : Int) + a.size by omega] at hx
    exact hx
  · rw [Nat.add_assoc]
    refine h (a.size + b.size) _ ?_
    simp only [T.flat]
    rw [List.getElem?_append_right (by rw [T.flat_length]; omega), T.flat_length, Nat.add_sub_cancel_left, List.getElem?_append_right (by rw [T.flat_length]; exact Nat.le_refl _), T.flat_length, Nat.sub_self]; rfl
theorem atL_flat (t : T) : AtL (t.flat 0) 0 t := by
  intro i x hx
  rw [Nat.zero_add]; exact hx
/-- How long a text can be: for bounds alone. -/
theorem decDigits_len : ∀ (k u : Nat), u < 10 ^ (k + 1) → (Go.Lib.decDigits u).length ≤ k + 1
  | 0, u, h => by rw [Go.Lib.decDigits, dif_pos (by simpa using h)]; simp
  | k + 1, u, h => by
    rw [Go.Lib.decDigits]
    split
    · simp
    · have := decDigits_len k (u / 10) (by rw [Nat.div_lt_iff_lt_mul (by decide)]; rw [Nat.pow_succ] at h; exact h)
      simp only [List.length_append, List.length_cons, List.length_nil]
      omega
theorem itoa_len {n : Int} (h : -9223372036854775808 ≤ n) (h' : n ≤ 9223372036854775807) : (Go.Lib.itoa n).length ≤ 20 := by
  unfold Go.Lib.itoa
  split
  · have := decDigits_len 18 n.natAbs (by omega)
    simp only [List.length_cons]; omega
  · have := decDigits_len 18 n.toNat (by omega)
    omega
theorem ops_len (i : Nat) : (ops.getD i []).length ≤ 3 := by
  rw [List.getD_eq_getElem?_getD]
  cases h : ops[i]? with
  | none => simp
  | some x =>
    have hm := List.mem_of_getElem? h
    have : ∀ x ∈ ops, x.length ≤ 3 := by decide
    exact this x hm
/-- Each number of a tree is a whole number of 64 bits. -/
def T.fit : T → Prop
  | .leaf _ n _ => -9223372036854775808 ≤ n ∧ n ≤ 9223372036854775807
  | .un _ _ a => a.fit
  | .bin _ _ a b => a.fit ∧ b.fit
theorem bt_len (t : T) (h : t.fit) : ∀ least, (bt least t).length ≤ 20 * t.size := by
  induction t with
  | leaf k n p =>
    intro least
    have := itoa_len h.1 h.2
    simp only [bt, leafB, T.size]
    (repeat' split) <;> simp <;> omega
  | un k p a ih =>
    intro least
    have h1 := ih h (lineK k)
    have h2 : (unB k).length ≤ 4 := by unfold unB; split <;> simp
    simp only [bt, brB, T.size]
    split <;> simp only [List.length_cons, List.length_append, List.length_nil] <;> omega
  | bin k p a b iha ihb =>
    intro least
    have h1 := iha h.1 (leftK k)
    have h2 := ihb h.2 (lineK k + 1)
    have h3 := ops_len (k - 7).toNat
    simp only [bt, brB, opB, T.size]
    split <;> simp only [List.length_cons, List.length_append, List.length_nil] <;> omega
end Tw
