import Derived.Test.YthijjpbkpmojbaaDoorGram
/-! How trees are written as tokens: with as few brackets as there have to be, and with all; what is counted. -/
namespace Tw
namespace T
/-- The line of a tree's last node. -/
def lv : T → Nat
  | leaf _ _ _ => 8
  | un k _ _ => if k = 5 then 7 else 2
  | bin k _ _ _ => lvK k
theorem lv_leaf {k n p : Int} : (leaf k n p).lv = 8 := rfl
theorem lv_un {k p : Int} {a : T} : (un k p a).lv = if k = 5 then 7 else 2 := rfl
theorem lv_bin {k p : Int} {a b : T} : (bin k p a b).lv = lvK k := rfl
theorem lv_le (t : T) : t.lv ≤ 8 := by
  cases t with
  | leaf => exact Nat.le_refl _
  | un k p a => rw [lv_un]; split <;> omega
  | bin k p a b => rw [lv_bin]; have := @lvK_ne k; omega
/-- But for places. -/
def strip : T → T
  | leaf k n _ => leaf k n 0
  | un k _ a => un k 0 a.strip
  | bin k _ a b => bin k 0 a.strip b.strip
theorem strip_size (t : T) : t.strip.size = t.size := by
  induction t with
  | leaf => rfl
  | un k p a ih => simp [strip, size, ih]
  | bin k p a b iha ihb => simp [strip, size, iha, ihb]
theorem strip_depth (t : T) : t.strip.depth = t.depth := by
  induction t with
  | leaf => rfl
  | un k p a ih => simp [strip, depth, ih]
  | bin k p a b iha ihb => simp [strip, depth, iha, ihb]
theorem strip_lv (t : T) : t.strip.lv = t.lv := by cases t <;> rfl
theorem strip_strip (t : T) : t.strip.strip = t.strip := by
  induction t with
  | leaf => rfl
  | un k p a ih => simp [strip, ih]
  | bin k p a b iha ihb => simp [strip, iha, ihb]
end T
theorem Fits.strip {s t : T} (h : s.strip = t.strip) (hf : Fits t) : Fits s := by
  unfold Fits at *
  rw [← T.strip_size s, ← T.strip_depth s, h, T.strip_size, T.strip_depth]
  exact hf
def leafSy (k n : Int) : Sy := if k = 1 then .num n else fieldSy k
def unSy (k : Int) : Sy := if k = 5 then sMinus else sNot
/-- The line of a unary kind, and of its part. -/
def unL (k : Int) : Nat := if k = 5 then 7 else 2
/-- The line that the first part of a binary kind has to have. -/
def left (k : Int) : Nat := if lvK k = 3 then 4 else lvK k
def wrapSy (b : Bool) (l : List Sy) : List Sy := if b then sLp :: (l ++ [sRp]) else l
/-- With as few brackets as there have to be, as a part that has to have a line. -/
def pr : Nat → T → List Sy
  | _, .leaf k n _ => [leafSy k n]
  | l, .un k _ a => wrapSy (decide (unL k < l)) (unSy k :: pr (unL k) a)
  | l, .bin k _ a b => wrapSy (decide (lvK k < l)) (pr (left k) a ++ opSy k :: pr (lvK k + 1) b)
/-- With all brackets. -/
def fl : Bool → T → List Sy
  | _, .leaf k n _ => [leafSy k n]
  | part, .un k _ a => wrapSy part (unSy k :: fl true a)
  | part, .bin k _ a b => wrapSy part (fl true a ++ opSy k :: fl true b)
theorem pr_strip (t : T) : ∀ l, pr l t.strip = pr l t := by
  induction t with
  | leaf => intro l; rfl
  | un k p a ih => intro l; simp [pr, T.strip, ih]
  | bin k p a b iha ihb => intro l; simp [pr, T.strip, iha, ihb]
theorem fl_strip (t : T) : ∀ l, fl l t.strip = fl l t := by
  induction t with
  | leaf => intro l; rfl
  | un k p a ih => intro l; simp [fl, T.strip, ih]
  | bin k p a b iha ihb => intro l; simp [fl, T.strip, iha, ihb]

theorem map_fst_cons {w : List Tk} {s : Sy} {l : List Sy} (h : w.map (·.1) = s :: l) : ∃ p w', w = (s, p) :: w' ∧ w'.map (·.1) = l := by
  cases w with
  | nil => cases h
  | cons x w' =>
    simp only [List.map_cons, List.cons.injEq] at h
    exact ⟨x.2, w', by rw [← h.1], h.2⟩
theorem map_fst_append {w : List Tk} {l1 l2 : List Sy} (h : w.map (·.1) = l1 ++ l2) : ∃ w1 w2, w = w1 ++ w2 ∧ w1.map (·.1) = l1 ∧ w2.map (·.1) = l2 := by
  rw [List.map_eq_append_iff] at h
  exact h
theorem D_wrap {l : Nat} {w : List Tk} {t : T} {L : List Sy} (hl : l ≤ 8) (lvt : Nat) (b : Bool) (hb : b = false → l ≤ lvt) (h : ∀ w, w.map (·.1) = L → ∃ t', D lvt w t' ∧ t'.strip = t.strip)
    (hw : w.map (·.1) = wrapSy b L) : ∃ t', D l w t' ∧ t'.strip = t.strip := by
  cases b with
  | false =>
    obtain ⟨t', h1, h2⟩ := h w hw
    exact ⟨t', h1.down l (hb rfl), h2⟩
  | true =>
    obtain ⟨p, w', rfl, hw'⟩ := map_fst_cons hw
    obtain ⟨w1, w2, rfl, h1, h2⟩ := map_fst_append hw'
    obtain ⟨q, w3, rfl, h3⟩ := map_fst_cons h2
    obtain rfl : w3 = [] := by simpa using h3
    obtain ⟨t', h4, h5⟩ := h w1 h1
    exact ⟨t', (D.par w1 t' p q (h4.down 0 (Nat.zero_le _))).down l hl, h5⟩
theorem leaf_D {k n p : Int} {w : List Tk} (ht : (T.leaf k n p).wf) (hw : w.map (·.1) = [leafSy k n]) : ∃ t', D 8 w t' ∧ t'.strip = (T.leaf k n p).strip := by
  obtain ⟨q, w', rfl, hw'⟩ := map_fst_cons hw
  obtain rfl : w' = [] := by simpa using hw'
  obtain ⟨h1, h2, h3, h4, _⟩ := ht
  by_cases hk : k = 1
  · subst hk
    exact ⟨_, D.num n q, rfl⟩
  · obtain rfl := h4 hk
    simp only [leafSy, if_neg hk]
    exact ⟨_, D.fld _ k q (fieldK_fieldSy (by omega) h2), rfl⟩
theorem pr_D (t : T) : t.wf → ∀ l, l ≤ 8 → ∀ w : List Tk, w.map (·.1) = pr l t → ∃ t', D l w t' ∧ t'.strip = t.strip := by
  induction t with
  | leaf k n p =>
    intro ht l hl w hw
    obtain ⟨t', h1, h2⟩ := leaf_D ht hw
    exact ⟨t', h1.down l hl, h2⟩
  | un k p a ih =>
    intro ht l hl w hw
    refine D_wrap hl (unL k) _ (fun h => by simpa using h) (fun w hw => ?_) hw
    obtain ⟨q, w', rfl, hw'⟩ := map_fst_cons hw
    obtain ⟨a', h1, h2⟩ := ih ht.2.2.2 _ (by unfold unL; split <;> omega) w' hw'
    rcases ht.1 with rfl | rfl
    · exact ⟨_, D.neg w' a' q h1, by simp [T.strip, h2]⟩
    · exact ⟨_, D.not w' a' q h1, by simp [T.strip, h2]⟩
  | bin k p a b iha ihb =>
    intro ht l hl w hw
    have hlv := @lvK_ne k
    refine D_wrap hl (lvK k) _ (fun h => by simpa using h) (fun w hw => ?_) hw
    obtain ⟨w1, w2, rfl, h1, h2⟩ := map_fst_append hw
    obtain ⟨q, w3, rfl, h3⟩ := map_fst_cons h2
    obtain ⟨a', ha1, ha2⟩ := iha ht.2.2.2.2.1 _ (by unfold left; split <;> omega) w1 h1
    obtain ⟨b', hb1, hb2⟩ := ihb ht.2.2.2.2.2 _ (by omega) w3 h3
    have hk := opK_opSy ht.1 ht.2.1
    by_cases h3 : lvK k = 3
    · simp only [left, if_pos h3] at ha1
      rw [h3] at hb1 ⊢
      exact ⟨_, D.cmp w1 w3 _ k q a' b' hk h3 ha1 hb1, by simp [T.strip, ha2, hb2]⟩
    · simp only [left, if_neg h3] at ha1
      exact ⟨_, D.bin _ w1 w3 _ k q a' b' hk rfl h3 ha1 hb1, by simp [T.strip, ha2, hb2]⟩
theorem fl_D (t : T) : t.wf → ∀ part (w : List Tk), w.map (·.1) = fl part t → ∃ t', D (if part then 8 else t.lv) w t' ∧ t'.strip = t.strip := by
  induction t with
  | leaf k n p =>
    intro ht part w hw
    obtain ⟨t', h1, h2⟩ := leaf_D ht hw
    exact ⟨t', h1.down _ (by split <;> simp [T.lv]), h2⟩
  | un k p a ih =>
    intro ht part w hw
    refine D_wrap (lvt := unL k) (by split <;> first | omega | exact T.lv_le _) part (fun h => by rw [h]; simp [T.lv, unL]) (fun w hw => ?_) hw
    obtain ⟨q, w', rfl, hw'⟩ := map_fst_cons hw
    obtain ⟨a', h1, h2⟩ := ih ht.2.2.2 true w' hw'
    simp only [if_true] at h1
    rcases ht.1 with rfl | rfl
    · exact ⟨_, D.neg w' a' q (h1.down _ (by omega)), by simp [T.strip, h2]⟩
    · exact ⟨_, D.not w' a' q (h1.down _ (by omega)), by simp [T.strip, h2]⟩
  | bin k p a b iha ihb =>
    intro ht part w hw
    have hlv := @lvK_ne k
    refine D_wrap (lvt := lvK k) (by split <;> first | omega | exact T.lv_le _) part (fun h => by rw [h]; simp [T.lv]) (fun w hw => ?_) hw
    obtain ⟨w1, w2, rfl, h1, h2⟩ := map_fst_append hw
    obtain ⟨q, w3, rfl, h3⟩ := map_fst_cons h2
    obtain ⟨a', ha1, ha2⟩ := iha ht.2.2.2.2.1 true w1 h1
    obtain ⟨b', hb1, hb2⟩ := ihb ht.2.2.2.2.2 true w3 h3
    simp only [if_true] at ha1 hb1
    have hk := opK_opSy ht.1 ht.2.1
    by_cases h3 : lvK k = 3
    · rw [h3]
      exact ⟨_, D.cmp w1 w3 _ k q a' b' hk h3 (ha1.down _ (by omega)) (hb1.down _ (by omega)), by simp [T.strip, ha2, hb2]⟩
    · exact ⟨_, D.bin _ w1 w3 _ k q a' b' hk rfl h3 (ha1.down _ (by omega)) (hb1.down _ (by omega)), by simp [T.strip, ha2, hb2]⟩

/-! ### Counting -/
def nLp (w : List Sy) : Nat := w.count sLp
def nRp (w : List Sy) : Nat := w.count sRp
/-- How many tokens are no brackets. -/
def nOt (w : List Sy) : Nat := w.countP fun s => s != sLp && s != sRp
def sy (w : List Tk) : List Sy := w.map (·.1)
/-- The brackets inside. -/
def inner : T → Nat
  | .leaf _ _ _ => 0
  | .un k _ a => inner a + if a.lv < unL k then 1 else 0
  | .bin k _ a b => (inner a + if a.lv < left k then 1 else 0) + (inner b + if b.lv < lvK k + 1 then 1 else 0)
theorem inner_strip (t : T) : inner t.strip = inner t := by
  induction t with
  | leaf => rfl
  | un k p a ih => simp [inner, T.strip, ih, T.strip_lv]
  | bin k p a b iha ihb => simp [inner, T.strip, iha, ihb, T.strip_lv]
theorem count_of_ne {a b : Sy} {l : List Sy} (h : b ≠ a) : (b :: l).count a = l.count a := by
  rw [List.count_cons]
  simp [h]
theorem op_ne {s : Sy} {k : Int} (h : opK s = some k) : s ≠ sLp ∧ s ≠ sRp := by
  constructor
  · rintro rfl; cases h
  · rintro rfl; cases h
theorem fld_ne {s : Sy} {k : Int} (h : fieldK s = some k) : s ≠ sLp ∧ s ≠ sRp := by
  constructor
  · rintro rfl; cases h
  · rintro rfl; cases h
theorem D_count {l : Nat} {w : List Tk} {t : T} (h : D l w t) : nOt (sy w) = t.size ∧ nLp (sy w) = nRp (sy w) ∧ inner t + (if t.lv < l then 1 else 0) ≤ nLp (sy w) := by
  have hmono : ∀ {n a b : Nat}, a ≤ b → (if n < a then 1 else 0) ≤ (if n < b then 1 else 0) := by
    intro n a b h
    split <;> split <;> omega
  induction h with
  | num n p => exact ⟨rfl, rfl, by simp [inner, T.lv]⟩
  | fld s k p hs =>
    obtain ⟨h1, h2⟩ := fld_ne hs
    refine ⟨?_, ?_, by simp [inner, T.lv]⟩
    · simp [sy, nOt, T.size, h1, h2]
    · simp [sy, nLp, nRp, h1, h2]
  | par w t p q _ ih =>
    obtain ⟨h1, h2, h3⟩ := ih
    simp only [sy, List.map_cons, List.map_append, List.map_nil, nOt, nLp, nRp, List.count_cons, List.count_append, List.countP_cons, List.countP_append, List.count_nil, List.countP_nil] at h1 h2 h3 ⊢
    refine ⟨?_, ?_, ?_⟩
    · rw [← h1]; simp
    · rw [h2]; simp [sLp, sRp]
    · simp only [Nat.not_lt_zero, if_false] at h3
      have : (if t.lv < 8 then 1 else 0) ≤ 1 := by split <;> omega
      simp [sLp, sRp] at h3 ⊢
      omega
  | neg w t p _ ih =>
    obtain ⟨h1, h2, h3⟩ := ih
    have e1 : sMinus ≠ sLp := by decide
    have e2 : sMinus ≠ sRp := by decide
    simp only [sy, List.map_cons, nOt, nLp, nRp, List.countP_cons, count_of_ne e1, count_of_ne e2] at h1 h2 h3 ⊢
    refine ⟨by rw [h1]; simp [T.size, e1, e2], h2, ?_⟩
    simp only [inner, T.lv_un, unL, if_true] at h3 ⊢
    simpa using h3
  | not w t p _ ih =>
    obtain ⟨h1, h2, h3⟩ := ih
    have e1 : sNot ≠ sLp := by decide
    have e2 : sNot ≠ sRp := by decide
    simp only [sy, List.map_cons, nOt, nLp, nRp, List.countP_cons, count_of_ne e1, count_of_ne e2] at h1 h2 h3 ⊢
    refine ⟨by rw [h1]; simp [T.size, e1, e2], h2, ?_⟩
    simp only [inner, T.lv_un, unL] at h3 ⊢
    simpa using h3
  | bin l w1 w2 s k p a b hk hlv h3 _ _ iha ihb =>
    obtain ⟨a1, a2, a3⟩ := iha
    obtain ⟨b1, b2, b3⟩ := ihb
    obtain ⟨e1, e2⟩ := op_ne hk
    simp only [sy, List.map_append, List.map_cons, nOt, nLp, nRp, List.count_append, List.countP_append, List.countP_cons, count_of_ne e1, count_of_ne e2] at a1 a2 a3 b1 b2 b3 ⊢
    refine ⟨by rw [a1, b1]; simp [T.size, e1, e2]; omega, by omega, ?_⟩
    subst hlv
    simp only [inner, T.lv_bin, left, if_neg h3, Nat.lt_irrefl, if_false]
    omega
  | cmp w1 w2 s k p a b hk hlv _ _ iha ihb =>
    obtain ⟨a1, a2, a3⟩ := iha
    obtain ⟨b1, b2, b3⟩ := ihb
    obtain ⟨e1, e2⟩ := op_ne hk
    simp only [sy, List.map_append, List.map_cons, nOt, nLp, nRp, List.count_append, List.countP_append, List.countP_cons, count_of_ne e1, count_of_ne e2] at a1 a2 a3 b1 b2 b3 ⊢
    refine ⟨by rw [a1, b1]; simp [T.size, e1, e2]; omega, by omega, ?_⟩
    simp only [inner, T.lv_bin, left, hlv, if_true, Nat.lt_irrefl, if_false, Nat.reduceAdd]
    omega
  | up l w t hl _ ih =>
    obtain ⟨h1, h2, h3⟩ := ih
    have := @hmono t.lv l (l + 1) (by omega)
    exact ⟨h1, h2, by omega⟩
theorem wrap_count (b : Bool) (l : List Sy) : nOt (wrapSy b l) = nOt l ∧ nLp (wrapSy b l) = nLp l + (if b then 1 else 0) ∧ nRp (wrapSy b l) = nRp l + (if b then 1 else 0) := by
  cases b with
  | false => simp [wrapSy]
  | true =>
    simp only [wrapSy, if_true, nOt, nLp, nRp, List.countP_cons, List.countP_append, List.count_cons, List.count_append, List.countP_nil, List.count_nil]
    simp [sLp, sRp]
theorem leafSy_ne {k n : Int} (h : 1 ≤ k) (h' : k ≤ 4) : leafSy k n ≠ sLp ∧ leafSy k n ≠ sRp := by
  unfold leafSy
  split
  · exact ⟨by simp [sLp], by simp [sRp]⟩
  · exact fld_ne (fieldK_fieldSy (k := k) (by omega) h')
theorem unSy_ne (k : Int) : unSy k ≠ sLp ∧ unSy k ≠ sRp := by
  unfold unSy
  split
  · decide
  · decide
theorem cons_count {s : Sy} (h : s ≠ sLp ∧ s ≠ sRp) (l : List Sy) : nOt (s :: l) = nOt l + 1 ∧ nLp (s :: l) = nLp l ∧ nRp (s :: l) = nRp l := by
  refine ⟨?_, count_of_ne h.1, count_of_ne h.2⟩
  simp [nOt, h.1, h.2]
theorem append_count (l l' : List Sy) : nOt (l ++ l') = nOt l + nOt l' ∧ nLp (l ++ l') = nLp l + nLp l' ∧ nRp (l ++ l') = nRp l + nRp l' :=
  ⟨List.countP_append .., List.count_append .., List.count_append ..⟩
theorem opSy_ne {k : Int} (h : 7 ≤ k) (h' : k ≤ 19) : opSy k ≠ sLp ∧ opSy k ≠ sRp := op_ne (opK_opSy h h')
theorem pr_count (t : T) : t.wf → ∀ l, l ≤ 8 → nOt (pr l t) = t.size ∧ nLp (pr l t) = inner t + (if t.lv < l then 1 else 0) ∧ nRp (pr l t) = inner t + (if t.lv < l then 1 else 0) := by
  induction t with
  | leaf k n p =>
    intro ht l hl
    obtain ⟨h1, h2, h3⟩ := cons_count (leafSy_ne (n := n) ht.1 ht.2.1) []
    rw [T.lv_leaf, if_neg (by omega)]
    exact ⟨h1, h2, h3⟩
  | un k p a ih =>
    intro ht l hl
    obtain ⟨a1, a2, a3⟩ := ih ht.2.2.2 (unL k) (by unfold unL; split <;> omega)
    obtain ⟨w1, w2, w3⟩ := wrap_count (decide (unL k < l)) (unSy k :: pr (unL k) a)
    obtain ⟨c1, c2, c3⟩ := cons_count (unSy_ne k) (pr (unL k) a)
    simp only [pr, w1, w2, w3, c1, c2, c3, a1, a2, a3, T.size, inner, T.lv_un]
    simp only [unL]
    by_cases h : (if k = 5 then 7 else 2) < l
    · simp [h]
    · simp [h]
  | bin k p a b iha ihb =>
    intro ht l hl
    have hlv := @lvK_ne k
    obtain ⟨a1, a2, a3⟩ := iha ht.2.2.2.2.1 (left k) (by unfold left; split <;> omega)
    obtain ⟨b1, b2, b3⟩ := ihb ht.2.2.2.2.2 (lvK k + 1) (by omega)
    obtain ⟨w1, w2, w3⟩ := wrap_count (decide (lvK k < l)) (pr (left k) a ++ opSy k :: pr (lvK k + 1) b)
    obtain ⟨d1, d2, d3⟩ := append_count (pr (left k) a) (opSy k :: pr (lvK k + 1) b)
    obtain ⟨c1, c2, c3⟩ := cons_count (opSy_ne ht.1 ht.2.1) (pr (lvK k + 1) b)
    simp only [pr, w1, w2, w3, d1, d2, d3, c1, c2, c3, a1, a2, a3, b1, b2, b3, T.size, inner, T.lv_bin, decide_eq_true_eq]
    exact ⟨by omega, rfl, rfl⟩
theorem inner_le (t : T) (ht : t.wf) : inner t + (if t.lv < 8 then 1 else 0) ≤ 2 * t.size - 2 ∧ inner t ≤ t.size - 1 := by
  have one : ∀ (c : Prop) [Decidable c], (if c then 1 else 0) ≤ 1 := fun c _ => by split <;> omega
  induction t with
  | leaf k n p => simp [inner, T.lv_leaf, T.size]
  | un k p a ih =>
    obtain ⟨h1, h2⟩ := ih ht.2.2.2
    have hp := a.size_pos
    have hu : unL k ≤ 7 := by unfold unL; split <;> omega
    have h3 := one (T.lv (.un k p a) < 8)
    have h4 := one (a.lv < unL k)
    have : (if a.lv < unL k then 1 else 0) ≤ (if a.lv < 8 then 1 else 0) := by split <;> split <;> omega
    simp only [inner, T.size]
    omega
  | bin k p a b iha ihb =>
    obtain ⟨h1, h2⟩ := iha ht.2.2.2.2.1
    obtain ⟨h3, h4⟩ := ihb ht.2.2.2.2.2
    have hp := a.size_pos
    have hq := b.size_pos
    have h5 := one (T.lv (.bin k p a b) < 8)
    have h6 := one (a.lv < left k)
    have h7 := one (b.lv < lvK k + 1)
    simp only [inner, T.size]
    omega
end Tw
