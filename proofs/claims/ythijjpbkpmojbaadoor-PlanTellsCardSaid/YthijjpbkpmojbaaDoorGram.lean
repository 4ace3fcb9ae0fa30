import Derived.Test.YthijjpbkpmojbaaDoorTree
/-! The grammar of expressions over tokens; a parser; how trees are printed. -/
namespace Tw
inductive Sy where
  | num (n : Int)
  | tx (w : List UInt8)
deriving DecidableEq, Inhabited
abbrev Tk := Sy × Int

def sLp : Sy := .tx [40]
def sRp : Sy := .tx [41]
def sMinus : Sy := .tx [45]
def sNot : Sy := .tx [110, 111, 116]
/-- The operators of the kinds from 7 on. -/
def ops : List (List UInt8) := [[42], [43], [45], [60, 60], [62, 62], [60], [60, 61], [62], [62, 61], [61], [33, 61], [97, 110, 100], [111, 114]]
def opIdx (w : List UInt8) : Option Nat := ops.findIdx? (fun x => x == w)
/-- The kind of a binary operator. -/
def opK : Sy → Option Int
  | .num _ => none
  | .tx w => (opIdx w).map (fun i : Nat => (i : Int) + 7)
def fieldK : Sy → Option Int
  | .num _ => none
  | .tx w => if w = [107] then some 2 else if w = [116] then some 3 else if w = [118] then some 4 else none
/-- The line of the grammar of a binary kind: 0 or, 1 and, 2 not, 3 compare, 4 shift, 5 sum, 6 product, 7 negative, 8 primary. -/
def lvK (k : Int) : Nat := if k = 7 then 6 else if k ≤ 9 then 5 else if k ≤ 11 then 4 else if k ≤ 17 then 3 else if k = 18 then 1 else 0
def opSy (k : Int) : Sy := .tx (ops.getD (k - 7).toNat [])
def fieldSy (k : Int) : Sy := if k = 2 then .tx [107] else if k = 3 then .tx [116] else .tx [118]

theorem opK_opSy {k : Int} (h : 7 ≤ k) (h' : k ≤ 19) : opK (opSy k) = some k := by
  obtain ⟨n, rfl⟩ : ∃ n : Nat, k = n + 7 := ⟨(k - 7).toNat, by omega⟩
  have : n = 0 ∨ n = 1 ∨ n = 2 ∨ n = 3 ∨ n = 4 ∨ n = 5 ∨ n = 6 ∨ n = 7 ∨ n = 8 ∨ n = 9 ∨ n = 10 ∨ n = 11 ∨ n = 12 := by omega
  rcases this with rfl | rfl | rfl | rfl | rfl | rfl | rfl | rfl | rfl | rfl | rfl | rfl | rfl <;> decide
theorem opK_range {s : Sy} {k : Int} (h : opK s = some k) : 7 ≤ k ∧ k ≤ 19 := by
  cases s with
  | num => cases h
  | tx w =>
    simp only [opK, Option.map_eq_some_iff] at h
    obtain ⟨i, hi, rfl⟩ := h
    unfold opIdx at hi
    have := List.findIdx?_eq_some_iff_getElem.1 hi
    obtain ⟨h1, _⟩ := this
    simp [ops] at h1
    omega
theorem opSy_opK {s : Sy} {k : Int} (h : opK s = some k) : s = opSy k := by
  cases s with
  | num => cases h
  | tx w =>
    simp only [opK, Option.map_eq_some_iff] at h
    obtain ⟨i, hi, rfl⟩ := h
    unfold opIdx at hi
    obtain ⟨h1, h2, _⟩ := List.findIdx?_eq_some_iff_getElem.1 hi
    simp only [beq_iff_eq] at h2
    simp only [opSy]
    rw [show ((i : Int) + 7 - 7).toNat = i from by omega, List.getD_eq_getElem?_getD, List.getElem?_eq_getElem h1, Option.getD_some, h2]
theorem fieldK_range {s : Sy} {k : Int} (h : fieldK s = some k) : 2 ≤ k ∧ k ≤ 4 := by
  cases s with
  | num => cases h
  | tx w =>
    simp only [fieldK] at h
    split at h
    · injection h; omega
    · split at h
      · injection h; omega
      · split at h
        · injection h; omega
        · cases h
theorem fieldSy_fieldK {s : Sy} {k : Int} (h : fieldK s = some k) : s = fieldSy k := by
  cases s with
  | num => cases h
  | tx w =>
    simp only [fieldK] at h
    split at h
    · rename_i e; injection h with h; subst h; subst e; rfl
    · split at h
      · rename_i e; injection h with h; subst h; subst e; rfl
      · split at h
        · rename_i e; injection h with h; subst h; subst e; rfl
        · cases h
theorem fieldK_fieldSy {k : Int} (h : 2 ≤ k) (h' : k ≤ 4) : fieldK (fieldSy k) = some k := by
  have : k = 2 ∨ k = 3 ∨ k = 4 := by omega
  rcases this with rfl | rfl | rfl <;> decide

/-- Tokens that the grammar derives from a line. -/
inductive D : Nat → List Tk → T → Prop
  | num (n p : Int) : D 8 [(.num n, p)] (.leaf 1 n p)
  | fld (s : Sy) (k p : Int) : fieldK s = some k → D 8 [(s, p)] (.leaf k 0 p)
  | par (w : List Tk) (t : T) (p q : Int) : D 0 w t → D 8 ((sLp, p) :: (w ++ [(sRp, q)])) t
  | neg (w : List Tk) (t : T) (p : Int) : D 7 w t → D 7 ((sMinus, p) :: w) (.un 5 p t)
  | not (w : List Tk) (t : T) (p : Int) : D 2 w t → D 2 ((sNot, p) :: w) (.un 6 p t)
  | bin (l : Nat) (w1 w2 : List Tk) (s : Sy) (k p : Int) (a b : T) : opK s = some k → lvK k = l → l ≠ 3 → D l w1 a → D (l + 1) w2 b → D l (w1 ++ (s, p) :: w2) (.bin k p a b)
  | cmp (w1 w2 : List Tk) (s : Sy) (k p : Int) (a b : T) : opK s = some k → lvK k = 3 → D 4 w1 a → D 4 w2 b → D 3 (w1 ++ (s, p) :: w2) (.bin k p a b)
  | up (l : Nat) (w : List Tk) (t : T) : l < 8 → D (l + 1) w t → D l w t

theorem D.le {l : Nat} {w : List Tk} {t : T} (h : D l w t) : l ≤ 8 := by
  induction h with
  | bin l w1 w2 s k p a b hk hl _ _ _ _ ih => omega
  | up l w t hl _ _ => omega
  | _ => omega
theorem D.down {l : Nat} {w : List Tk} {t : T} (h : D l w t) : ∀ l', l' ≤ l → D l' w t := by
  intro l' hl
  have h8 := h.le
  obtain ⟨d, hd⟩ : ∃ d, l = l' + d := ⟨l - l', by omega⟩
  induction d generalizing l with
  | zero => subst hd; exact h
  | succ d ih => exact ih (.up (l' + d) w t (by omega) (by rw [hd] at h; exact h)) (by omega) (by omega) rfl

/-! ### The parser: Res: what is left at an error, and the error; or a tree and what is left -/
inductive Res where
  | bad (rest : List Tk) (e : Int)
  | ok (t : T) (rest : List Tk)
deriving DecidableEq
/-- What becomes of a node that was made at a token: 'at_' are the tokens from it on. -/
def mk (at_ : List Tk) (t : T) (rest : List Tk) : Res :=
  if t.size > 60 then .bad at_ 4 else if t.depth > 20 then .bad at_ 34 else .ok t rest
def isSym (s : Sy) : List Tk → Bool
  | [] => false
  | (x, _) :: _ => x == s
/-- Which binary operator of a line stands next. -/
def nextOp (l : Nat) : List Tk → Option Int
  | [] => none
  | (s, _) :: _ => match opK s with
    | none => none
    | some k => if lvK k = l then some k else none

def pos : List Tk → Int
  | [] => 0
  | (_, p) :: _ => p
def numOf : List Tk → Option Int
  | (.num n, _) :: _ => some n
  | _ => none
def fieldOf : List Tk → Option Int
  | [] => none
  | (s, _) :: _ => fieldK s
/-- What follows where a tree was parsed. -/
def thn (o : Option Res) (f : T → List Tk → Option Res) : Option Res :=
  match o with
  | none => none
  | some (.bad r e) => some (.bad r e)
  | some (.ok t r) => f t r
def signOf (l : Nat) : Sy := if l = 2 then sNot else sMinus
def signK (l : Nat) : Int := if l = 2 then 6 else 5
/-- 'none': a line is parsed; 'some t': it goes on behind t. -/
def go : Nat → Nat → Option T → List Tk → Option Res
  | 0, _, _, _ => none
  | f + 1, l, some t, w =>
    match nextOp l w with
    | none => some (.ok t w)
    | some k => thn (go f (l + 1) none w.tail) fun b r => thn (some (mk w (.bin k (pos w) t b) r)) fun t' r' => if l = 3 then some (.ok t' r') else go f l (some t') r'
  | f + 1, l, none, w =>
    if l = 8 then
      match numOf w with
      | some n => some (mk w (.leaf 1 n (pos w)) w.tail)
      | none => match fieldOf w with
        | some k => some (mk w (.leaf k 0 (pos w)) w.tail)
        | none => if isSym sLp w = true then thn (go f 0 none w.tail) fun t r => if isSym sRp r = true then some (.ok t r.tail) else some (.bad r 12) else some (.bad w 12)
    else if l = 2 ∨ l = 7 then
      if isSym (signOf l) w = true then thn (go f l none w.tail) fun t r => some (mk w (.un (signK l) (pos w) t) r) else go f (l + 1) none w
    else thn (go f (l + 1) none w) fun t r => go f l (some t) r

def LeR (a b : Option Res) : Prop := ∀ r, a = some r → b = some r
theorem LeR.refl (a : Option Res) : LeR a a := fun _ h => h
theorem LeR.thn {a a' : Option Res} {f f' : T → List Tk → Option Res} (h : LeR a a') (hf : ∀ t r, LeR (f t r) (f' t r)) : LeR (thn a f) (thn a' f') := by
  intro r hr
  cases a with
  | none => cases hr
  | some x =>
    rw [h x rfl]
    cases x with
    | bad r' e => exact hr
    | ok t r' => exact hf t r' r hr
theorem LeR.ite {c : Prop} [Decidable c] {a a' b b' : Option Res} (h : LeR a a') (k : LeR b b') : LeR (if c then a else b) (if c then a' else b') := by
  split
  · exact h
  · exact k
/-- More fuel changes nothing. -/
theorem go_mono : ∀ (f l : Nat) (o : Option T) (w : List Tk), LeR (go f l o w) (go (f + 1) l o w) := by
  intro f
  induction f with
  | zero => intro l o w r h; cases h
  | succ f ih =>
    intro l o w
    cases o with
    | some t =>
      show LeR (match nextOp l w with | none => _ | some k => _) (match nextOp l w with | none => _ | some k => _)
      cases nextOp l w with
      | none => exact LeR.refl _
      | some k => exact LeR.thn (ih _ _ _) fun b r => LeR.thn (LeR.refl _) fun t' r' => LeR.ite (LeR.refl _) (ih _ _ _)
    | none =>
      refine LeR.ite ?_ (LeR.ite (LeR.ite (LeR.thn (ih _ _ _) fun t r => LeR.refl _) (ih _ _ _)) (LeR.thn (ih _ _ _) fun t r => ih _ _ _))
      show LeR (match numOf w with | some n => _ | none => _) (match numOf w with | some n => _ | none => _)
      cases numOf w with
      | some n => exact LeR.refl _
      | none =>
        show LeR (match fieldOf w with | some n => _ | none => _) (match fieldOf w with | some n => _ | none => _)
        cases fieldOf w with
        | some n => exact LeR.refl _
        | none => exact LeR.ite (LeR.thn (ih _ _ _) fun t r => LeR.refl _) (LeR.refl _)
theorem go_more {f f' l : Nat} {o : Option T} {w : List Tk} {r : Res} (h : go f l o w = some r) (hf : f ≤ f') : go f' l o w = some r := by
  obtain ⟨d, rfl⟩ : ∃ d, f' = f + d := ⟨f' - f, by omega⟩
  clear hf
  induction d with
  | zero => exact h
  | succ d ih => exact go_mono _ _ _ _ _ ih

/-! ### What was parsed is derived -/
def Fits (t : T) : Prop := t.size ≤ 60 ∧ t.depth ≤ 20
theorem mk_ok {at_ r r' : List Tk} {t t' : T} (h : mk at_ t r = .ok t' r') : t' = t ∧ r' = r ∧ Fits t := by
  unfold mk at h
  split at h
  · cases h
  · split at h
    · cases h
    · injection h with h1 h2
      exact ⟨h1.symm, h2.symm, by unfold Fits; omega⟩
theorem mk_fits {at_ r : List Tk} {t : T} (h : Fits t) : mk at_ t r = .ok t r := by
  unfold mk
  rw [if_neg (by have := h.1; omega), if_neg (by have := h.2; omega)]
theorem thn_ok {o : Option Res} {f : T → List Tk → Option Res} {t : T} {r : List Tk} (h : thn o f = some (.ok t r)) : ∃ t' r', o = some (.ok t' r') ∧ f t' r' = some (.ok t r) := by
  cases o with
  | none => cases h
  | some x =>
    cases x with
    | bad r' e => simp [thn] at h
    | ok t' r' => exact ⟨t', r', rfl, h⟩
theorem isSym_cons {s : Sy} {w : List Tk} (h : isSym s w = true) : ∃ p w', w = (s, p) :: w' := by
  cases w with
  | nil => cases h
  | cons x w' =>
    obtain ⟨y, p⟩ := x
    simp only [isSym, beq_iff_eq] at h
    subst h
    exact ⟨p, w', rfl⟩
theorem numOf_cons {n : Int} {w : List Tk} (h : numOf w = some n) : ∃ p w', w = (.num n, p) :: w' := by
  cases w with
  | nil => cases h
  | cons x w' =>
    obtain ⟨y, p⟩ := x
    cases y with
    | num m => simp only [numOf, Option.some.injEq] at h; subst h; exact ⟨p, w', rfl⟩
    | tx _ => cases h
theorem fieldOf_cons {k : Int} {w : List Tk} (h : fieldOf w = some k) : ∃ s p w', w = (s, p) :: w' ∧ fieldK s = some k := by
  cases w with
  | nil => cases h
  | cons x w' => exact ⟨x.1, x.2, w', rfl, h⟩
theorem nextOp_cons {l : Nat} {k : Int} {w : List Tk} (h : nextOp l w = some k) : ∃ s p w', w = (s, p) :: w' ∧ opK s = some k ∧ lvK k = l := by
  cases w with
  | nil => cases h
  | cons x w' =>
    obtain ⟨s, p⟩ := x
    simp only [nextOp] at h
    cases hs : opK s with
    | none => rw [hs] at h; cases h
    | some k' =>
      rw [hs] at h
      simp only at h
      split at h
      · injection h with h; subst h; exact ⟨s, p, w', rfl, hs, by assumption⟩
      · cases h
theorem lvK_ne {k : Int} : lvK k ≠ 2 ∧ lvK k ≠ 7 ∧ lvK k ≠ 8 ∧ lvK k ≤ 6 := by
  unfold lvK
  repeat' split
  all_goals decide

theorem go_sound : ∀ (f l : Nat) (o : Option T) (w : List Tk) (t : T) (r : List Tk), l ≤ 8 → go f l o w = some (.ok t r) →
    match o with
    | none => ∃ w1, w = w1 ++ r ∧ D l w1 t ∧ Fits t
    | some t0 => ∃ w1, w = w1 ++ r ∧ (l ≠ 3 → ∀ w0, D l w0 t0 → D l (w0 ++ w1) t) ∧ (l = 3 → ∀ w0, D 4 w0 t0 → D 3 (w0 ++ w1) t) ∧ (Fits t0 → Fits t) := by
  intro f
  induction f with
  | zero => intro l o w t r _ h; cases h
  | succ f ih =>
    intro l o w t r hl8 h
    cases o with
    | some t0 =>
      simp only [go] at h
      cases hn : nextOp l w with
      | none =>
        rw [hn] at h
        simp only [Option.some.injEq, Res.ok.injEq] at h
        obtain ⟨rfl, rfl⟩ := h
        exact ⟨[], rfl, fun _ w0 h => by simpa using h, fun h3 w0 h => by subst h3; simpa using D.up 3 _ _ (by omega) h, fun h => h⟩
      | some k =>
        rw [hn] at h
        simp only at h
        obtain ⟨s, p, w', rfl, hk, hlv⟩ := nextOp_cons hn
        obtain ⟨b, r1, hb, g1⟩ := thn_ok h
        clear h
        obtain ⟨t1, r2, hm, g2⟩ := thn_ok g1
        clear g1
        injection hm with hm
        obtain ⟨rfl, rfl, hfit⟩ := mk_ok hm
        simp only [List.tail_cons] at hb
        obtain ⟨w1, rfl, hD, _⟩ := ih _ _ _ _ _ (by have := @lvK_ne k; omega) hb
        simp only [pos] at hfit g2
        have h := g2
        clear g2
        split at h
        · rename_i h3
          simp only [Option.some.injEq, Res.ok.injEq] at h
          obtain ⟨rfl, rfl⟩ := h
          subst h3
          refine ⟨(s, p) :: w1, by simp, fun h => absurd rfl h, fun _ w0 h0 => ?_, fun _ => hfit⟩
          exact D.cmp w0 w1 s k p t0 b hk hlv h0 hD
        · rename_i h3
          obtain ⟨w2, rfl, h1, h2, h4⟩ := ih _ _ _ _ _ hl8 h
          refine ⟨(s, p) :: (w1 ++ w2), by simp, fun _ w0 h0 => ?_, fun h => absurd h h3, fun _ => h4 hfit⟩
          have := h1 h3 _ (D.bin l w0 w1 s k p t0 b hk hlv h3 h0 hD)
          simpa using this
    | none =>
      simp only [go] at h
      split at h
      · rename_i hl
        subst hl
        cases hn : numOf w with
        | some n =>
          rw [hn] at h
          obtain ⟨p, w', rfl⟩ := numOf_cons hn
          simp only [Option.some.injEq] at h
          obtain ⟨rfl, rfl, hfit⟩ := mk_ok h
          exact ⟨[(.num n, p)], by simp, D.num n p, hfit⟩
        | none =>
          rw [hn] at h
          simp only at h
          cases hf : fieldOf w with
          | some k =>
            rw [hf] at h
            obtain ⟨s, p, w', rfl, hs⟩ := fieldOf_cons hf
            simp only [Option.some.injEq] at h
            obtain ⟨rfl, rfl, hfit⟩ := mk_ok h
            exact ⟨[(s, p)], by simp, D.fld s k p hs, hfit⟩
          | none =>
            rw [hf] at h
            simp only at h
            split at h
            · rename_i hp
              obtain ⟨p, w', rfl⟩ := isSym_cons hp
              obtain ⟨t', r', hg, h⟩ := thn_ok h
              obtain ⟨w1, hw, hD, hfit⟩ := ih _ _ _ _ _ (by omega) hg
              split at h
              · rename_i hq
                obtain ⟨q, w2, rfl⟩ := isSym_cons hq
                simp only [Option.some.injEq, Res.ok.injEq] at h
                obtain ⟨rfl, rfl⟩ := h
                simp only [List.tail_cons] at hw ⊢
                subst hw
                exact ⟨(sLp, p) :: (w1 ++ [(sRp, q)]), by simp, D.par w1 t' p q hD, hfit⟩
              · simp at h
            · simp at h
      · rename_i hl
        split at h
        · rename_i h27
          split at h
          · rename_i hs
            obtain ⟨p, w', rfl⟩ := isSym_cons hs
            obtain ⟨t', r', hg, h⟩ := thn_ok h
            obtain ⟨w1, hw, hD, _⟩ := ih _ _ _ _ _ hl8 hg
            simp only [List.tail_cons] at hw
            subst hw
            simp only [Option.some.injEq, pos] at h
            obtain ⟨rfl, rfl, hfit⟩ := mk_ok h
            refine ⟨(signOf l, p) :: w1, by simp, ?_, hfit⟩
            rcases h27 with rfl | rfl
            · exact D.not w1 t' p hD
            · exact D.neg w1 t' p hD
          · obtain ⟨w1, rfl, hD, hfit⟩ := ih _ _ _ _ _ (by omega) h
            exact ⟨w1, rfl, D.up l w1 t (by omega) hD, hfit⟩
        · rename_i h27
          obtain ⟨t', r', hg, g1⟩ := thn_ok h
          obtain ⟨w1, rfl, hD, hfit⟩ := ih _ _ _ _ _ (by omega) hg
          obtain ⟨w2, rfl, h1, h2, h3⟩ := ih _ _ _ _ _ hl8 g1
          refine ⟨w1 ++ w2, by simp, ?_, h3 hfit⟩
          by_cases h3 : l = 3
          · exact h3 ▸ h2 h3 w1 (by subst h3; exact hD)
          · exact h1 h3 w1 (D.up l w1 t' (by omega) hD)

/-! ### What is derived is parsed -/
theorem D.head_not {l : Nat} {w : List Tk} {t : T} (h : D l w t) : 3 ≤ l → ∀ r, isSym sNot (w ++ r) = false := by
  induction h with
  | num => intro _ r; rfl
  | fld s k p h =>
    intro _ r
    have := fieldSy_fieldK h
    have hk := fieldK_range h
    subst this
    have : k = 2 ∨ k = 3 ∨ k = 4 := by omega
    rcases this with rfl | rfl | rfl <;> rfl
  | par => intro _ r; rfl
  | neg => intro _ r; rfl
  | not => intro h; omega
  | bin l w1 w2 s k p a b _ _ _ _ _ ih _ => intro hl r; rw [List.append_assoc]; exact ih hl _
  | cmp w1 w2 s k p a b _ _ _ _ ih _ => intro hl r; rw [List.append_assoc]; exact ih (by omega) _
  | up l w t _ _ ih => intro hl r; exact ih (by omega) r
theorem D.head_minus {l : Nat} {w : List Tk} {t : T} (h : D l w t) : l = 8 → ∀ r, isSym sMinus (w ++ r) = false := by
  cases h with
  | num => intro _ r; rfl
  | fld s k p h =>
    intro _ r
    have := fieldSy_fieldK h
    have hk := fieldK_range h
    subst this
    have : k = 2 ∨ k = 3 ∨ k = 4 := by omega
    rcases this with rfl | rfl | rfl <;> rfl
  | par => intro _ r; rfl
  | neg => intro h; omega
  | not => intro h; omega
  | bin _ w1 w2 s k p a b hk hl => intro h; have := @lvK_ne k; omega
  | cmp => intro h; omega
  | up l w t hl => intro h; omega
/-- No operator of this line, or of one behind it, stands next. -/
def Fol (l : Nat) (r : List Tk) : Prop := ∀ l', l ≤ l' → nextOp l' r = none
theorem Fol.op {l : Nat} {s : Sy} {k p : Int} {r : List Tk} (hk : opK s = some k) (hl : lvK k < l) : Fol l ((s, p) :: r) := by
  intro l' h
  simp only [nextOp, hk]
  rw [if_neg (by omega)]
theorem Fol.rp {l : Nat} {q : Int} {r : List Tk} : Fol l ((sRp, q) :: r) := fun _ _ => rfl
theorem Fol.nil {l : Nat} : Fol l [] := fun _ _ => rfl
theorem Fol.mono {l l' : Nat} {r : List Tk} (h : Fol l r) (hl : l ≤ l') : Fol l' r := fun m hm => h m (by omega)

def chain (l : Nat) : Prop := l ≠ 2 ∧ l ≠ 3 ∧ l ≠ 7 ∧ l ≠ 8
theorem go_up {f l : Nat} {w r : List Tk} {t : T} {R : Res} (hl : l ≤ 6) (h2 : l ≠ 2) (h : go f (l + 1) none w = some (.ok t r)) (hg : go f l (some t) r = some R) : go (f + 1) l none w = some R := by
  simp only [go]
  rw [if_neg (by omega), if_neg (by omega), h]
  exact hg
theorem fits_un {k p : Int} {a : T} (h : Fits (.un k p a)) : Fits a := by
  have h1 := h.1; have h2 := h.2
  simp only [T.size, T.depth] at h1 h2
  exact ⟨by omega, by omega⟩
theorem fits_bin {k p : Int} {a b : T} (h : Fits (.bin k p a b)) : Fits a ∧ Fits b := by
  have h1 := h.1; have h2 := h.2
  simp only [T.size, T.depth] at h1 h2
  exact ⟨⟨by omega, by omega⟩, ⟨by omega, by omega⟩⟩

theorem go_complete {l : Nat} {w : List Tk} {t : T} (h : D l w t) : Fits t →
    (chain l → ∀ r, Fol (l + 1) r → ∀ f R, go f l (some t) r = some R → ∃ f', go f' l none (w ++ r) = some R) ∧
    (∀ r, Fol l r → ∃ f', go f' l none (w ++ r) = some (.ok t r)) := by
  have key : ∀ {l : Nat} {w : List Tk} {t : T}, (chain l → ∀ r, Fol (l + 1) r → ∀ f R, go f l (some t) r = some R → ∃ f', go f' l none (w ++ r) = some R) → (chain l → ∀ r, Fol l r → ∃ f', go f' l none (w ++ r) = some (.ok t r)) := by
    intro l w t h hc r hr
    refine h hc r (hr.mono (by omega)) 1 _ ?_
    simp only [go]
    rw [hr l (Nat.le_refl _)]
  induction h with
  | num n p =>
    intro hf
    refine ⟨fun h => absurd rfl h.2.2.2, fun r _ => ⟨1, ?_⟩⟩
    simp only [go, List.cons_append, List.nil_append, if_true, numOf, pos, List.tail_cons]
    rw [mk_fits hf]
  | fld s k p hs =>
    intro hf
    refine ⟨fun h => absurd rfl h.2.2.2, fun r _ => ⟨1, ?_⟩⟩
    have hn : numOf ((s, p) :: r) = none := by
      have := fieldSy_fieldK hs
      have hk := fieldK_range hs
      subst this
      have : k = 2 ∨ k = 3 ∨ k = 4 := by omega
      rcases this with rfl | rfl | rfl <;> rfl
    simp only [go, List.cons_append, List.nil_append, if_true, hn, fieldOf, hs, pos, List.tail_cons]
    rw [mk_fits hf]
  | par w t p q _ ih =>
    intro hf
    refine ⟨fun h => absurd rfl h.2.2.2, fun r _ => ?_⟩
    obtain ⟨f, hg⟩ := (ih hf).2 ((sRp, q) :: r) Fol.rp
    refine ⟨f + 1, ?_⟩
    have e : w ++ [(sRp, q)] ++ r = w ++ (sRp, q) :: r := by simp
    simp only [go, List.cons_append, if_true, pos, List.tail_cons, e]
    rw [show numOf ((sLp, p) :: (w ++ (sRp, q) :: r)) = none from rfl, show fieldOf ((sLp, p) :: (w ++ (sRp, q) :: r)) = none from rfl]
    simp only
    rw [show isSym sLp ((sLp, p) :: (w ++ (sRp, q) :: r)) = true from rfl, if_pos rfl, hg]
    rfl
  | neg w t p _ ih =>
    intro hf
    refine ⟨fun h => absurd rfl h.2.2.1, fun r hr => ?_⟩
    obtain ⟨f, hg⟩ := (ih (fits_un hf)).2 r hr
    refine ⟨f + 1, ?_⟩
    simp only [go, List.cons_append, List.tail_cons]
    rw [if_neg (by decide), if_pos (by decide), if_pos (show isSym (signOf 7) ((sMinus, p) :: (w ++ r)) = true from rfl), hg]
    simp only [thn, pos]
    rw [show signK 7 = 5 from rfl, mk_fits hf]
  | not w t p _ ih =>
    intro hf
    refine ⟨fun h => absurd rfl h.1, fun r hr => ?_⟩
    obtain ⟨f, hg⟩ := (ih (fits_un hf)).2 r hr
    refine ⟨f + 1, ?_⟩
    simp only [go, List.cons_append, List.tail_cons]
    rw [if_neg (by decide), if_pos (by decide), if_pos (show isSym (signOf 2) ((sNot, p) :: (w ++ r)) = true from rfl), hg]
    simp only [thn, pos]
    rw [show signK 2 = 6 from rfl, mk_fits hf]
  | bin l w1 w2 s k p a b hk hlv h3 _ _ iha ihb =>
    intro hf
    have hlv' := @lvK_ne k
    have hc : chain l := ⟨by omega, h3, by omega, by omega⟩
    have main : chain l → ∀ r, Fol (l + 1) r → ∀ f R, go f l (some (.bin k p a b)) r = some R → ∃ f', go f' l none (w1 ++ (s, p) :: w2 ++ r) = some R := by
      intro _ r hr f R hg
      obtain ⟨fb, hb⟩ := (ihb (fits_bin hf).2).2 r hr
      have h1 : go (max f fb + 1) l (some a) ((s, p) :: (w2 ++ r)) = some R := by
        simp only [go, nextOp, hk, List.tail_cons, pos]
        rw [if_pos hlv]
        simp only
        rw [go_more hb (Nat.le_max_right f fb)]
        simp only [thn]
        rw [mk_fits hf]
        simp only
        rw [if_neg h3]
        exact go_more hg (Nat.le_max_left _ _)
      obtain ⟨f', h2⟩ := (iha (fits_bin hf).1).1 hc _ (Fol.op hk (by omega)) _ _ h1
      exact ⟨f', by rw [List.append_assoc]; exact h2⟩
    exact ⟨main, key main hc⟩
  | cmp w1 w2 s k p a b hk hlv _ _ iha ihb =>
    intro hf
    refine ⟨fun h => absurd rfl h.2.1, fun r hr => ?_⟩
    obtain ⟨fb, hb⟩ := (ihb (fits_bin hf).2).2 r (hr.mono (by omega))
    obtain ⟨fa, ha⟩ := (iha (fits_bin hf).1).2 ((s, p) :: (w2 ++ r)) (Fol.op hk (by omega))
    refine ⟨max fa (fb + 1) + 1, ?_⟩
    rw [List.append_assoc]
    refine go_up (by omega) (by omega) (go_more ha (Nat.le_max_left _ _)) (go_more (f := fb + 1) ?_ (Nat.le_max_right _ _))
    simp only [go, nextOp, hk, List.tail_cons, pos]
    rw [if_pos hlv]
    simp only
    rw [hb]
    simp only [thn]
    rw [mk_fits hf]
    simp
  | up l w t hl hD ih =>
    intro hf
    obtain ⟨_, ih⟩ := ih hf
    by_cases hc : chain l ∨ l = 3
    · have main : ∀ r, Fol (l + 1) r → ∀ f R, go f l (some t) r = some R → ∃ f', go f' l none (w ++ r) = some R := by
        intro r hr f R hg
        obtain ⟨f1, h1⟩ := ih r hr
        have h67 : l ≤ 6 ∧ l ≠ 2 := by
          rcases hc with hc | hc
          · unfold chain at hc; omega
          · omega
        exact ⟨max f1 f + 1, go_up h67.1 h67.2 (go_more h1 (Nat.le_max_left _ _)) (go_more hg (Nat.le_max_right _ _))⟩
      refine ⟨fun _ => main, fun r hr => main r (hr.mono (by omega)) 1 _ ?_⟩
      simp only [go]
      rw [hr l (Nat.le_refl _)]
    · have h27 : l = 2 ∨ l = 7 := by unfold chain at hc; omega
      refine ⟨fun h => absurd (Or.inl h) hc, fun r hr => ?_⟩
      obtain ⟨f1, h1⟩ := ih r (hr.mono (by omega))
      have hs : isSym (signOf l) (w ++ r) = false := by
        rcases h27 with rfl | rfl
        · exact hD.head_not (by omega) r
        · exact hD.head_minus rfl r
      refine ⟨f1 + 1, ?_⟩
      simp only [go]
      rw [if_neg (by omega), if_pos h27, hs, if_neg (by decide)]
      exact h1
end Tw
