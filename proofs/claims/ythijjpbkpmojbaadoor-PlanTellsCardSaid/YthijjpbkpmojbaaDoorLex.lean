import Derived.Test.YthijjpbkpmojbaaDoorShow
/-! Bytes and tokens. -/
namespace Tw
def isBlank (c : UInt8) : Bool := c == 32 || c == 10
def isDigit (c : UInt8) : Bool := 48 ≤ c && c ≤ 57
def isLetter (c : UInt8) : Bool := 97 ≤ c && c ≤ 122
/-- The kind of a byte. -/
def chK (c : UInt8) : Int :=
  if isBlank c then 1 else if isDigit c then 2 else if isLetter c then 3
  else if (40 ≤ c && c ≤ 43) || (60 ≤ c && c ≤ 62) || c == 45 || c == 33 then 4 else 0
/-- How many bytes the symbol has with which a text begins, or 0. -/
def symL : List UInt8 → Nat
  | [] => 0
  | c :: s => if chK c = 4 then
      (match s with
        | [] => if c = 33 then 0 else 1
        | d :: _ => if (c = 60 ∧ (d = 61 ∨ d = 60)) ∨ (c = 62 ∧ (d = 61 ∨ d = 62)) ∨ (c = 33 ∧ d = 61) then 2 else if c = 33 then 0 else 1)
    else 0
def words : List (List UInt8) := [
  [115, 101, 108, 101, 99, 116], [102, 114, 111, 109], [119, 104, 101, 114, 101], [119, 105, 110, 100, 111, 119], [98, 121], [107, 101, 121], [108, 97, 116, 101], [100, 114, 111, 112], [115, 105, 100, 101],
  [99, 111, 117, 110, 116], [115, 117, 109], [109, 105, 110], [109, 97, 120], [97, 110, 100], [111, 114], [110, 111, 116],
  [117, 110, 105, 111, 110], [106, 111, 105, 110], [116, 117, 109, 98, 108, 101], [115, 108, 105, 100, 101], [101, 118, 101, 114, 121], [115, 101, 115, 115, 105, 111, 110],
  [97], [98], [99], [100], [107], [116], [118]]
def isWord (x : List UInt8) : Bool := words.contains x
/-- The number that digits are. -/
def val (x : List UInt8) : Nat := x.foldl (fun n c => 10 * n + (c.toNat - 48)) 0
/-- A token: its kind, its text, where it stands. -/
structure Lx where
  k : Int
  x : List UInt8
  p : Int
deriving DecidableEq, Inhabited
def maxInt : Nat := 9223372036854775807
/-- The token with which a text begins that begins with no blank; its error. -/
def lex1 (p : Int) (s : List UInt8) : Lx × Int :=
  if chK (s.headD 0) = 2 then (⟨1, s.takeWhile isDigit, p⟩, if val (s.takeWhile isDigit) ≤ maxInt then 0 else 16)
  else if chK (s.headD 0) = 3 then (⟨2, s.takeWhile isLetter, p⟩, if isWord (s.takeWhile isLetter) then 0 else 32)
  else (⟨3, s.take (symL s), p⟩, if symL s = 0 then 32 else 0)
inductive LRes where
  | bad (p : Int) (e : Int)
  | ok (l : List Lx)
deriving DecidableEq
/-- The tokens from a place on, 'n' being there already. -/
def lexA : Nat → Nat → Int → List UInt8 → Option LRes
  | 0, _, _, _ => none
  | _ + 1, _, _, [] => some (.ok [])
  | f + 1, n, p, c :: s =>
    if isBlank c then lexA f n (p + 1) s
    else if n = 200 then some (.bad p 4)
    else if (lex1 p (c :: s)).2 = 0 then
      match lexA f (n + 1) (p + (lex1 p (c :: s)).1.x.length) ((c :: s).drop (lex1 p (c :: s)).1.x.length) with
      | none => none
      | some (.bad p' e) => some (.bad p' e)
      | some (.ok l) => some (.ok ((lex1 p (c :: s)).1 :: l))
    else some (.bad p (lex1 p (c :: s)).2)
def lexAll (s : List UInt8) : LRes := if s.length > 400 then .bad 0 4 else (lexA (s.length + 1) 0 0 s).getD (.ok [])

def symbols : List (List UInt8) := [[60, 61], [60, 60], [62, 61], [62, 62], [33, 61], [40], [41], [42], [43], [45], [60], [62], [61]]
/-- A token's text is one. -/
def TokX (k : Int) (x : List UInt8) : Prop :=
  (k = 1 ∧ x ≠ [] ∧ (∀ c ∈ x, isDigit c = true) ∧ val x ≤ maxInt) ∨ (k = 2 ∧ x ∈ words) ∨ (k = 3 ∧ x ∈ symbols)
/-- What stands behind a token's text doesn't belong to it. -/
def Sep (k : Int) (x s : List UInt8) : Prop :=
  (k = 1 → ∀ c s', s = c :: s' → isDigit c = false) ∧ (k = 2 → ∀ c s', s = c :: s' → isLetter c = false) ∧
  (k = 3 → ∀ c s', s = c :: s' → (x = [60] → c ≠ 61 ∧ c ≠ 60) ∧ (x = [62] → c ≠ 61 ∧ c ≠ 62))
/-- A text has tokens, from a place on. -/
inductive Lex : Int → List UInt8 → List Lx → Prop
  | nil (p : Int) : Lex p [] []
  | blank (p : Int) (c : UInt8) (s : List UInt8) (l : List Lx) : isBlank c = true → Lex (p + 1) s l → Lex p (c :: s) l
  | tok (p k : Int) (x s : List UInt8) (l : List Lx) : TokX k x → Sep k x s → Lex (p + x.length) s l → Lex p (x ++ s) (⟨k, x, p⟩ :: l)

theorem words_letters : ∀ x ∈ words, x ≠ [] ∧ ∀ c ∈ x, isLetter c = true := by decide
theorem symbols_all : ∀ x ∈ symbols, (x.length = 1 ∨ x.length = 2) ∧ ∀ c ∈ x, chK c = 4 := by decide
theorem TokX.pos {k : Int} {x : List UInt8} (h : TokX k x) : x ≠ [] := by
  rcases h with ⟨_, h, _⟩ | ⟨_, h⟩ | ⟨_, h⟩
  · exact h
  · exact (words_letters x h).1
  · have := (symbols_all x h).1
    rintro rfl
    simp at this
theorem takeWhile_stop {p : UInt8 → Bool} {x s : List UInt8} (h : ∀ c ∈ x, p c = true) (hs : ∀ c s', s = c :: s' → p c = false) : (x ++ s).takeWhile p = x := by
  induction x with
  | nil =>
    cases s with
    | nil => rfl
    | cons c s' => simp [hs c s' rfl]
  | cons c x ih => simp [h c (by simp), ih (fun d hd => h d (by simp [hd]))]
theorem chK_digit {c : UInt8} (h : isDigit c = true) : chK c = 2 ∧ isBlank c = false := by
  have hb : isBlank c = false := by
    simp only [isDigit, Bool.and_eq_true, decide_eq_true_eq] at h
    simp only [isBlank, Bool.or_eq_false_iff, beq_eq_false_iff_ne]
    constructor
    · rintro rfl; exact absurd h.1 (by decide)
    · rintro rfl; exact absurd h.1 (by decide)
  exact ⟨by simp [chK, hb, h], hb⟩
theorem chK_letter {c : UInt8} (h : isLetter c = true) : chK c = 3 ∧ isBlank c = false := by
  simp only [isLetter, Bool.and_eq_true, decide_eq_true_eq] at h
  have hb : isBlank c = false := by
    simp only [isBlank, Bool.or_eq_false_iff, beq_eq_false_iff_ne]
    constructor
    · rintro rfl; exact absurd h.1 (by decide)
    · rintro rfl; exact absurd h.1 (by decide)
  have hd : isDigit c = false := by
    simp only [isDigit, Bool.and_eq_false_iff, decide_eq_false_iff_not]
    right
    intro h'
    have h1 := UInt8.le_iff_toNat_le.1 h.1
    have h2 := UInt8.le_iff_toNat_le.1 h'
    simp at h1 h2
    omega
  exact ⟨by simp [chK, hb, hd, isLetter, h], hb⟩
theorem chK_four {c : UInt8} (h : chK c = 4) : isBlank c = false ∧ isDigit c = false ∧ isLetter c = false := by
  unfold chK at h
  split at h
  · simp at h
  · split at h
    · simp at h
    · split at h
      · simp at h
      · simp_all
theorem lex1_tok {p k : Int} {x s : List UInt8} (h : TokX k x) (hs : Sep k x s) : lex1 p (x ++ s) = (⟨k, x, p⟩, 0) ∧ ∃ c t, x = c :: t ∧ isBlank c = false := by
  have hp := h.pos
  rcases h with ⟨rfl, _, hd, hv⟩ | ⟨rfl, hw⟩ | ⟨rfl, hy⟩
  · obtain ⟨c, t, rfl⟩ : ∃ c t, x = c :: t := by cases x with | nil => exact absurd rfl hp | cons c t => exact ⟨c, t, rfl⟩
    have ht := takeWhile_stop (p := isDigit) (s := s) hd (hs.1 rfl)
    obtain ⟨h1, h2⟩ := chK_digit (hd c (by simp))
    refine ⟨?_, c, t, rfl, h2⟩
    unfold lex1
    rw [show (c :: t ++ s).headD 0 = c from rfl, if_pos h1, ht, if_pos hv]
  · obtain ⟨_, hl⟩ := words_letters x hw
    obtain ⟨c, t, rfl⟩ : ∃ c t, x = c :: t := by cases x with | nil => exact absurd rfl hp | cons c t => exact ⟨c, t, rfl⟩
    have ht := takeWhile_stop (p := isLetter) (s := s) hl (hs.2.1 rfl)
    obtain ⟨h1, h2⟩ := chK_letter (hl c (by simp))
    refine ⟨?_, c, t, rfl, h2⟩
    unfold lex1
    rw [show (c :: t ++ s).headD 0 = c from rfl, if_neg (by rw [h1]; decide), if_pos h1, ht, if_pos (by simpa [isWord] using hw)]
  · have hsym : symL (x ++ s) = x.length := by
      have h3 := hs.2.2 rfl
      simp only [symbols, List.mem_cons, List.not_mem_nil, or_false] at hy
      rcases hy with rfl | rfl | rfl | rfl | rfl | rfl | rfl | rfl | rfl | rfl | rfl | rfl | rfl <;> first
        | rfl
        | (cases s with
          | nil => rfl
          | cons d s' =>
            have := h3 d s' rfl
            simp only [List.cons_append, List.nil_append, symL]
            simp_all
            try decide)
    obtain ⟨_, h4⟩ := symbols_all x hy
    obtain ⟨c, t, rfl⟩ : ∃ c t, x = c :: t := by cases x with | nil => exact absurd rfl hp | cons c t => exact ⟨c, t, rfl⟩
    have hc := h4 c (by simp)
    refine ⟨?_, c, t, rfl, (chK_four hc).1⟩
    unfold lex1
    rw [show (c :: t ++ s).headD 0 = c from rfl, if_neg (by rw [hc]; decide), if_neg (by rw [hc]; decide), hsym, List.take_left, if_neg (by simp)]
end Tw
