import Derived.Test.YthijjpbkpmojbaaDoorCheck
import Derived.Maps.OwnOps
import Derived.Maps.OwnSet
namespace Go.Proofs.YthijjpbkpmojbaaDoor
open Go.RowKit Tw
attribute [local go_sem] max2_int min2_int max_two min_two
set_option linter.unusedVariables false
set_option linter.unusedSimpArgs false

/-! ### slices of ints -/
def RdI (w : World) (A : Option Addr) (l : List Int) : Prop := l.length ≤ 9223372036854775807 ∧ (0 < l.length → ∃ ad, A = some ad ∧ ∀ (j : Nat) (x : Int), l[j]? = some x → w.cell? (ad.add j) = some (.int .i64 x))
theorem RdI.below {w w1 : World} {A : Option Addr} {l : List Int} (h : RdI w A l) (hb : Below w.heap.size w w1) : RdI w1 A l :=
  ⟨h.1, fun hp => by obtain ⟨ad, e, hc⟩ := h.2 hp; exact ⟨ad, e, fun j x hj => cell_below hb (hc j x hj)⟩⟩

/-! ### clauses.Sources -/
def outS (s : Int) : Bool := decide (s < 0) || decide (4 ≤ s)
set_option maxHeartbeats 400000 in
theorem outS_calls (s : Int) (w : World) : Calls Tryd.prog 58 #[.int .i64 s] w fun e w' => e = .returned (.bool (outS s)) ∧ w = w' := by
  have h : s < 0 ∨ (0 ≤ s ∧ s < 4) ∨ 4 ≤ s := by omega
  rcases h with h | ⟨h, h'⟩ | h
  · have d1 : decide (s < 0) = true := decide_eq_true h
    have e1 : outS s = true := by simp [outS, h]
    rw [e1]; clear e1
    go_enter Tryd.func58, Tryd.ntmps58
    go_wp2
    go_ret
    exact ⟨rfl, rfl⟩
  · have d1 : decide (s < 0) = false := decide_eq_false (by omega)
    have d2 : decide (4 ≤ s) = false := decide_eq_false (by omega)
    have e1 : outS s = false := by simp [outS, d1, d2]
    rw [e1]; clear e1
    go_enter Tryd.func58, Tryd.ntmps58
    go_wp2
    go_ret
    exact ⟨rfl, rfl⟩
  · have d1 : decide (s < 0) = false := decide_eq_false (by omega)
    have d2 : decide (4 ≤ s) = true := decide_eq_true h
    have e1 : outS s = true := by simp [outS, d2]
    rw [e1]; clear e1
    go_enter Tryd.func58, Tryd.ntmps58
    go_wp2
    go_ret
    exact ⟨rfl, rfl⟩
/-- The index of the first element that a test takes, or -1. -/
def idxF {α : Type} (p : α → Bool) (l : List α) : Int := match l.findIdx? p with | some i => (i : Int) | none => -1
theorem idxF_none {α : Type} {p : α → Bool} {l : List α} (h : ∀ (j : Nat) (x : α), l[j]? = some x → p x = false) : idxF p l = -1 := by
  unfold idxF
  rw [List.findIdx?_eq_none_iff.2 (fun x hx => by obtain ⟨j, hj⟩ := List.getElem?_of_mem hx; exact h j x hj)]
theorem idxF_some {α : Type} {p : α → Bool} {l : List α} {k : Nat} {x : α} (hx : l[k]? = some x) (hp : p x = true) (h : ∀ (j : Nat) (y : α), j < k → l[j]? = some y → p y = false) : idxF p l = k := by
  unfold idxF
  obtain ⟨hk, rfl⟩ := List.getElem?_eq_some_iff.1 hx
  rw [List.findIdx?_eq_some_iff_getElem.2 ⟨hk, hp, fun j hj => by simpa using h j l[j] hj (by simp)⟩]
theorem idxF_any {α : Type} (p : α → Bool) (l : List α) : (0 ≤ idxF p l ↔ l.any p = true) := by
  unfold idxF
  cases h : l.findIdx? p with
  | none => simp only [Int.reduceNeg, Int.reduceLE, false_iff]; rw [List.findIdx?_eq_none_iff] at h; simpa using h
  | some i =>
    obtain ⟨hi, hp, _⟩ := List.findIdx?_eq_some_iff_getElem.1 h
    simp only [Int.natCast_nonneg, true_iff, List.any_eq_true]
    exact ⟨l[i], by simp, hp⟩
set_option maxHeartbeats 400000 in
theorem idxS_calls (A : Option Addr) (c : Nat) (l : List Int) (w : World) (hr : RdI w A l) :
    Calls Tryd.prog 72 #[.slice A l.length c, .func (.func 58) #[] #[]] w fun e w' => e = .returned (.int .i64 (idxF outS l)) ∧ w = w' := by
  have hl := hr.1
  go_enter Tryd.func72, Tryd.ntmps72
  go_wp2
  go_loop [8] (fun i => ∃ k : Nat, k ≤ l.length ∧ i = .int .i64 k ∧ ∀ (j : Nat) (y : Int), j < k → l[j]? = some y → outS y = false) (fun i => l.length - (intOf i).toNat)
  case atStart => exact ⟨0, Nat.zero_le _, rfl, by intro j y h; omega⟩
  case round =>
    obtain ⟨k, hk, rfl, hno⟩ := hrel
    by_cases hlt : k < l.length
    · obtain ⟨ad, rfl, hc⟩ := hr.2 (by omega)
      obtain ⟨x, hx⟩ : ∃ x, l[k]? = some x := ⟨l[k], by simp [hlt]⟩
      have hcell := hc k x hx
      clear hc
      have Hx := Lib.hid hx
      have Hno := Lib.hid hno
      clear hx hno
      cases hp : outS x with
      | false =>
        have Hp := Lib.hid hp
        clear hp
        go_wp2_with (go_at_call 58; refine (outS_calls _ _).mono ?_; rw [Hp.out]; rintro e w1 ⟨rfl, rfl⟩)
        go_round
        case rel => exact ⟨k + 1, hlt, by go_num, fun j y hj hy => by
          rcases Nat.lt_or_ge j k with h | h
          · exact Hno.out j y h hy
          · obtain rfl : j = k := by omega
            rw [Hx.out] at hy; injection hy with hy; rw [← hy]; exact Hp.out⟩
        case measure => simp [intOf]; omega
      | true =>
        have e1 : idxF outS l = k := idxF_some Hx.out hp Hno.out
        have E1 := Lib.hid e1
        have Hp := Lib.hid hp
        clear hp e1
        go_wp2_with (go_at_call 58; refine (outS_calls _ _).mono ?_; rw [Hp.out]; rintro e w1 ⟨rfl, rfl⟩)
        go_ret
        exact ⟨by rw [E1.out]; rfl, rfl⟩
    · have e1 : idxF outS l = -1 := idxF_none (fun j x hj => hno j x (by have := (List.getElem?_eq_some_iff.1 hj).1; omega) hj)
      have E1 := Lib.hid e1
      clear e1 hno
      go_wp2
      go_ret
      exact ⟨by rw [E1.out]; rfl, rfl⟩
set_option maxHeartbeats 400000 in
theorem hasS_calls (A : Option Addr) (c : Nat) (l : List Int) (w : World) (hr : RdI w A l) :
    Calls Tryd.prog 59 #[.slice A l.length c, .func (.func 58) #[] #[]] w fun e w' => e = .returned (.bool (l.any outS)) ∧ w = w' := by
  have h0 := idxF_any outS l
  have e1 : decide (0 ≤ idxF outS l) = l.any outS := by rw [Bool.eq_iff_iff, decide_eq_true_eq]; exact h0
  have E1 := Lib.hid e1
  clear h0 e1
  go_enter Tryd.func59, Tryd.ntmps59
  go_wp2_with (go_at_call 72; refine (idxS_calls _ _ _ _ hr).mono ?_; rintro e w1 ⟨rfl, rfl⟩)
  go_ret
  exact ⟨by rw [← E1.out]; rfl, rfl⟩

/-! ### clauses.distinct -/
section
open Go.Maps Go.WideMaps
def addI (acc : List Int) (x : Int) : List Int := if acc.contains x then acc else acc ++ [x]
/-- How many different elements there are. -/
def dist (l : List Int) : Nat := (l.foldl addI []).length
def keysI (l : List Int) : List Lit := l.map fun x => .int .i64 x
def SnI (l : List Int) : DataW Unit := setOf (.lit (.bool true)) (keysI l)
theorem SnI_succ (l : List Int) (k : Nat) (x : Int) (hx : l[k]? = some x) : SnI (l.take (k + 1)) = (SnI (l.take k)).put (.int .i64 x) (.lit (.bool true)) := by
  unfold SnI keysI
  obtain ⟨hk, rfl⟩ := List.getElem?_eq_some_iff.1 hx
  rw [List.take_succ_eq_append_getElem hk, List.map_append, List.map_cons, List.map_nil, setOf_snoc]
theorem addKey_map (xs : List Int) : ∀ acc : List Int, (keysI xs).foldl addKey (keysI acc) = keysI (xs.foldl addI acc) := by
  induction xs with
  | nil => intro acc; rfl
  | cons x xs ih =>
    intro acc
    simp only [keysI, List.map_cons, List.foldl_cons]
    have : addKey (keysI acc) (.int .i64 x) = keysI (addI acc x) := by
      unfold addKey addI keysI
      have hany : (acc.map fun x => Lit.int .i64 x).any (fun y => y.sameKey (.int .i64 x)) = acc.contains x := by
        rw [List.any_map, List.contains_eq_any_beq]
        congr 1
        funext y
        show (Lit.int .i64 y).sameKey (.int .i64 x) = (x == y)
        by_cases h : x = y
        · subst h
          rw [WideAt.sameKey_self (a := .int .i64 x) trivial]; simp
        · rw [sameKey_ne (fun e => h (by injection e with _ e; exact e.symm)), beq_eq_false_iff_ne.2 h]
      rw [hany]
      split
      · rfl
      · simp
    exact this ▸ ih (addI acc x)
theorem size_SnI (l : List Int) : Maps.size (SnI l) = dist l := by
  unfold SnI dist
  rw [size_setOf _ _ (fun x hx => by simp only [keysI, List.mem_map] at hx; obtain ⟨y, _, rfl⟩ := hx; trivial)]
  have := addKey_map l []
  rw [show (keysI [] : List Lit) = [] from rfl] at this
  rw [this]
  simp [keysI]
theorem lawInt : Keyed Tryd.prog 3 := int_keyed Tryd.underlying3
theorem inRange_wf {x : Int} (h : outS x = false) : (Lit.int .i64 x).wf = true := by
  have hmin : IntKind.i64.min = -9223372036854775808 := rfl
  have hmax : IntKind.i64.max = 9223372036854775807 := rfl
  simp only [outS, Bool.or_eq_false_iff, decide_eq_false_iff_not] at h
  simp only [Lit.wf, Bool.and_eq_true, decide_eq_true_eq]
  omega
def DistPost (l : List Int) (w : World) (e : Ending) (w' : World) : Prop := e = .returned (.int .i64 (dist l)) ∧ dist l ≤ l.length ∧ Below w.heap.size w w'
set_option maxHeartbeats 1000000 in
set_option maxRecDepth 100000 in
theorem distinct_calls (A : Option Addr) (c : Nat) (l : List Int) (hl4 : l.length ≤ 4) (hin : ∀ x ∈ l, outS x = false) (w : World) (hr : RdI w A l) :
    Calls Tryd.prog 60 #[.slice A l.length c] w (DistPost l w) := by
  have hmm := @run_makeMap Tryd.prog
  have Hin := Lib.hid hin
  clear hin
  go_enter Tryd.func60, Tryd.ntmps60
  go_wp2
  go_loopw [9] (fun i wr => ∃ k : Nat, k ≤ l.length ∧ i = .int .i64 k ∧ wr.ownsMap Tryd.prog 3 (plainElem Tryd.prog 4) w.heap.size k (SnI (l.take k)) ∧ Below w.heap.size w wr)
    (fun i _ => l.length - (intOf i).toNat)
  case atStart => exact ⟨0, Nat.zero_le _, rfl, World.ownsMap_made _ _ _ _, (Below.refl _ _).alloc (Nat.le_refl _) _⟩
  case round =>
    obtain ⟨k, hk, rfl, hown, hB⟩ := hrel
    by_cases hlt : k < l.length
    · obtain ⟨ad, rfl, hc⟩ := hr.2 (by omega)
      obtain ⟨x, hx⟩ : ∃ x, l[k]? = some x := ⟨l[k], by simp [hlt]⟩
      have hcell := cell_below hB (hc k x hx)
      clear hc
      have hkey : keyOf Tryd.prog 3 (.int .i64 x) = some (.int .i64 x) := keyOf_int_mk Tryd.underlying3 (inRange_wf (Hin.out x (List.mem_of_getElem? hx)))
      have Hx := Lib.hid hx
      clear hx
      go_wp2_with (at_mapUpdate; refine wpList_mapUpdate_own _ rfl _ _ _ 132 rfl 3 4 lawInt Tryd.underlying132 (plainElem (H := Unit) Tryd.prog 4) w.heap.size k _ rfl hown (by unfold maxLen; omega) _ _ _ rfl rfl hkey _ [] (plainElem_bool Tryd.underlying4 true) ?_; intro w1 hown1 hgrow1)
      go_roundw
      case rel => exact ⟨k + 1, by omega, by go_num, (SnI_succ l k x Hx.out).symm ▸ hown1, hB.grown hgrow1 hB.size (fun j hj => by cases hj; exact Nat.le_refl _)⟩
      case measure => simp [intOf]; omega
    · obtain rfl : k = l.length := by omega
      rw [List.take_length] at hown
      go_wp2_with (at_len; refine wpList_len_own _ rfl _ 132 rfl 3 4 Tryd.underlying132 _ w.heap.size l.length _ rfl hown ?_)
      go_ret
      exact ⟨by rw [← size_SnI]; rfl, by rw [← size_SnI]; exact hown.size_le, hB⟩
end

/-! ### clauses.Sources, clauses.Window -/
/-- The error of sources. -/
def srcs (l : List Int) (j : Bool) : Int :=
  if 4 < l.length then 4 else if l.length = 0 ∨ (j = true ∧ l.length ≠ 2) ∨ l.any outS = true then 8 else if dist l < l.length then 43 else 0
set_option maxHeartbeats 1000000 in
theorem sources_calls (A : Option Addr) (c : Nat) (l : List Int) (j : Bool) (w : World) (hr : RdI w A l) :
    Calls Tryd.prog 44 #[.slice A l.length c, .bool j] w fun e w' => e = .returned (.int .i64 (srcs l j)) ∧ Below w.heap.size w w' := by
  by_cases h4 : 4 < l.length
  · have d1 : decide (4 < l.length) = true := decide_eq_true h4
    have e1 : srcs l j = 4 := by unfold srcs; rw [if_pos h4]
    have E1 := Lib.hid e1
    clear e1
    go_enter Tryd.func44, Tryd.ntmps44
    go_wp2
    go_ret
    exact ⟨by rw [E1.out]; rfl, Below.refl _ _⟩
  have d1 : decide (4 < l.length) = false := decide_eq_false h4
  by_cases h0 : l.length = 0
  · have d2 : ((l.length : Int) == 0) = true := beq_iff_eq.2 (by omega)
    have e1 : srcs l j = 8 := by unfold srcs; rw [if_neg h4, if_pos (.inl h0)]
    have E1 := Lib.hid e1
    have H0 := Lib.hid h0
    clear e1 h0
    go_enter Tryd.func44, Tryd.ntmps44
    go_wp2
    go_ret
    exact ⟨by rw [E1.out]; rfl, Below.refl _ _⟩
  have d2 : ((l.length : Int) == 0) = false := beq_eq_false_iff_ne.2 (by omega)
  by_cases hj : j = true ∧ l.length ≠ 2
  · have d3 : ((l.length : Int) != 2) = true := by rw [bne_iff_ne]; omega
    have e1 : srcs l j = 8 := by unfold srcs; rw [if_neg h4, if_pos (.inr (.inl hj))]
    obtain ⟨rfl, hj2⟩ := hj
    have E1 := Lib.hid e1
    clear e1
    go_enter Tryd.func44, Tryd.ntmps44
    go_wp2
    go_ret
    exact ⟨by rw [E1.out]; rfl, Below.refl _ _⟩
  have hjj : j = false ∨ l.length = 2 := by
    cases j with
    | false => exact .inl rfl
    | true => exact .inr (by by_cases h : l.length = 2; exact h; exact absurd ⟨rfl, h⟩ hj)
  cases ha : l.any outS with
  | true =>
    have e1 : srcs l j = 8 := by unfold srcs; rw [if_neg h4, if_pos (.inr (.inr ha))]
    have E1 := Lib.hid e1
    have Ha := Lib.hid ha
    clear e1 ha
    rcases hjj with rfl | h2
    · clear hj
      go_enter Tryd.func44, Tryd.ntmps44
      go_wp2_with (go_at_call 59; refine (hasS_calls _ _ _ _ hr).mono ?_; rw [Ha.out]; rintro e w1 ⟨rfl, rfl⟩)
      go_ret
      exact ⟨by rw [E1.out]; rfl, Below.refl _ _⟩
    · have d3 : ((l.length : Int) != 2) = false := by rw [bne_eq_false_iff_eq]; omega
      clear hj
      have H2 := Lib.hid h2
      clear h2
      cases j
      all_goals
        go_enter Tryd.func44, Tryd.ntmps44
        go_wp2_with (go_at_call 59; refine (hasS_calls _ _ _ _ hr).mono ?_; rw [Ha.out]; rintro e w1 ⟨rfl, rfl⟩)
        go_ret
        exact ⟨by rw [E1.out]; rfl, Below.refl _ _⟩
  | false =>
    have hin : ∀ x ∈ l, outS x = false := by simpa using ha
    have e1 : srcs l j = if dist l < l.length then 43 else 0 := by
      unfold srcs
      rw [if_neg h4, if_neg]
      rintro (h | h | h)
      · exact h0 h
      · exact hj h
      · rw [ha] at h; cases h
    have E1 := Lib.hid e1
    have Ha := Lib.hid ha
    have Hin := Lib.hid hin
    clear e1 ha hin
    have key : ∀ jj : Bool, j = jj → (jj = false ∨ ((l.length : Int) != 2) = false) → Calls Tryd.prog 44 #[.slice A l.length c, .bool j] w fun e w' => e = .returned (.int .i64 (srcs l j)) ∧ Below w.heap.size w w' := by
      rintro jj rfl hd
      by_cases hd3 : dist l < l.length
      · have d4 : decide (dist l < l.length) = true := decide_eq_true hd3
        rw [if_pos hd3] at E1
        rcases hd with rfl | d3
        all_goals
          go_enter Tryd.func44, Tryd.ntmps44
          go_wp2_with (first
            | (go_at_call 59; refine (hasS_calls _ _ _ _ hr).mono ?_; rw [Ha.out]; rintro e w1 ⟨rfl, rfl⟩)
            | (go_at_call 60; refine (distinct_calls _ _ _ (by omega) Hin.out _ hr).mono ?_; rintro e w1 ⟨rfl, hdl, hB⟩))
          all_goals (go_ret; exact ⟨by rw [E1.out]; rfl, hB⟩)
      · have d4 : decide (dist l < l.length) = false := decide_eq_false hd3
        rw [if_neg hd3] at E1
        rcases hd with rfl | d3
        all_goals
          go_enter Tryd.func44, Tryd.ntmps44
          go_wp2_with (first
            | (go_at_call 59; refine (hasS_calls _ _ _ _ hr).mono ?_; rw [Ha.out]; rintro e w1 ⟨rfl, rfl⟩)
            | (go_at_call 60; refine (distinct_calls _ _ _ (by omega) Hin.out _ hr).mono ?_; rintro e w1 ⟨rfl, hdl, hB⟩))
          all_goals (go_ret; exact ⟨by rw [E1.out]; rfl, hB⟩)
    rcases hjj with h | h2
    · exact key j rfl (.inl h)
    · exact key j rfl (.inr (by rw [bne_eq_false_iff_eq]; omega))
end Go.Proofs.YthijjpbkpmojbaaDoor
