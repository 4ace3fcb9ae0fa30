import Derived.Test.YthijjpbkpmojbaaDoorRefC
/-! The reference of layer 8: Sources; of layer 10: Fixed. -/
namespace Go.Proofs.YthijjpbkpmojbaaDoor
open Go.RowKit Tw
set_option linter.unusedVariables false
set_option linter.unusedSimpArgs false
theorem dist_aux (l : List Int) : ∀ acc : List Int, (l.foldl addI acc).length ≤ acc.length + l.length ∧ ((l.foldl addI acc).length = acc.length + l.length ↔ (∀ x ∈ l, x ∉ acc) ∧ l.Nodup) := by
  induction l with
  | nil => intro acc; simp
  | cons x l ih =>
    intro acc
    simp only [List.foldl_cons, List.length_cons]
    by_cases hx : x ∈ acc
    · have e : addI acc x = acc := by unfold addI; rw [if_pos (by simpa using hx)]
      rw [e]
      have := (ih acc).1
      refine ⟨by omega, fun h => by omega, fun h => absurd hx (h.1 x (by simp))⟩
    · have e : addI acc x = acc ++ [x] := by unfold addI; rw [if_neg (by simpa using hx)]
      rw [e]
      obtain ⟨h1, h2⟩ := ih (acc ++ [x])
      simp only [List.length_append, List.length_cons, List.length_nil, List.mem_append, List.mem_cons, List.not_mem_nil, or_false, not_or] at h1 h2
      refine ⟨by omega, ?_⟩
      rw [show acc.length + (l.length + 1) = acc.length + (0 + 1) + l.length by omega, h2]
      simp only [List.mem_cons, forall_eq_or_imp, List.nodup_cons]
      constructor
      · rintro ⟨h, hn⟩
        exact ⟨⟨hx, fun y hy => (h y hy).1⟩, fun hm => (h x hm).2 rfl, hn⟩
      · rintro ⟨⟨_, h⟩, hm, hn⟩
        exact ⟨fun y hy => ⟨h y hy, fun e => hm (e ▸ hy)⟩, hn⟩
theorem dist_lt {l : List Int} {i k : Nat} {x : Int} (hk : k < i) (hi : l[i]? = some x) (hx : l[k]? = some x) : dist l < l.length := by
  obtain ⟨h1, h2⟩ := dist_aux l []
  have : ¬ (l.foldl addI []).length = ([] : List Int).length + l.length := by
    rw [h2]
    rintro ⟨_, hn⟩
    have := (List.getElem?_inj (List.getElem?_eq_some_iff.1 hx).1 hn).1 (by rw [hi, hx])
    omega
  unfold dist
  simp only [List.length_nil] at *
  omega
theorem dist_all {l : List Int} (h : ∀ (i k : Nat) (x y : Int), k < i → l[i]? = some x → l[k]? = some y → x ≠ y) : ¬ dist l < l.length := by
  obtain ⟨h1, h2⟩ := dist_aux l []
  have hn : l.Nodup := by
    rw [List.Nodup, List.pairwise_iff_getElem]
    intro i j hi hj hij e
    exact h j i l[j] l[i] hij (by simp) (by simp) e.symm
  have := h2.2 ⟨by simp, hn⟩
  unfold dist
  simp only [List.length_nil] at *
  omega
set_option maxHeartbeats 2000000 in
set_option maxRecDepth 100000 in
theorem sources08_calls (A : Option Addr) (c : Nat) (l : List Int) (jn : Bool) (w : World) (ha : RdI w A l) :
    Calls Tryd.prog 48 #[.slice A l.length c, .bool jn] w fun e w' => e = .returned (.int .i64 (srcs l jn)) ∧ ∃ n, w' = w.drewN n := by
  have l1 := ha.1
  by_cases h4 : 4 < l.length
  · have E : Hid (srcs l jn = 4) := by unfold srcs; rw [if_pos h4]; exact rfl
    go_enter Tryd.func48, Tryd.ntmps48
    go_wp2
    go_ret
    exact ⟨ret_int E.out.symm, 0, rfl⟩
  have d4 : decide (4 < l.length) = false := decide_eq_false h4
  by_cases h0 : l.length = 0
  · have E : Hid (srcs l jn = 8) := by unfold srcs; rw [if_neg h4, if_pos (.inl h0)]; exact rfl
    obtain rfl : l = [] := List.length_eq_zero_iff.1 h0
    go_enter Tryd.func48, Tryd.ntmps48
    go_wp2
    go_ret
    exact ⟨ret_int E.out.symm, 0, rfl⟩
  have d0 : ((l.length : Int) == 0) = false := beq_eq_false_iff_ne.2 (by omega)
  by_cases h2 : jn = true ∧ l.length ≠ 2
  · have E : Hid (srcs l jn = 8) := by unfold srcs; rw [if_neg h4, if_pos (.inr (.inl h2))]; exact rfl
    obtain ⟨rfl, h2⟩ := h2
    have d2 : ((l.length : Int) != 2) = true := by rw [bne_iff_ne]; omega
    clear h0
    go_enter Tryd.func48, Tryd.ntmps48
    go_wp2
    go_ret
    exact ⟨ret_int E.out.symm, 0, rfl⟩
  have E : Hid (srcs l jn = if l.any outS = true then 8 else if dist l < l.length then 43 else 0) := by
    unfold srcs
    rw [if_neg h4]
    by_cases ha : l.any outS = true
    · rw [if_pos (.inr (.inr ha)), if_pos ha]; exact rfl
    · rw [if_neg (by rintro (h | h | h); exact h0 h; exact h2 h; exact ha h), if_neg ha]; exact rfl
  have hj : jn = false ∨ ((l.length : Int) != 2) = false := by
    cases jn with
    | false => exact .inl rfl
    | true => exact .inr (by rw [bne_eq_false_iff_eq]; by_cases h : l.length = 2; omega; exact absurd ⟨rfl, h⟩ h2)
  clear h0 h2
  obtain ⟨ad, rfl, hc⟩ := ha.2 (by by_cases h : l.length = 0; (rw [h] at d0; cases d0); omega)
  have Hc := Lib.hid hc
  clear hc ha
  cases jn
  all_goals
    try have d2 : ((l.length : Int) != 2) = false := hj.resolve_left (by decide)
    clear hj
    go_enter Tryd.func48, Tryd.ntmps48
    go_wp2
    all_goals
      go_loopw [5] (fun i wr => ∃ k n : Nat, k ≤ l.length ∧ i = .int .i64 k ∧ wr = w.drewN n ∧ ∀ (j : Nat) (y : Int), j < k → l[j]? = some y → outS y = false) (fun i _ => l.length - (intOf i).toNat)
      case atStart => exact ⟨0, 0, Nat.zero_le _, rfl, rfl, by intro j y h; omega⟩
      case round =>
        obtain ⟨k, n, hk, rfl, rfl, hall⟩ := hrel
        by_cases hlt : k < l.length
        · obtain ⟨x, hx⟩ : ∃ x, l[k]? = some x := ⟨l[k], by simp [hlt]⟩
          have hcell := Hc.out k x hx
          have Hx := Lib.hid hx
          have Hall := Lib.hid hall
          clear hx hall
          go_wp2
          all_goals first
            | (go_ret
               have hany : l.any outS = true := by rw [List.any_eq_true]; exact ⟨x, List.mem_of_getElem? Hx.out, by unfold outS; rw [Bool.or_eq_true, decide_eq_true_eq, decide_eq_true_eq]; omega⟩
               exact ⟨ret_int (by rw [E.out, if_pos hany]), _, rfl⟩)
            | (go_roundw
               case rel => exact ⟨k + 1, n, hlt, by go_num, rfl, fun j y hj hy => by
                 rcases Nat.lt_or_ge j k with h | h
                 · exact Hall.out j y h hy
                 · obtain rfl : j = k := by omega
                   rw [Hx.out] at hy; injection hy with hy; subst hy
                   unfold outS; rw [Bool.or_eq_false_iff, decide_eq_false_iff_not, decide_eq_false_iff_not]; omega⟩
               case measure => simp [intOf]; omega)
        · obtain rfl : k = l.length := by omega
          have hany : ¬ l.any outS = true := by
            rw [List.any_eq_true]
            rintro ⟨y, hy, ho⟩
            obtain ⟨j, hj⟩ := List.getElem?_of_mem hy
            rw [hall j y (List.getElem?_eq_some_iff.1 hj).1 hj] at ho
            cases ho
          rw [if_neg hany] at E
          clear hany hall
          go_wp2
          go_loopw [6, 7] (fun i k wr => ∃ a n : Nat, a ≤ l.length ∧ i = .int .i64 a ∧ wr = w.drewN n ∧ ∀ (i k : Nat) (x y : Int), k < i → i < a → l[i]? = some x → l[k]? = some y → x ≠ y) (fun i _ _ => l.length - (intOf i).toNat)
          case atStart => exact ⟨0, n, Nat.zero_le _, rfl, rfl, by intro i k x y h h'; omega⟩
          case round =>
            obtain ⟨a, n, ha, rfl, rfl, hall⟩ := hrel
            by_cases hlt : a < l.length
            · obtain ⟨x, hx⟩ : ∃ x, l[a]? = some x := ⟨l[a], by simp [hlt]⟩
              have hcell := Hc.out a x hx
              have Hx := Lib.hid hx
              have Hall := Lib.hid hall
              clear hx hall
              go_wp2
              go_loopw [7] (fun i wr => ∃ b n : Nat, b ≤ a ∧ i = .int .i64 b ∧ wr = w.drewN n ∧ ∀ (k : Nat) (y : Int), k < b → l[k]? = some y → x ≠ y) (fun i _ => l.length - (intOf i).toNat)
              case atStart => exact ⟨0, n, Nat.zero_le _, rfl, rfl, by intro k y h; omega⟩
              case round =>
                obtain ⟨b, n, hb, rfl, rfl, hin⟩ := hrel
                by_cases hlb : b < a
                · obtain ⟨y, hy⟩ : ∃ y, l[b]? = some y := ⟨l[b], by simp⟩
                  have hcell2 := Hc.out b y hy
                  have Hy := Lib.hid hy
                  have Hin := Lib.hid hin
                  clear hy hin
                  have hlb' : b < l.length := by omega
                  go_wp2
                  go_quiet (fail)
                  by_cases hxy : y = x
                  · have f : (y == x) = true := beq_iff_eq.2 hxy
                    have hd : dist l < l.length := dist_lt hlb (hxy ▸ Hx.out) Hy.out
                    rw [if_pos hd] at E
                    clear hxy hd
                    go_wp2
                    go_ret
                    exact ⟨ret_int E.out.symm, _, drewN_N _ _ _⟩
                  · have f : (y == x) = false := beq_eq_false_iff_ne.2 hxy
                    have Hxy := Lib.hid hxy
                    clear hxy
                    go_wp2
                    go_roundw
                    case rel => exact ⟨b + 1, n + nq, hlb, by go_num, rfl, fun k z hk hz => by
                      rcases Nat.lt_or_ge k b with h | h
                      · exact Hin.out k z h hz
                      · obtain rfl : k = b := by omega
                        rw [Hy.out] at hz; injection hz with hz; rw [← hz]; exact fun e => Hxy.out e.symm⟩
                    case measure => simp [intOf]; omega
                · obtain rfl : b = a := by omega
                  have Hin := Lib.hid hin
                  clear hin
                  go_wp2
                  go_roundw
                  case rel => exact ⟨b + 1, n, hlt, by go_num, rfl, fun i k u v hk hi hu hv => by
                    rcases Nat.lt_or_ge i b with h | h
                    · exact Hall.out i k u v hk h hu hv
                    · obtain rfl : i = b := by omega
                      rw [Hx.out] at hu; injection hu with hu; rw [← hu]; exact Hin.out k v hk hv⟩
                  case measure => simp [intOf]; omega
            · have hd : ¬ dist l < l.length := dist_all (fun i k x y hk hi hy => hall i k x y hk (by have := (List.getElem?_eq_some_iff.1 hi).1; omega) hi hy)
              rw [if_neg hd] at E
              clear hd hall
              go_wp2
              go_ret
              exact ⟨ret_int E.out.symm, _, rfl⟩
end Go.Proofs.YthijjpbkpmojbaaDoor
