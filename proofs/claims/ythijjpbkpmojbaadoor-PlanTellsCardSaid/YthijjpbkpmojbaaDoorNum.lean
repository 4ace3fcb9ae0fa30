import Derived.Test.YthijjpbkpmojbaaDoorBuild
import Derived.Test.YthijjpbkpmojbaaDoorOpen
import Derived.Lib.AppendIntMem
import Derived.Laws.BytesString
/-! Numbers as text: the program's and the reference's. -/
namespace Go.Proofs.YthijjpbkpmojbaaDoor
open Go.RowKit Tw
set_option linter.unusedVariables false
set_option linter.unusedSimpArgs false
/-- The library's table of powers is as it was laid, and stays so. -/
def Tab (w : World) : Prop := ∀ W, Below w.heap.size w W → Lib.TabIs Tryd.prog W "internal/strconv.uint64pow10" .u64 Lib.pow10Tab
theorem Tab.below {w w1 : World} (h : Tab w) (hb : Below w.heap.size w w1) : Tab w1 := fun W hW => h W (below_trans hb hW)
theorem str_app (a b : List UInt8) : (⟨a.toArray⟩ : ByteArray) ++ ⟨b.toArray⟩ = ⟨(a ++ b).toArray⟩ := by
  apply ByteArray.ext
  simp [ByteArray.data_append]
theorem ret_str {a b : List UInt8} (h : a = b) : Ending.returned (.string ⟨a.toArray⟩) = .returned (.string ⟨b.toArray⟩) := by rw [h]
set_option maxRecDepth 100000 in
theorem itext_calls (n : Int) (hn : I64 n) (w : World) (ht : Tab w) : Calls Tryd.prog 64 #[.int .i64 n] w fun e w' => e = .returned (.string ⟨(Lib.itoa n).toArray⟩) ∧ Below w.heap.size w w' := by
  obtain ⟨h0, h1⟩ := hn
  go_enter Tryd.func64, Tryd.ntmps64
  go_wp2_with fail
  refine (Tryd.strconv_FormatInt_10 n h0 h1 _ (ht _ (Below.refl _ _))).mono ?_
  rintro e w1 ⟨rfl, k, os, rfl⟩
  go_wp2
  go_ret
  exact ⟨rfl, Lib.below_grow _ _ (Nat.le_refl _) _ _⟩
theorem itoa_step {n : Int} (h : 10 ≤ n.natAbs) : Lib.itoa n = Lib.itoa (n.tdiv 10) ++ [UInt8.ofNat (48 + n.natAbs % 10)] := by
  have hd : (n.tdiv 10).natAbs = n.natAbs / 10 := by rw [Int.natAbs_tdiv]; rfl
  unfold Lib.itoa
  by_cases hn : n < 0
  · have h1 : n.tdiv 10 < 0 := by
      have : n.tdiv 10 = -((-n) / 10) := by
        conv => lhs; rw [show n = -(-n) by omega]
        rw [Int.neg_tdiv, Int.tdiv_eq_ediv_of_nonneg (by omega)]
      omega
    rw [if_pos hn, if_pos h1, hd, Lib.decDigits, dif_neg (by omega)]
    rfl
  · have h1 : n.tdiv 10 = n / 10 := Int.tdiv_eq_ediv_of_nonneg (by omega)
    rw [if_neg hn, h1, if_neg (by omega), Lib.decDigits, dif_neg (by omega)]
    have e1 : (n / 10).toNat = n.toNat / 10 := by omega
    have e2 : n.toNat % 10 = n.natAbs % 10 := by omega
    rw [e1, e2]
theorem itoa_base {n : Int} (h : n.natAbs < 10) : Lib.itoa n = (if n < 0 then [45] else []) ++ [UInt8.ofNat (48 + n.natAbs)] := by
  unfold Lib.itoa
  by_cases hn : n < 0
  · rw [if_pos hn, if_pos hn, Lib.decDigits, dif_pos h]; rfl
  · rw [if_neg hn, if_neg hn, Lib.decDigits, dif_pos (by omega)]
    rw [show n.toNat = n.natAbs by omega]; rfl
/-- One byte as a text. -/
theorem conv_one (W : World) (x : Int) (d : Nat) (hx : x = 48 + d) : (convert 28 9 (.slice (some ⟨W.heap.size, 0, none⟩) 1 1)).run Tryd.prog (W.alloc (.cells #[.int .u8 x] 5)) = .ok (.string ⟨[UInt8.ofNat (48 + d)].toArray⟩) (W.alloc (.cells #[.int .u8 x] 5)) := by
  rw [run_convert_bytes_string _ _ _ _ _ _ _ Tryd.underlying28 Tryd.underlying5 Tryd.underlying9]
  rw [run_bytesToString _ _ _ _ [x] (by go_simp)]
  subst hx
  have e : (48 + (d : Int)).toNat = 48 + d := by omega
  simp only [List.foldl_cons, List.foldl_nil, e]
  rfl
set_option maxHeartbeats 1000000 in
set_option maxRecDepth 100000 in
theorem text01_calls (m : Nat) : ∀ (n : Int) (w : World), n.natAbs ≤ m → I64 n → Calls Tryd.prog 37 #[.int .i64 n] w fun e w' => e = .returned (.string ⟨(Lib.itoa n).toArray⟩) ∧ Below w.heap.size w w' := by
  induction m with
  | zero =>
    intro n w hm hn
    obtain rfl : n = 0 := by omega
    have hc := conv_one w 48 0 rfl
    have E : Hid (Lib.itoa 0 = [48]) := by rw [itoa_base (by decide)]; exact rfl
    go_enter Tryd.func37, Tryd.ntmps37
    go_wp2_with fail
    go_ret
    exact ⟨ret_str (a := [48]) E.out.symm, below_alloc (Below.refl _ _) _⟩
  | succ m ih =>
    intro n w hm hn
    obtain ⟨h0, h1⟩ := hn
    have ht : (n.tmod 10).natAbs = n.natAbs % 10 := by rw [Int.natAbs_tmod]; rfl
    obtain ⟨d, hd⟩ : ∃ d, n.natAbs % 10 = d := ⟨_, rfl⟩
    have hd10 : (d : Int) ≤ 9 := by omega
    have hc := conv_one w (48 + d) d rfl
    have HB := below_alloc (Below.refl w.heap.size w) (.cells #[.int .u8 (48 + (d : Int))] 5)
    have hw1 : IntKind.u8.wrap (48 + (d : Int)) = 48 + d := by simp [IntKind.wrap, IntKind.signed, IntKind.bits]; omega
    obtain ⟨cb, hcb⟩ : ∃ c : UInt8, UInt8.ofNat (48 + d) = c := ⟨_, rfl⟩
    have hc0 := conv_one w 48 0 rfl
    rw [hcb] at hc
    by_cases h10 : 10 ≤ n.natAbs
    · have E : Hid (Lib.itoa n = Lib.itoa (n.tdiv 10) ++ [cb]) := by rw [← hcb, ← hd]; exact itoa_step h10
      by_cases hneg : n < 0
      · have hq : n.tdiv 10 = -((-n) / 10) := by
          conv => lhs; rw [show n = -(-n) by omega]
          rw [Int.neg_tdiv, Int.tdiv_eq_ediv_of_nonneg (by omega)]
        have hsg : n.tmod 10 ≤ 0 := by
          have := Int.mul_tdiv_add_tmod n 10
          omega
        have hm0 : n.tmod 10 = -(d : Int) := by omega
        have hqn : (n.tdiv 10 != 0) = true := by rw [bne_iff_ne]; omega
        have hb : -9223372036854775808 ≤ n.tdiv 10 ∧ n.tdiv 10 ≤ 9223372036854775807 ∧ (n.tdiv 10).natAbs ≤ m := by omega
        have Hb := Lib.hid hb
        clear ht hd hq hsg hb
        by_cases hz : d = 0
        · subst hz
          obtain rfl : cb = 48 := by rw [← hcb]; rfl
          clear hcb hc hw1 HB
          have HB := below_alloc (Below.refl w.heap.size w) (.cells #[.int .u8 (48 : Int)] 5)
          go_enter Tryd.func37, Tryd.ntmps37
          go_wp2_with fail
          refine (ih _ _ Hb.out.2.2 ⟨Hb.out.1, Hb.out.2.1⟩).mono ?_
          rintro e w1 ⟨rfl, hb1⟩
          have hln : ¬ 9223372036854775807 < (Lib.itoa (n.tdiv 10)).length + 1 := by have := itoa_len Hb.out.1 Hb.out.2.1; omega
          go_wp2
          go_ret
          exact ⟨by rw [E.out, ← str_app]; rfl, below_trans HB hb1⟩
        · have hdp : 0 < d := by omega
          clear hcb hc0
          go_enter Tryd.func37, Tryd.ntmps37
          go_wp2_with fail
          refine (ih _ _ Hb.out.2.2 ⟨Hb.out.1, Hb.out.2.1⟩).mono ?_
          rintro e w1 ⟨rfl, hb1⟩
          have hln : ¬ 9223372036854775807 < (Lib.itoa (n.tdiv 10)).length + 1 := by have := itoa_len Hb.out.1 Hb.out.2.1; omega
          go_wp2
          go_ret
          exact ⟨by rw [E.out, ← str_app]; rfl, below_trans HB hb1⟩
      · have hq : n.tdiv 10 = n / 10 := Int.tdiv_eq_ediv_of_nonneg (by omega)
        rw [hq] at E
        have hm0 : n % 10 = (d : Int) := by omega
        have hqn : (n / 10 != 0) = true := by rw [bne_iff_ne]; omega
        have hn0 : 0 ≤ n := by omega
        clear ht hd hneg hq hcb hc0
        go_enter Tryd.func37, Tryd.ntmps37
        go_wp2_with fail
        refine (ih _ _ (by omega) ⟨by omega, by omega⟩).mono ?_
        rintro e w1 ⟨rfl, hb1⟩
        have hln : ¬ 9223372036854775807 < (Lib.itoa (n / 10)).length + 1 := by have := itoa_len (n := n / 10) (by omega) (by omega); omega
        go_wp2
        go_ret
        exact ⟨by rw [E.out, ← str_app]; rfl, below_trans HB hb1⟩
    · have E : Hid (Lib.itoa n = (if n < 0 then [45] else []) ++ [cb]) := by
        rw [← hcb, show d = n.natAbs by omega]; exact itoa_base (by omega)
      by_cases hneg : n < 0
      · rw [if_pos hneg] at E
        have hq : n.tdiv 10 = 0 := by
          have : n.tdiv 10 = -((-n) / 10) := by
            conv => lhs; rw [show n = -(-n) by omega]
            rw [Int.neg_tdiv, Int.tdiv_eq_ediv_of_nonneg (by omega)]
          omega
        have hm0 : n.tmod 10 = -(d : Int) := by
          have := Int.mul_tdiv_add_tmod n 10
          omega
        have hdp : 0 < d := by omega
        have dn : decide (n < 0) = true := decide_eq_true hneg
        clear ht hd hcb hc0
        go_enter Tryd.func37, Tryd.ntmps37
        go_wp2_with fail
        go_ret
        exact ⟨by rw [E.out, ← str_app]; rfl, HB⟩
      · rw [if_neg hneg] at E
        have hq : n / 10 = 0 := by omega
        have hm0 : n % 10 = (d : Int) := by omega
        have hn0 : 0 ≤ n := by omega
        have dn : decide (n < 0) = false := decide_eq_false hneg
        clear ht hd hcb hc0
        go_enter Tryd.func37, Tryd.ntmps37
        go_wp2_with fail
        go_ret
        exact ⟨by rw [E.out]; rfl, HB⟩
end Go.Proofs.YthijjpbkpmojbaaDoor
