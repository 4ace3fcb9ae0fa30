import Derived.Test.YthijjpbkpmojbaaDoorLineT
import Derived.Test.YthijjpbkpmojbaaDoorPlanA
/-! Layer 22: a line of a plan, the reference's. -/
namespace Go.Proofs.YthijjpbkpmojbaaDoor
open Go.RowKit Tw
set_option linter.unusedVariables false
set_option linter.unusedSimpArgs false
set_option maxRecDepth 100000 in
theorem agg22_calls (a : Int) (w : World) (h1 : 1 ≤ a) (h4 : a ≤ 4) : Calls Tryd.prog 40 #[.int .u8 a] w fun e w' => e = .returned (.string ⟨(aggB a).toArray⟩) ∧ w = w' := by
  have : a = 1 ∨ a = 2 ∨ a = 3 ∨ a = 4 := by omega
  rcases this with rfl | rfl | rfl | rfl
  all_goals
    go_enter Tryd.func40, Tryd.ntmps40
    go_wp2
    go_ret
    exact ⟨rfl, rfl⟩
abbrev LineP (q : Qr) (s : Int) (w : World) (e : Ending) (w' : World) : Prop := e = .returned (.string ⟨(lineB q s).toArray⟩) ∧ Below w.heap.size w w'
theorem ret_lineR {q : Qr} {s : Int} {w w' : World} {l : List UInt8} (h : lineB q s = l) (hb : Below w.heap.size w w') : LineP q s w (.returned (.string ⟨l.toArray⟩)) w' := ⟨by rw [h], hb⟩
set_option maxHeartbeats 4000000 in
set_option maxRecDepth 100000 in
theorem rline_calls (p : QAt) (q : Qr) (s : Int) (w : World) (hr : RdQ w p q) (ok : QOk q) (hw : QWf q) (hs : s ∈ stepsQ q) :
    Calls Tryd.prog 23 #[qval p q, .int .u8 s] w (LineP q s w) := by
  have hs := stepsQ_eq q ▸ hs
  obtain ⟨q0, l1, l2, b3, l4, q5, q6, q7, b8, q9⟩ := q
  obtain ⟨a1, c1, a2, c2, a4, c4⟩ := p
  have hag1 := ok.ag1
  have hag4 := ok.ag4
  have hlt := ok.lt
  have hcw := ok.wh
  have hca := ok.arg
  have hin := ok.src
  have hsl := ok.srcl
  have hws := ok.ws
  have hwn := ok.win
  have hRa := hr.arg
  have hRs := hr.src
  have hRw := hr.wh
  have hwa := hw.arg
  have hww := hw.wh
  simp only at *
  have hi6 : I64 q6 := by unfold I64; omega
  have hi7 : I64 q7 := by unfold I64; omega
  have hl6 := itoa_len hi6.1 hi6.2
  have hl7 := itoa_len hi7.1 hi7.2
  have hk : q5 = 2 ∨ q5 = 1 ∨ q5 = 3 := by omega
  obtain ⟨t6, ht6⟩ : ∃ t, Lib.itoa q6 = t := ⟨_, rfl⟩
  obtain ⟨t7, ht7⟩ : ∃ t, Lib.itoa q7 = t := ⟨_, rfl⟩
  have hf6 := fun W => text01_calls q6.natAbs q6 W (Nat.le_refl _) hi6
  have hf7 := fun W => text01_calls q7.natAbs q7 W (Nat.le_refl _) hi7
  rw [ht6] at hl6 hf6
  rw [ht7] at hl7 hf7
  have H6 := Lib.hid ht6
  have H7 := Lib.hid ht7
  replace hf6 := Lib.hid hf6
  replace hf7 := Lib.hid hf7
  have hln1 : ¬ 9223372036854775807 < 6 + t6.length := by omega
  have hln2 : ¬ 9223372036854775807 < 7 + t6.length := by omega
  have hln3 : ¬ 9223372036854775807 < 8 + t6.length := by omega
  have hln4 : ¬ 9223372036854775807 < 6 + t6.length + 7 := by omega
  have hln5 : ¬ 9223372036854775807 < 6 + t6.length + 7 + t7.length := by omega
  have HB := below_alloc (Below.refl w.heap.size w) (.cells #[.int .u8 q0, .slice a1 l1.length c1, .slice a2 l2.length c2, .bool b3, .slice a4 l4.length c4, .int .u8 q5, .int .i64 q6, .int .i64 q7, .bool b8, .int .u8 q9] 27)
  have HX := Bx.new w 27 #[.int .u8 q0, .slice a1 l1.length c1, .slice a2 l2.length c2, .bool b3, .slice a4 l4.length c4, .int .u8 q5, .int .i64 q6, .int .i64 q7, .bool b8, .int .u8 q9]
  have hag : q0 = 1 ∨ q0 = 2 ∨ q0 = 3 ∨ q0 = 4 := by omega
  have hagg := fun W => agg22_calls q0 W hag1 hag4
  replace hagg := Lib.hid hagg
  have hla : q0 ≠ 1 → ¬ 9223372036854775807 < 8 + (exprB l1).length := fun h => by have := exprB_len (hca h) hwa; omega
  have hlw : 0 < l4.length → ¬ 9223372036854775807 < 6 + (exprB l4).length := fun h => by have := exprB_len (hcw h) hww; omega
  have hma := hRa.1
  have hmw := hRw.1
  have hms := hRs.1
  replace hcw := Lib.hid hcw
  replace hca := Lib.hid hca
  replace hin := Lib.hid hin
  replace hwa := Lib.hid hwa
  replace hww := Lib.hid hww
  clear ok hw hr ht6 ht7 hi6 hi7 hws hwn
  unfold qval
  simp only
  simp only [List.mem_append, List.mem_cons, List.not_mem_nil, or_false] at hs
  rcases hs with (rfl | rfl) | hs | rfl | hs | rfl | hs | rfl | hs
  · clear hla hlw
    go_enter Tryd.func23, Tryd.ntmps23
    go_wp2_with (go_at_call 37; (with_reducible refine (hf6.out _).mono ?_); rintro e w1 ⟨rfl, hb1⟩; have B1 := below_trans HB hb1; have X1 := HX.below hb1; have ⟨x0, x1, x2, x3, x4, x5, x6, x7, x8, x9, _⟩ := X1.ten)
    clear x0 x1 x2 x3 x4 x5 x6 x7 x8 x9
    go_loopw [6, 7] (fun o i wr => ∃ k : Nat, k ≤ l2.length ∧ i = .int .i64 k ∧ o = .string ⟨(scanB (l2.take k)).toArray⟩ ∧ Below w.heap.size w wr ∧ Bx wr w.heap.size 27 #[.int .u8 q0, .slice a1 l1.length c1, .slice a2 l2.length c2, .bool b3, .slice a4 l4.length c4, .int .u8 q5, .int .i64 q6, .int .i64 q7, .bool b8, .int .u8 q9]) (fun _ i _ => l2.length - (intOf i).toNat)
    case atStart => exact ⟨0, Nat.zero_le _, rfl, rfl, B1, X1⟩
    case round =>
      obtain ⟨k, hk, rfl, rfl, BR, XR⟩ := hrel
      have ⟨x0, x1, x2, x3, x4, x5, x6, x7, x8, x9, _⟩ := XR.ten
      by_cases hlt : k < l2.length
      · obtain ⟨ad, rfl, hc⟩ := hRs.2 (by omega)
        obtain ⟨x, hx⟩ : ∃ x, l2[k]? = some x := ⟨l2[k], by simp [hlt]⟩
        have hcx := cell_below BR (hc k x hx)
        have hx03 := hin.out x (List.mem_of_getElem? hx)
        have hln : ¬ 9223372036854775807 < (scanB (l2.take k)).length + 2 := by rw [scanB_len]; have := List.length_take_le k l2; omega
        have E : Hid (scanB (l2.take (k + 1)) = scanB (l2.take k) ++ [32, srcB x]) := scanB_snoc hx
        clear hx hc
        have hnc := fun W => name08_calls x W hx03.1 hx03.2
        obtain ⟨cb, hcb⟩ : ∃ cb, UInt8.ofNat (97 + x.toNat) = cb := ⟨_, rfl⟩
        rw [hcb] at hnc
        replace hnc := Lib.hid hnc
        rw [show srcB x = cb from hcb] at E
        clear hcb
        have hs : (⟨(scanB (l2.take (k + 1))).toArray⟩ : ByteArray) = ⟨(scanB (l2.take k)).toArray⟩ ++ (⟨#[32]⟩ ++ ⟨[cb].toArray⟩) := by
          rw [E.out, show (⟨#[32]⟩ : ByteArray) = ⟨([32] : List UInt8).toArray⟩ from rfl, str_app, str_app]; rfl
        have Hs := Lib.hid hs
        clear hs hx03
        go_wp2_with (go_at_call 38; (with_reducible refine (hnc.out _).mono ?_); rintro e w2 ⟨rfl, hb2⟩)
        go_roundw
        case rel => exact ⟨k + 1, hlt, by go_num, by rw [Hs.out], below_trans BR hb2, XR.below hb2⟩
        case measure => simp [intOf]; omega
      · obtain rfl : k = l2.length := by omega
        go_wp2
        go_ret
        exact ret_lineR (by unfold lineB; rw [if_pos rfl]; simp) BR
  · clear hla hlw
    rcases hlt with rfl | rfl
    all_goals
      go_enter Tryd.func23, Tryd.ntmps23
      go_wp2_with (go_at_call 37; (with_reducible refine (hf6.out _).mono ?_); rintro e w1 ⟨rfl, hb1⟩; have B1 := below_trans HB hb1; have X1 := HX.below hb1; have ⟨x0, x1, x2, x3, x4, x5, x6, x7, x8, x9, _⟩ := X1.ten)
      go_ret
      exact ret_lineR rfl B1
  · split at hs
    · rename_i h4
      simp only [List.mem_cons, List.not_mem_nil, or_false] at hs
      subst hs
      have hl := hlw h4
      replace h4 := Lib.hid h4
      clear hla hlw
      have hlw1 : Go.RowKit.wrap64 ((l4.length : Int) - 1) = (l4.length : Int) - 1 := by unfold Go.RowKit.wrap64; have := h4.out; omega
      have h41 : 1 ≤ l4.length := h4.out
      go_enter Tryd.func23, Tryd.ntmps23
      go_wp2_with (first
        | (go_at_call 37; (with_reducible refine (hf6.out _).mono ?_); rintro e w1 ⟨rfl, hb1⟩; have B1 := below_trans HB hb1; have X1 := HX.below hb1; have ⟨x0, x1, x2, x3, x4, x5, x6, x7, x8, x9, _⟩ := X1.ten)
        | (go_at_call 39; (with_reducible refine (writtenP_calls a4 c4 l4 _ (hRw.below B1) (hcw.out h4.out) hww.out).mono ?_); rintro e w2 ⟨rfl, hb2⟩))
      go_ret
      exact ret_lineR (l := [119, 104, 101, 114, 101, 32] ++ exprB l4) rfl (below_trans B1 hb2)
    · cases hs
  · by_cases h1 : q0 = 1
    · subst h1
      clear hla hlw
      go_enter Tryd.func23, Tryd.ntmps23
      go_wp2_with (go_at_call 37; (with_reducible refine (hf6.out _).mono ?_); rintro e w1 ⟨rfl, hb1⟩; have B1 := below_trans HB hb1; have X1 := HX.below hb1; have ⟨x0, x1, x2, x3, x4, x5, x6, x7, x8, x9, _⟩ := X1.ten)
      go_ret
      exact ret_lineR rfl B1
    · have hl := hla h1
      have hne : (q0 == 1) = false := beq_eq_false_iff_ne.2 h1
      have hp := pos_of (hca.out h1)
      have h11 : 1 ≤ l1.length := hp
      have hlw1 : Go.RowKit.wrap64 ((l1.length : Int) - 1) = (l1.length : Int) - 1 := by unfold Go.RowKit.wrap64; omega
      replace h1 := Lib.hid h1
      clear hla hlw
      go_enter Tryd.func23, Tryd.ntmps23
      go_wp2_with (first
        | (go_at_call 37; (with_reducible refine (hf6.out _).mono ?_); rintro e w1 ⟨rfl, hb1⟩; have B1 := below_trans HB hb1; have X1 := HX.below hb1; have ⟨x0, x1, x2, x3, x4, x5, x6, x7, x8, x9, _⟩ := X1.ten)
        | (go_at_call 39; (with_reducible refine (writtenP_calls a1 c1 l1 _ (hRa.below B1) (hca.out h1.out) hwa.out).mono ?_); rintro e w2 ⟨rfl, hb2⟩))
      go_ret
      exact ret_lineR (l := [112, 114, 111, 106, 101, 99, 116, 32] ++ exprB l1) (by unfold lineB; rw [if_neg (by decide), if_neg (by decide), if_neg (by decide), if_pos rfl, if_neg h1.out]) (below_trans B1 hb2)
  · clear hla hlw
    split at hs
    · rename_i hh
      clear hh
      simp only [List.mem_cons, List.not_mem_nil, or_false] at hs
      subst hs
      go_enter Tryd.func23, Tryd.ntmps23
      go_wp2_with (go_at_call 37; (with_reducible refine (hf6.out _).mono ?_); rintro e w1 ⟨rfl, hb1⟩; have B1 := below_trans HB hb1; have X1 := HX.below hb1; have ⟨x0, x1, x2, x3, x4, x5, x6, x7, x8, x9, _⟩ := X1.ten)
      go_ret
      exact ret_lineR rfl B1
    · cases hs
  · clear hla hlw
    rcases hk with rfl | rfl | rfl
    all_goals
      go_enter Tryd.func23, Tryd.ntmps23
      go_wp2_with (first
        | (go_at_call 37; (with_reducible refine (hf6.out _).mono ?_); rintro e w1 ⟨rfl, hb1⟩; have B1 := below_trans HB hb1; have X1 := HX.below hb1; have ⟨x0, x1, x2, x3, x4, x5, x6, x7, x8, x9, _⟩ := X1.ten)
        | (go_at_call 37; (with_reducible refine (hf7.out _).mono ?_); rintro e w2 ⟨rfl, hb2⟩))
      go_ret
      first
        | exact ret_lineR (l := [115, 108, 105, 100, 101, 32] ++ t6 ++ [32, 101, 118, 101, 114, 121, 32] ++ t7) (by unfold lineB windowB; simp [H6.out, H7.out]) (below_trans B1 hb2)
        | exact ret_lineR (l := [116, 117, 109, 98, 108, 101, 32] ++ t6) (by unfold lineB windowB; simp [H6.out]) B1
        | exact ret_lineR (l := [115, 101, 115, 115, 105, 111, 110, 32] ++ t6) (by unfold lineB windowB; simp [H6.out]) B1
  · clear hla hlw
    split at hs
    all_goals
      rename_i hh
      clear hh
      simp only [List.mem_cons, List.not_mem_nil, or_false] at hs
      subst hs
      rcases hag with rfl | rfl | rfl | rfl
      all_goals
        go_enter Tryd.func23, Tryd.ntmps23
        go_wp2_with (first
          | (go_at_call 37; (with_reducible refine (hf6.out _).mono ?_); rintro e w1 ⟨rfl, hb1⟩; have B1 := below_trans HB hb1; have X1 := HX.below hb1; have ⟨x0, x1, x2, x3, x4, x5, x6, x7, x8, x9, _⟩ := X1.ten)
          | (go_at_call 40; (with_reducible refine (hagg.out _).mono ?_); rintro e w2 ⟨rfl, rfl⟩))
        go_ret
        exact ret_lineR rfl B1
  · clear hla hlw
    go_enter Tryd.func23, Tryd.ntmps23
    go_wp2_with (go_at_call 37; (with_reducible refine (hf6.out _).mono ?_); rintro e w1 ⟨rfl, hb1⟩; have B1 := below_trans HB hb1; have X1 := HX.below hb1; have ⟨x0, x1, x2, x3, x4, x5, x6, x7, x8, x9, _⟩ := X1.ten)
    go_ret
    exact ret_lineR rfl B1
  · clear hla hlw
    split at hs
    · rename_i hh
      clear hh
      simp only [List.mem_cons, List.not_mem_nil, or_false] at hs
      subst hs
      go_enter Tryd.func23, Tryd.ntmps23
      go_wp2_with (go_at_call 37; (with_reducible refine (hf6.out _).mono ?_); rintro e w1 ⟨rfl, hb1⟩; have B1 := below_trans HB hb1; have X1 := HX.below hb1; have ⟨x0, x1, x2, x3, x4, x5, x6, x7, x8, x9, _⟩ := X1.ten)
      go_ret
      exact ret_lineR rfl B1
    · cases hs
end Go.Proofs.YthijjpbkpmojbaaDoor
