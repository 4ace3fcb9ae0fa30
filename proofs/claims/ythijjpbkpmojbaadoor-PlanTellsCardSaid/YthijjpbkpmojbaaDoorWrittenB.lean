import Derived.Test.YthijjpbkpmojbaaDoorWritten
import Derived.Test.YthijjpbkpmojbaaDoorRegion
/-! ref11.Written by the tree. -/
namespace Go.Proofs.YthijjpbkpmojbaaDoor
open Go.RowKit Tw
set_option linter.unusedVariables false
set_option linter.unusedSimpArgs false
set_option maxHeartbeats 1000000 in
set_option maxRecDepth 100000 in
theorem written_leaf (A : Option Addr) (c : Nat) (l : List Nd) (w : World) (hR : RdN w A l) (k n p : Int) (o : Nat) (ha : AtL l o (.leaf k n p)) (hwf : T.wf (.leaf k n p)) (hfit : T.fit (.leaf k n p)) :
    Calls Tryd.prog 39 #[.slice A l.length c, .int .i64 o] w fun e w' => e = .returned (.string ⟨(leafB k n).toArray⟩) ∧ Below w.heap.size w w' := by
  obtain ⟨hl, hR⟩ := hR
  have hlt : o < l.length := (List.getElem?_eq_some_iff.1 ha.leaf).1
  obtain ⟨ad, rfl, hc⟩ := hR (by omega)
  obtain ⟨c0, c1, c2, c3, c4⟩ := hc o _ ha.leaf
  obtain ⟨hwf1, hwf2, -, -, -, -⟩ := hwf
  obtain ⟨hf1, hf2⟩ := hfit
  clear hc ha hR
  have HB := below_alloc (Below.refl w.heap.size w) (.cells #[.int .u8 k, .int .i64 n, .int .i64 0, .int .i64 0, .int .i64 p] 50)
  have HX := Bx.new w 50 #[.int .u8 k, .int .i64 n, .int .i64 0, .int .i64 0, .int .i64 p]
  have hL := fun W => line11_calls k W hwf1 (by omega)
  have hlk : lineK k = 9 := by unfold lineK; rw [if_pos hwf2]
  rw [hlk] at hL
  have hk : k = 1 ∨ k = 2 ∨ k = 3 ∨ k = 4 := by omega
  have hbelow : ∀ w1, Below (w.alloc (.cells #[.int .u8 k, .int .i64 n, .int .i64 0, .int .i64 0, .int .i64 p] 50)).heap.size (w.alloc (.cells #[.int .u8 k, .int .i64 n, .int .i64 0, .int .i64 0, .int .i64 p] 50)) w1 → Below w.heap.size w w1 ∧ w1.cell? ⟨w.heap.size, 0, none⟩ = some (.int .u8 k) ∧ w1.cell? ⟨w.heap.size, 1, none⟩ = some (.int .i64 n) ∧ (∀ o, (w1.alloc o).cell? ⟨w.heap.size, 0, none⟩ = some (.int .u8 k)) :=
    fun w1 hb => ⟨below_trans HB hb, (HX.below hb).cell 0 _ rfl, (HX.below hb).cell 1 _ rfl, fun o => ((HX.below hb).alloc o).cell 0 _ rfl⟩
  rcases hk with rfl | rfl | rfl | rfl
  all_goals (
    go_enter Tryd.func39, Tryd.ntmps39
    go_wp2_with (first
      | (go_at_call 54; (with_reducible refine (hL _).mono ?_); rintro e w1 ⟨rfl, hb1⟩; obtain ⟨hbw, x0, x1, x2⟩ := hbelow w1 hb1)
      | (go_at_call 37; refine (text01_calls n.natAbs n _ (Nat.le_refl _) ⟨hf1, hf2⟩).mono ?_; rintro e w2 ⟨rfl, hb2⟩))
    go_ret
    first
      | exact ⟨rfl, below_trans hbw hb2⟩
      | exact ⟨rfl, below_trans hbw (by with_reducible repeat (first | exact Below.refl _ _ | apply below_alloc | apply drewN_below | apply below_drew))⟩)
theorem root_at {l : List Nd} {o : Nat} {a : T} (h : AtL l o a) (hwf : a.wf) : ∃ x : Nd, l[o + a.size - 1]? = some x ∧ 1 ≤ x.f0 ∧ x.f0 ≤ 19 ∧ ∀ least, least ≤ 9 → brB (decide (lineK x.f0 < least)) (bt 0 a) = bt least a := by
  cases a with
  | leaf k n p =>
    refine ⟨_, by simpa [T.size] using h.leaf, hwf.1, by have := hwf.2.1; simp only; omega, fun least hl => ?_⟩
    have hk : lineK k = 9 := by unfold lineK; rw [if_pos hwf.2.1]
    simp only
    rw [hk, decide_eq_false (by omega)]
    rfl
  | un k p a =>
    have e : o + (T.un k p a).size - 1 = o + a.size := by simp only [T.size]; omega
    rw [e]
    refine ⟨_, h.un.2, by have := hwf.1; simp only; omega, by have := hwf.1; simp only; omega, fun least hl => bt_un.symm⟩
  | bin k p a b =>
    have e : o + (T.bin k p a b).size - 1 = o + a.size + b.size := by simp only [T.size]; omega
    rw [e]
    refine ⟨_, h.bin.2.2, by have := hwf.1; simp only; omega, by have := hwf.2.1; simp only; omega, fun least hl => bt_bin.symm⟩
theorem part_tree (A : Option Addr) (c : Nat) (l : List Nd) (w : World) (hR : RdN w A l) (a : T) (o : Nat) (ha : AtL l o a) (hwf : a.wf) (hfit : a.fit) (hsz : a.size ≤ 60) (least : Nat) (hl : least ≤ 9)
    (ih : ∀ W, RdN W A l → Calls Tryd.prog 39 #[.slice A l.length c, .int .i64 ((o : Int) + a.size - 1)] W fun e w' => e = .returned (.string ⟨(bt 0 a).toArray⟩) ∧ Below W.heap.size W w') :
    Calls Tryd.prog 55 #[.slice A l.length c, .int .i64 ((o : Int) + a.size - 1), .int .i64 least] w fun e w' => e = .returned (.string ⟨(bt least a).toArray⟩) ∧ Below w.heap.size w w' := by
  obtain ⟨x, hx, h1, h19, hbr⟩ := root_at ha hwf
  have hp := a.size_pos
  have e : (o : Int) + a.size - 1 = ((o + a.size - 1 : Nat) : Int) := by omega
  have hlen := bt_len a hfit 0
  rw [e] at ih ⊢
  rw [← hbr least hl]
  exact part_calls A c l w hR _ x hx h1 h19 least (bt 0 a) (by omega) fun W hW => ih W (hR.below hW)
set_option maxHeartbeats 1000000 in
set_option maxRecDepth 100000 in
theorem written_un (A : Option Addr) (c : Nat) (l : List Nd) (w : World) (hR : RdN w A l) (k p : Int) (a : T) (o : Nat) (ha : AtL l o (.un k p a)) (hwf : T.wf (.un k p a)) (hfit : T.fit (.un k p a)) (hsz : a.size ≤ 60)
    (ih : ∀ W, RdN W A l → Calls Tryd.prog 39 #[.slice A l.length c, .int .i64 ((o : Int) + a.size - 1)] W fun e w' => e = .returned (.string ⟨(bt 0 a).toArray⟩) ∧ Below W.heap.size W w') :
    Calls Tryd.prog 39 #[.slice A l.length c, .int .i64 ((o : Int) + (T.un k p a).size - 1)] w fun e w' => e = .returned (.string ⟨(bt 0 (.un k p a)).toArray⟩) ∧ Below w.heap.size w w' := by
  have hR0 := hR
  obtain ⟨hl, hR⟩ := hR
  obtain ⟨haa, hat⟩ := ha.un
  have hlt := (List.getElem?_eq_some_iff.1 hat).1
  obtain ⟨ad, rfl, hc⟩ := hR (by omega)
  obtain ⟨c0, c1, c2, c3, c4⟩ := hc _ _ hat
  obtain ⟨hk, -, -, hwa⟩ := hwf
  obtain ⟨m, hm⟩ : ∃ m, o + a.size = m := ⟨_, rfl⟩
  have hm' : (o : Int) + (T.un k p a).size - 1 = m := by simp only [T.size]; omega
  obtain ⟨ia, hia⟩ : ∃ ia, (o : Int) + a.size - 1 = ia := ⟨_, rfl⟩
  have hp := fun W hW least hl => part_tree (some ad) c l W (hR0.below hW) a o haa hwa hfit hsz least hl ih
  rw [hm] at c0 c1 c2 c3 c4 hlt
  simp only at c0 c1 c2 c3 c4
  rw [hia] at c2 hp
  rw [hm']
  have hE : Hid (bt 0 (.un k p a) = unB k ++ bt (lineK k) a) := by simp [bt, brB, Hid]
  have hlen := bt_len a hfit (lineK k)
  clear hc ha hR hat hm' hm hia ih hR0
  have HB := below_alloc (Below.refl w.heap.size w) (.cells #[.int .u8 k, .int .i64 0, .int .i64 ia, .int .i64 0, .int .i64 p] 50)
  have HX := Bx.new w 50 #[.int .u8 k, .int .i64 0, .int .i64 ia, .int .i64 0, .int .i64 p]
  have hbelow : ∀ w1, Below (w.alloc (.cells #[.int .u8 k, .int .i64 0, .int .i64 ia, .int .i64 0, .int .i64 p] 50)).heap.size (w.alloc (.cells #[.int .u8 k, .int .i64 0, .int .i64 ia, .int .i64 0, .int .i64 p] 50)) w1 → Below w.heap.size w w1 ∧ w1.cell? ⟨w.heap.size, 0, none⟩ = some (.int .u8 k) ∧ w1.cell? ⟨w.heap.size, 2, none⟩ = some (.int .i64 ia) :=
    fun w1 hb => ⟨below_trans HB hb, (HX.below hb).cell 0 _ rfl, (HX.below hb).cell 2 _ rfl⟩
  have hL := fun W => line11_calls k W (by omega) (by omega)
  rcases hk with rfl | rfl
  · have hp' := fun W hW => hp W hW 8 (by omega)
    have hln : ¬ 9223372036854775807 < 1 + (bt 8 a).length := by have : (bt 8 a).length ≤ 20 * a.size := hlen; omega
    clear hp hlen
    go_enter Tryd.func39, Tryd.ntmps39
    go_wp2_with (first
      | (go_at_call 54; (with_reducible refine (hL _).mono ?_); rintro e w1 ⟨rfl, hb1⟩; obtain ⟨hbw, x0, x1⟩ := hbelow w1 hb1)
      | (go_at_call 55; refine (hp' _ hbw).mono ?_; rintro e w2 ⟨rfl, hb2⟩))
    go_ret
    exact ⟨by rw [hE.out, ← str_app]; rfl, below_trans hbw hb2⟩
  · have hp' := fun W hW => hp W hW 3 (by omega)
    have hln : ¬ 9223372036854775807 < 4 + (bt 3 a).length := by have : (bt 3 a).length ≤ 20 * a.size := hlen; omega
    clear hp hlen
    go_enter Tryd.func39, Tryd.ntmps39
    go_wp2_with (first
      | (go_at_call 54; (with_reducible refine (hL _).mono ?_); rintro e w1 ⟨rfl, hb1⟩; obtain ⟨hbw, x0, x1⟩ := hbelow w1 hb1)
      | (go_at_call 55; refine (hp' _ hbw).mono ?_; rintro e w2 ⟨rfl, hb2⟩))
    go_ret
    exact ⟨by rw [hE.out, ← str_app]; rfl, below_trans hbw hb2⟩
set_option maxHeartbeats 2000000 in
set_option maxRecDepth 100000 in
theorem written_bin (A : Option Addr) (c : Nat) (l : List Nd) (w : World) (hR : RdN w A l) (k p : Int) (t1 t2 : T) (o : Nat) (ha : AtL l o (.bin k p t1 t2)) (hwf : T.wf (.bin k p t1 t2)) (hfit : T.fit (.bin k p t1 t2)) (hs1 : t1.size ≤ 60) (hs2 : t2.size ≤ 60)
    (ih1 : ∀ W, RdN W A l → Calls Tryd.prog 39 #[.slice A l.length c, .int .i64 ((o : Int) + t1.size - 1)] W fun e w' => e = .returned (.string ⟨(bt 0 t1).toArray⟩) ∧ Below W.heap.size W w')
    (ih2 : ∀ W, RdN W A l → Calls Tryd.prog 39 #[.slice A l.length c, .int .i64 (((o + t1.size : Nat) : Int) + t2.size - 1)] W fun e w' => e = .returned (.string ⟨(bt 0 t2).toArray⟩) ∧ Below W.heap.size W w') :
    Calls Tryd.prog 39 #[.slice A l.length c, .int .i64 ((o : Int) + (T.bin k p t1 t2).size - 1)] w fun e w' => e = .returned (.string ⟨(bt 0 (.bin k p t1 t2)).toArray⟩) ∧ Below w.heap.size w w' := by
  have hR0 := hR
  obtain ⟨hl, hR⟩ := hR
  obtain ⟨haa, hbb, hat⟩ := ha.bin
  have hlt := (List.getElem?_eq_some_iff.1 hat).1
  obtain ⟨ad, rfl, hc⟩ := hR (by omega)
  obtain ⟨c0, c1, c2, c3, c4⟩ := hc _ _ hat
  obtain ⟨hk7, hk19, -, -, hwa, hwb⟩ := hwf
  obtain ⟨hf1, hf2⟩ := hfit
  obtain ⟨m, hm⟩ : ∃ m, o + t1.size + t2.size = m := ⟨_, rfl⟩
  have hm' : (o : Int) + (T.bin k p t1 t2).size - 1 = m := by simp only [T.size]; omega
  obtain ⟨ia, hia⟩ : ∃ ia, (o : Int) + t1.size - 1 = ia := ⟨_, rfl⟩
  obtain ⟨ib, hib⟩ : ∃ ib, (o : Int) + t1.size + t2.size - 1 = ib := ⟨_, rfl⟩
  have hib' : ((o + t1.size : Nat) : Int) + t2.size - 1 = ib := by omega
  obtain ⟨L, hL⟩ : ∃ L, lineK k = L := ⟨_, rfl⟩
  have hL8 : L ≤ 7 := by rw [← hL]; unfold lineK; have := @lvK_le8 k; rw [if_neg (by omega), if_neg (by omega), if_neg (by omega)]; omega
  have hL3 : L ≠ 3 := by rw [← hL]; unfold lineK lvK; (repeat' split) <;> omega
  obtain ⟨lf, hlf⟩ : ∃ lf, leftK k = lf := ⟨_, rfl⟩
  have hlk : lf = if L = 4 then 5 else L := by rw [← hlf, ← hL]; rfl
  have hp1 := fun W hW => part_tree (some ad) c l W (hR0.below hW) t1 o haa hwa hf1 hs1 lf (by rw [hlk]; split <;> omega) ih1
  have hp2 := fun W hW => part_tree (some ad) c l W (hR0.below hW) t2 (o + t1.size) hbb hwb hf2 hs2 (L + 1) (by omega) ih2
  rw [hm] at c0 c1 c2 c3 c4 hlt
  simp only at c0 c1 c2 c3 c4
  rw [hia] at c2 hp1
  rw [hib] at c3
  rw [hib'] at hp2
  rw [hm']
  have hE : Hid (bt 0 (.bin k p t1 t2) = bt lf t1 ++ (opB k ++ bt (L + 1) t2)) := by rw [← hlf, ← hL]; simp [bt, brB, Hid]
  have hlen1 := bt_len t1 hf1 lf
  have hlen2 := bt_len t2 hf2 (L + 1)
  obtain ⟨op, hop⟩ : ∃ op, ops.getD (k - 7).toNat [] = op := ⟨_, rfl⟩
  have hopl : op.length ≤ 3 := by rw [← hop]; exact ops_len _
  have hS : Hid ((⟨(bt lf t1).toArray⟩ : ByteArray) ++ ⟨#[32]⟩ ++ ⟨op.toArray⟩ ++ ⟨#[32]⟩ ++ ⟨(bt (L + 1) t2).toArray⟩ = ⟨(bt 0 (.bin k p t1 t2)).toArray⟩) := by
    have e32 : (⟨#[32]⟩ : ByteArray) = ⟨([32] : List UInt8).toArray⟩ := rfl
    refine Lib.hid ?_
    rw [e32, str_app, str_app, str_app, str_app, ← hlf, ← hL, bt, brB, decide_eq_false (Nat.not_lt_zero _), opB, hop]
    simp
  have hw5 : IntKind.i64.wrap 5 = 5 := by decide
  have hln1 : ¬ 9223372036854775807 < (bt lf t1).length + 1 := by omega
  have hln2 : ¬ 9223372036854775807 < (bt lf t1).length + 1 + op.length := by omega
  have hln3 : ¬ 9223372036854775807 < (bt lf t1).length + 1 + op.length + 1 := by omega
  have hln4 : ¬ 9223372036854775807 < (bt lf t1).length + 1 + op.length + 1 + (bt (L + 1) t2).length := by omega
  have hopB : opB k = 32 :: (op ++ [32]) := by unfold opB; rw [hop]
  rw [hopB] at hE
  have hLc := fun W => line11_calls k W (by omega) hk19
  rw [hL] at hLc
  clear hc ha hR hat hm' hm hia hib hib' ih1 ih2 hR0 hopB hlf hL
  have HB := below_alloc (Below.refl w.heap.size w) (.cells #[.int .u8 k, .int .i64 0, .int .i64 ia, .int .i64 ib, .int .i64 p] 50)
  have HX := Bx.new w 50 #[.int .u8 k, .int .i64 0, .int .i64 ia, .int .i64 ib, .int .i64 p]
  have hbelow : ∀ w1, Below (w.alloc (.cells #[.int .u8 k, .int .i64 0, .int .i64 ia, .int .i64 ib, .int .i64 p] 50)).heap.size (w.alloc (.cells #[.int .u8 k, .int .i64 0, .int .i64 ia, .int .i64 ib, .int .i64 p] 50)) w1 → Below w.heap.size w w1 ∧ Bx w1 w.heap.size 50 #[.int .u8 k, .int .i64 0, .int .i64 ia, .int .i64 ib, .int .i64 p] :=
    fun w1 hb => ⟨below_trans HB hb, HX.below hb⟩
  have hkn1 : (k == 1) = false := beq_eq_false_iff_ne.2 (by omega)
  have hkw : IntKind.u8.wrap (k - 7) = k - 7 := by simp [IntKind.wrap, IntKind.signed, IntKind.bits]; omega
  have hk0 : (0 : Int) ≤ k - 7 := by omega
  have hk13 : k - 7 < 13 := by omega
  have hLn9 : ((L : Int) == 9) = false := beq_eq_false_iff_ne.2 (by omega)
  have hLn8 : ((L : Int) == 8) = false := beq_eq_false_iff_ne.2 (by omega)
  have hLn3 : ((L : Int) == 3) = false := beq_eq_false_iff_ne.2 (by omega)
  have hLw : IntKind.i64.wrap ((L : Int) + 1) = (L : Int) + 1 := by simp [IntKind.wrap, IntKind.signed, IntKind.bits]; omega
  have hL1 : ((L + 1 : Nat) : Int) = (L : Int) + 1 := by omega
  rw [hL1] at hp2
  have hLf : (L = 4 ∧ lf = 5) ∨ (L ≠ 4 ∧ lf = L) := by rw [hlk]; by_cases h : L = 4 <;> simp [h]
  clear hlk
  rcases hLf with ⟨rfl, rfl⟩ | ⟨h4, rfl⟩
  all_goals try rw [show ((4 : Nat) : Int) = 4 from rfl] at hLc hp2 hLn9 hLn8 hLn3 hLw
  all_goals try rw [show (4 : Int) + 1 = 5 from rfl] at hp2
  all_goals try rw [show ((5 : Nat) : Int) = 5 from rfl] at hp1
  all_goals try have hLn4 : ((lf : Int) == 4) = false := beq_eq_false_iff_ne.2 (by omega)
  all_goals (
    go_enter Tryd.func39, Tryd.ntmps39
    go_wp2_with (first
      | (go_at_call 54; (with_reducible refine (hLc _).mono ?_); rintro e w1 ⟨rfl, hb1⟩; obtain ⟨hbw, HX1⟩ := hbelow w1 hb1; have x0 := HX1.cell 0 _ rfl; have x2 := HX1.cell 2 _ rfl; have x3 := HX1.cell 3 _ rfl))
    have hcl : ∀ W, Below w1.heap.size w1 W → W.cell? ⟨w.heap.size, 0, none⟩ = some (.int .u8 k) ∧ W.cell? ⟨w.heap.size, 2, none⟩ = some (.int .i64 ia) ∧ W.cell? ⟨w.heap.size, 3, none⟩ = some (.int .i64 ib) :=
      fun W hb => ⟨(HX1.below hb).cell 0 _ rfl, (HX1.below hb).cell 2 _ rfl, (HX1.below hb).cell 3 _ rfl⟩
    obtain ⟨y0, y2, y3⟩ := hcl w1.drew (below_drew (Below.refl _ _))
    replace hcl := Lib.hid hcl
    replace hp1 := Lib.hid hp1
    replace hp2 := Lib.hid hp2
    clear hLc hbelow HX HB hlen1 hlen2 hkn1 hLn9 hLn8 hLn3 c0 c1 c2 c3 c4 hlt hs1 hs2 haa hbb hwa hwb hf1 hf2 hl x0 x2 x3 HX1
    refine wp_region_noPanic ?_
    refine wp_region_held_drew (S := fun W => W.cell? ⟨w.heap.size, 0, none⟩ = some (.int .u8 k) ∧ W.cell? ⟨w.heap.size, 2, none⟩ = some (.int .i64 ia) ∧ W.cell? ⟨w.heap.size, 3, none⟩ = some (.int .i64 ib)) (by kernel_rfl) ⟨y0, y2, y3⟩ (fun hHeld => ?_)
    (refine wpAnyH_take (i := 0) (oi := _) (v := ?_) rfl (by kernel_rfl) (by kernel_rfl) (by kernel_rfl) (fun _ _ _ h => h) (Or.inl ⟨by rfl, ?_⟩) (by assumption) ?_); rotate_left; (intro W hS; (try dsimp only at hS); go_simp; try with_reducible rfl); (try simp only [Act.put, List.setIfInBounds_toArray, List.set_cons_zero, List.set_cons_succ, List.getElem_toArray, List.getElem_cons_zero, List.getElem_cons_succ])
    (refine wpAnyH_take (i := 1) (oi := _) (v := ?_) rfl (by kernel_rfl) (by kernel_rfl) (by kernel_rfl) (fun _ _ _ h => h) (Or.inl ⟨by rfl, ?_⟩) (by assumption) ?_); rotate_left; (intro W hS; (try dsimp only at hS); go_simp; try with_reducible rfl); (try simp only [Act.put, List.setIfInBounds_toArray, List.set_cons_zero, List.set_cons_succ, List.getElem_toArray, List.getElem_cons_zero, List.getElem_cons_succ])
    (refine wpAnyH_take (i := 2) (oi := _) (v := ?_) rfl (by kernel_rfl) (by kernel_rfl) (by kernel_rfl) (fun _ _ _ h => h) (Or.inl ⟨by rfl, ?_⟩) (by assumption) ?_); rotate_left; (intro W hS; (try dsimp only at hS); go_simp; try with_reducible rfl); (try simp only [Act.put, List.setIfInBounds_toArray, List.set_cons_zero, List.set_cons_succ, List.getElem_toArray, List.getElem_cons_zero, List.getElem_cons_succ])
    (refine wpAnyH_take (i := 3) (oi := _) (v := ?_) rfl (by kernel_rfl) (by kernel_rfl) (by kernel_rfl) (fun _ _ _ h => h) (Or.inl ⟨by rfl, ?_⟩) (by assumption) ?_); rotate_left; (intro W hS; (try dsimp only at hS); go_simp; try with_reducible rfl); (try simp only [Act.put, List.setIfInBounds_toArray, List.set_cons_zero, List.set_cons_succ, List.getElem_toArray, List.getElem_cons_zero, List.getElem_cons_succ])
    (refine wpAnyH_take (i := 7) (oi := _) (v := ?_) rfl (by kernel_rfl) (by kernel_rfl) (by kernel_rfl) (fun _ _ _ h => h) (Or.inl ⟨by rfl, ?_⟩) (by assumption) ?_); rotate_left; (intro W hS; (try dsimp only at hS); go_simp; try with_reducible rfl); (try simp only [Act.put, List.setIfInBounds_toArray, List.set_cons_zero, List.set_cons_succ, List.getElem_toArray, List.getElem_cons_zero, List.getElem_cons_succ])
    (refine wpAnyH_take (i := 8) (oi := _) (v := ?_) rfl (by kernel_rfl) (by kernel_rfl) (by kernel_rfl) (fun _ _ _ h => h) (Or.inl ⟨by rfl, ?_⟩) (by assumption) ?_); rotate_left; (intro W hS; (try dsimp only at hS); go_simp; try with_reducible rfl); (try simp only [Act.put, List.setIfInBounds_toArray, List.set_cons_zero, List.set_cons_succ, List.getElem_toArray, List.getElem_cons_zero, List.getElem_cons_succ])
    (refine wpAnyH_take (i := 9) (oi := _) (v := ?_) rfl (by kernel_rfl) (by kernel_rfl) (by kernel_rfl) (fun _ _ _ h => h) (Or.inl ⟨by rfl, ?_⟩) (by assumption) ?_); rotate_left; (intro W hS; (try dsimp only at hS); go_simp; try with_reducible rfl); (try simp only [Act.put, List.setIfInBounds_toArray, List.set_cons_zero, List.set_cons_succ, List.getElem_toArray, List.getElem_cons_zero, List.getElem_cons_succ])
    (refine wpAnyH_take (i := 14) (oi := _) (v := ?_) rfl (by kernel_rfl) (by kernel_rfl) (by kernel_rfl) (fun _ _ _ h => h) (Or.inl ⟨by rfl, ?_⟩) (by assumption) ?_); rotate_left; (intro W hS; (try dsimp only at hS); go_simp; try with_reducible rfl); (try simp only [Act.put, List.setIfInBounds_toArray, List.set_cons_zero, List.set_cons_succ, List.getElem_toArray, List.getElem_cons_zero, List.getElem_cons_succ])
    (refine wpAnyH_take (i := 15) (oi := _) (v := ?_) rfl (by kernel_rfl) (by kernel_rfl) (by kernel_rfl) (fun _ _ _ h => h) (Or.inl ⟨by rfl, ?_⟩) (by assumption) ?_); rotate_left; (intro W hS; (try dsimp only at hS); go_simp; try with_reducible rfl); (try simp only [Act.put, List.setIfInBounds_toArray, List.set_cons_zero, List.set_cons_succ, List.getElem_toArray, List.getElem_cons_zero, List.getElem_cons_succ])
    (refine wpAnyH_take (i := 16) (oi := _) (v := ?_) rfl (by kernel_rfl) (by kernel_rfl) (by kernel_rfl) (fun _ _ _ h => h) (Or.inl ⟨by rfl, ?_⟩) (by assumption) ?_); rotate_left; (intro W hS; (try dsimp only at hS); go_simp; try with_reducible rfl); (try simp only [Act.put, List.setIfInBounds_toArray, List.set_cons_zero, List.set_cons_succ, List.getElem_toArray, List.getElem_cons_zero, List.getElem_cons_succ])
    (refine wpAnyH_take (i := 17) (oi := _) (v := ?_) rfl (by kernel_rfl) (by kernel_rfl) (by kernel_rfl) (fun _ _ _ h => h) (Or.inl ⟨by rfl, ?_⟩) (by assumption) ?_); rotate_left; (intro W hS; (try dsimp only at hS); go_simp; try with_reducible rfl); (try simp only [Act.put, List.setIfInBounds_toArray, List.set_cons_zero, List.set_cons_succ, List.getElem_toArray, List.getElem_cons_zero, List.getElem_cons_succ])
    (refine wpAnyH_take (i := 18) (oi := _) (v := ?_) rfl (by kernel_rfl) (by kernel_rfl) (by kernel_rfl) (fun _ _ _ h => h) (Or.inl ⟨by rfl, ?_⟩) (by assumption) ?_); rotate_left; (intro W hS; (try dsimp only at hS); go_simp; try with_reducible rfl); (try simp only [Act.put, List.setIfInBounds_toArray, List.set_cons_zero, List.set_cons_succ, List.getElem_toArray, List.getElem_cons_zero, List.getElem_cons_succ])
    (refine wpAnyH_ready (rs := [4]) (by kernel_rfl) (by simp) ?_); (refine AllReadyH.cons (o := _) rfl (fun K hK => ?_) AllReadyH.nil); go_simp
    (with_reducible refine (hp1.out w1.drew (below_drew hbw)).mono ?_); rintro e w2 ⟨rfl, hb2⟩; have hb12 := below_trans (below_drew (Below.refl w1.heap.size w1)) hb2; obtain ⟨z0, z2, z3⟩ := hcl.out w2 hb12
    go_wp2_with fail
    refine hK.out _ _ ⟨z0, z2, z3⟩ (fun hHeld => ?_)
    clear hK K; (try simp only [Act.put, List.setIfInBounds_toArray, List.set_cons_zero, List.set_cons_succ, List.getElem_toArray, List.getElem_cons_zero, List.getElem_cons_succ])
    (refine wpAnyH_take (i := 5) (oi := _) (v := ?_) rfl (by kernel_rfl) (by kernel_rfl) (by kernel_rfl) (fun _ _ _ h => h) (Or.inl ⟨by rfl, ?_⟩) (by assumption) ?_); rotate_left; (intro W hS; (try dsimp only at hS); go_simp; try with_reducible rfl); (try simp only [Act.put, List.setIfInBounds_toArray, List.set_cons_zero, List.set_cons_succ, List.getElem_toArray, List.getElem_cons_zero, List.getElem_cons_succ])
    (refine wpAnyH_ready (rs := [6]) (by kernel_rfl) (by simp) ?_); (refine AllReadyH.cons (o := _) rfl (fun K hK => ?_) AllReadyH.nil); go_simp
    (with_reducible refine (ops05_calls w2).mono ?_); rintro e w3 ⟨aop, rfl, hb3, hoc⟩; have hb13 := below_trans hb12 hb3; obtain ⟨u0, u2, u3⟩ := hcl.out w3 hb13; have us := hoc (k - 7).toNat (by omega); rw [hop] at us; clear hoc
    go_wp2_with fail
    refine hK.out _ _ ⟨u0, u2, u3⟩ (fun hHeld => ?_)
    clear hK K; (try simp only [Act.put, List.setIfInBounds_toArray, List.set_cons_zero, List.set_cons_succ, List.getElem_toArray, List.getElem_cons_zero, List.getElem_cons_succ])
    refine wpAnyH_weaken (S' := fun W => (W.cell? ⟨w.heap.size, 0, none⟩ = some (.int .u8 k) ∧ W.cell? ⟨w.heap.size, 2, none⟩ = some (.int .i64 ia) ∧ W.cell? ⟨w.heap.size, 3, none⟩ = some (.int .i64 ib)) ∧ W.cell? (aop.add (k - 7).toNat) = some (.string ⟨op.toArray⟩)) (fun W h => h.1) _ _ _ _ ?_
    have hHeld := And.intro hHeld us
    (refine wpAnyH_take (i := 10) (oi := _) (v := ?_) rfl (by kernel_rfl) (by kernel_rfl) (by kernel_rfl) (fun _ _ _ h => h) (Or.inl ⟨by rfl, ?_⟩) (by assumption) ?_); rotate_left; (intro W hS; (try dsimp only at hS); go_simp; try with_reducible rfl); (try simp only [Act.put, List.setIfInBounds_toArray, List.set_cons_zero, List.set_cons_succ, List.getElem_toArray, List.getElem_cons_zero, List.getElem_cons_succ])
    (refine wpAnyH_take (i := 11) (oi := _) (v := ?_) rfl (by kernel_rfl) (by kernel_rfl) (by kernel_rfl) (fun _ _ _ h => h) (Or.inl ⟨by rfl, ?_⟩) (by assumption) ?_); rotate_left; (intro W hS; (try dsimp only at hS); go_simp; try with_reducible rfl); (try simp only [Act.put, List.setIfInBounds_toArray, List.set_cons_zero, List.set_cons_succ, List.getElem_toArray, List.getElem_cons_zero, List.getElem_cons_succ])
    (refine wpAnyH_take (i := 12) (oi := _) (v := ?_) rfl (by kernel_rfl) (by kernel_rfl) (by kernel_rfl) (fun _ _ _ h => h) (Or.inl ⟨by rfl, ?_⟩) (by assumption) ?_); rotate_left; (intro W hS; (try dsimp only at hS); go_simp; try with_reducible rfl); (try simp only [Act.put, List.setIfInBounds_toArray, List.set_cons_zero, List.set_cons_succ, List.getElem_toArray, List.getElem_cons_zero, List.getElem_cons_succ])
    (refine wpAnyH_take (i := 13) (oi := _) (v := ?_) rfl (by kernel_rfl) (by kernel_rfl) (by kernel_rfl) (fun _ _ _ h => h) (Or.inl ⟨by rfl, ?_⟩) (by assumption) ?_); rotate_left; (intro W hS; (try dsimp only at hS); go_simp; try with_reducible rfl); (try simp only [Act.put, List.setIfInBounds_toArray, List.set_cons_zero, List.set_cons_succ, List.getElem_toArray, List.getElem_cons_zero, List.getElem_cons_succ])
    (refine wpAnyH_ready (rs := [19]) (by kernel_rfl) (by simp) ?_); (refine AllReadyH.cons (o := _) rfl (fun K hK => ?_) AllReadyH.nil); go_simp
    (with_reducible refine (hp2.out w3 (below_trans hbw hb13)).mono ?_); rintro e w4 ⟨rfl, hb4⟩; have hb14 := below_trans hb13 hb4; obtain ⟨v0, v2, v3⟩ := hcl.out w4 hb14; have vs := cell_below hb4 us
    go_wp2_with fail
    refine hK.out _ _ ⟨⟨v0, v2, v3⟩, vs⟩ (fun hHeld => ?_)
    clear hK K; (try simp only [Act.put, List.setIfInBounds_toArray, List.set_cons_zero, List.set_cons_succ, List.getElem_toArray, List.getElem_cons_zero, List.getElem_cons_succ])
    (refine wpAnyH_take (i := 20) (oi := _) (v := ?_) rfl (by kernel_rfl) (by kernel_rfl) (by kernel_rfl) (fun _ _ _ h => h) (Or.inl ⟨by rfl, ?_⟩) (by assumption) ?_); rotate_left; (intro W hS; (try dsimp only at hS); go_simp; try with_reducible rfl); (try simp only [Act.put, List.setIfInBounds_toArray, List.set_cons_zero, List.set_cons_succ, List.getElem_toArray, List.getElem_cons_zero, List.getElem_cons_succ])
    (refine wpAnyH_take (i := 21) (oi := _) (v := ?_) rfl (by kernel_rfl) (by kernel_rfl) (by kernel_rfl) (fun _ _ _ h => h) (Or.inl ⟨by rfl, ?_⟩) (by assumption) ?_); rotate_left; (intro W hS; (try dsimp only at hS); go_simp; try with_reducible rfl); (try simp only [Act.put, List.setIfInBounds_toArray, List.set_cons_zero, List.set_cons_succ, List.getElem_toArray, List.getElem_cons_zero, List.getElem_cons_succ])
    refine wpAnyH_done (by kernel_rfl) ?_ _
    refine NoPanic.normal ?_
    go_wp2_with fail
    go_ret
    exact ⟨congrArg (fun s => Ending.returned (.string s)) hS.out, below_trans hbw hb14⟩)
theorem written_calls (A : Option Addr) (c : Nat) (l : List Nd) (t : T) : ∀ (o : Nat) (w : World), RdN w A l → AtL l o t → t.wf → t.fit → t.size ≤ 60 →
    Calls Tryd.prog 39 #[.slice A l.length c, .int .i64 ((o : Int) + t.size - 1)] w fun e w' => e = .returned (.string ⟨(bt 0 t).toArray⟩) ∧ Below w.heap.size w w' := by
  induction t with
  | leaf k n p =>
    intro o w hR ha hwf hfit _
    have e : (o : Int) + ((T.leaf k n p).size : Nat) - 1 = o := by simp only [T.size]; omega
    rw [e]
    exact written_leaf A c l w hR k n p o ha hwf hfit
  | un k p a ih =>
    intro o w hR ha hwf hfit hsz
    simp only [T.size] at hsz
    exact written_un A c l w hR k p a o ha hwf hfit (by omega) fun W hW => ih o W hW ha.un.1 hwf.2.2.2 hfit (by omega)
  | bin k p a b iha ihb =>
    intro o w hR ha hwf hfit hsz
    simp only [T.size] at hsz
    exact written_bin A c l w hR k p a b o ha hwf hfit (by omega) (by omega) (fun W hW => iha o W hW ha.bin.1 hwf.2.2.2.2.1 hfit.1 (by omega)) (fun W hW => ihb (o + a.size) W hW ha.bin.2.1 hwf.2.2.2.2.2 hfit.2 (by omega))
end Go.Proofs.YthijjpbkpmojbaaDoor
