import Derived.Test.YthijjpbkpmojbaaDoorPline
import Derived.Test.YthijjpbkpmojbaaDoorRline
import Derived.Test.YthijjpbkpmojbaaDoorPlanD
/-! Layer 22: Text, the program's and the reference's; Same. -/
namespace Go.Proofs.YthijjpbkpmojbaaDoor
open Go.RowKit Tw
set_option linter.unusedVariables false
set_option linter.unusedSimpArgs false
/-- The text of a plan. -/
def textB (q : Qr) (l : List Int) : List UInt8 := l.flatMap fun s => lineB q s ++ [10]
def ptB (st : List Int) (q : Qr) : List UInt8 := if pE st q = 0 then textB q st else []
theorem aggB_len (a : Int) : (aggB a).length ≤ 5 := by
  unfold aggB
  (repeat' split) <;> simp
theorem lineB_len {q : Qr} (ok : QOk q) (hw : QWf q) (s : Int) (hs : s ∈ stepsQ q) : (lineB q s).length ≤ 1300 := by
  have h6 := itoa_len hw.ws.1 hw.ws.2
  have h7 := itoa_len hw.we.1 hw.we.2
  have h1 := scanB_len q.src
  have hl := ok.srcl
  have ha := aggB_len q.ag
  have hwn : (windowB q).length ≤ 60 := by
    unfold windowB
    split
    · simp only [List.length_append, List.length_cons, List.length_nil]; omega
    · split <;> simp only [List.length_append, List.length_cons, List.length_nil] <;> omega
  have h4 : q.ag ≠ 1 → (exprB q.arg).length ≤ 1200 := fun h => exprB_len (ok.arg h) hw.arg
  rcases mem_steps hs with (rfl | rfl | rfl | rfl | rfl | rfl) | rfl | ⟨rfl, h'⟩ | rfl | rfl
  · rw [show lineB q 2 = if q.lt = 2 then [108, 97, 116, 101, 32, 115, 105, 100, 101] else [108, 97, 116, 101, 32, 100, 114, 111, 112] from rfl]
    split <;> simp
  · show 3 ≤ 1300; omega
  · show (aggB q.ag).length ≤ 1300; omega
  · show ([106, 111, 105, 110, 32] ++ aggB q.ag).length ≤ 1300; simp only [List.length_append, List.length_cons, List.length_nil]; omega
  · show 4 ≤ 1300; omega
  · show 4 ≤ 1300; omega
  · show (scanB q.src).length ≤ 1300; omega
  · have h3 := exprB_len (ok.wh h') hw.wh
    show ([119, 104, 101, 114, 101, 32] ++ exprB q.wh).length ≤ 1300; simp only [List.length_append, List.length_cons, List.length_nil]; omega
  · rw [show lineB q 4 = if q.ag = 1 then [112, 114, 111, 106, 101, 99, 116, 32, 48] else [112, 114, 111, 106, 101, 99, 116, 32] ++ exprB q.arg from rfl]
    by_cases h : q.ag = 1
    · rw [if_pos h]; simp
    · rw [if_neg h]; have := h4 h; simp only [List.length_append, List.length_cons, List.length_nil]; omega
  · show (windowB q).length ≤ 1300; omega
theorem ret_se {k : IntKind} {a b : List UInt8} {x y : Int} (h : a = b) (h' : x = y) : Ending.returned (.tuple #[.string ⟨a.toArray⟩, .int k x]) = .returned (.tuple #[.string ⟨b.toArray⟩, .int k y]) := by rw [h, h']
theorem textB_snoc {q : Qr} {l : List Int} {k : Nat} {x : Int} (h : l[k]? = some x) : textB q (l.take (k + 1)) = textB q (l.take k) ++ (lineB q x ++ [10]) := by
  obtain ⟨hk, rfl⟩ := List.getElem?_eq_some_iff.1 h
  unfold textB
  rw [List.take_succ_eq_append_getElem hk, List.flatMap_append]
  simp
theorem textB_len {q : Qr} (ok : QOk q) (hw : QWf q) : ∀ (l : List Int), (∀ x ∈ l, x ∈ stepsQ q) → (textB q l).length ≤ 1301 * l.length
  | [], _ => by simp [textB]
  | x :: l, h => by
    have h1 := lineB_len ok hw x (h x (by simp))
    have h2 := textB_len ok hw l (fun y hy => h y (by simp [hy]))
    unfold textB at h2 ⊢
    simp only [List.flatMap_cons, List.length_append, List.length_cons, List.length_nil] at h2 ⊢
    omega
theorem pE_zero {st : List Int} {q : Qr} (h : pE st q = 0) : qE q = 0 ∧ st = stepsQ q := by
  unfold pE at h
  split at h
  · split at h
    · exact ⟨by assumption, by assumption⟩
    · cases h
  · exact absurd h (by assumption)
set_option maxHeartbeats 4000000 in
set_option maxRecDepth 100000 in
theorem ptext_calls (S : Option Addr) (st : List Int) (c : Nat) (p : QAt) (q : Qr) (w : World) (hS : RdU w S st) (hr : RdQ w p q) (hT : Tab w) (hw : QWf q) :
    Calls Tryd.prog 7 #[planval S st.length c p q] w fun e w' => e = .returned (.tuple #[.string ⟨(ptB st q).toArray⟩, .int .i64 (pE st q)]) ∧ Below w.heap.size w w' := by
  have k1 := fun W (h : RdU W S st) (h' : RdQ W p q) => pcheck_calls S st c p q W h h'
  unfold planval at k1 ⊢
  replace k1 := Lib.hid k1
  have HB := below_alloc (Below.refl w.heap.size w) (.cells #[.slice S st.length c, .int .u8 q.ag, .slice p.a1 q.arg.length p.c1, .slice p.a2 q.src.length p.c2, .bool q.jn, .slice p.a4 q.wh.length p.c4, .int .u8 q.wk, .int .i64 q.ws, .int .i64 q.we, .bool q.bk, .int .u8 q.lt] 30)
  have HX := Bx.new w 30 #[.slice S st.length c, .int .u8 q.ag, .slice p.a1 q.arg.length p.c1, .slice p.a2 q.src.length p.c2, .bool q.jn, .slice p.a4 q.wh.length p.c4, .int .u8 q.wk, .int .i64 q.ws, .int .i64 q.we, .bool q.bk, .int .u8 q.lt]
  have hm := hS.1
  by_cases hp : pE st q = 0
  · obtain ⟨hq, hst⟩ := pE_zero hp
    have ok := qok_of (qE_cchk hq)
    have E : Hid (ptB st q = textB q st) := by unfold ptB; rw [if_pos hp]; rfl
    have hl11 : st.length ≤ 11 := by rw [hst]; exact stepsK_len q 11
    have hmem : Hid (∀ x ∈ st, x ∈ stepsQ q) := by rw [hst]; exact fun x hx => hx
    have hlk := fun (x : Int) (hx : x ∈ st) => lineB_len ok hw x (hmem.out x hx)
    have htk := fun k => textB_len ok hw (st.take k) (fun x hx => hmem.out x (List.mem_of_mem_take hx))
    have k2 := fun (x : Int) (hx : x ∈ st) W (h : RdQ W p q) (ht : Tab W) => pline_calls p q x W h ht ok hw (hmem.out x hx)
    unfold qval at k2
    replace k2 := Lib.hid k2
    replace hlk := Lib.hid hlk
    replace htk := Lib.hid htk
    have HP := Lib.hid hp
    clear hq hst ok hmem hp
    go_enter Tryd.func7, Tryd.ntmps7
    go_wp2_with (go_at_call 10; (with_reducible refine (k1.out _ (hS.below HB) (hr.below HB)).mono ?_); rw [HP.out]; rintro e w1 ⟨rfl, hb1⟩; have B1 := below_trans HB hb1; have X1 := HX.below hb1; have ⟨x0, x1, x2, x3, x4, x5, x6, x7, x8, x9, x10, _⟩ := X1.eleven; have hlt1 := X1.lt)
    have hlt := X1.lt
    have ⟨y0, _⟩ := (X1.alloc (.cells #[.pointer none, .slice none 0 0] TB)).eleven
    go_wp2_with fail
    clear x0 x1 x2 x3 x4 x5 x6 x7 x8 x9 x10 y0
    go_loopw [16] (fun i wr => ∃ k : Nat, k ≤ st.length ∧ i = .int .i64 k ∧ Bu w1.heap.size w1.heap.size (textB q (st.take k)) wr ∧ Below w1.heap.size w1 wr) (fun i _ => st.length - (intOf i).toNat)
    case atStart => exact ⟨0, Nat.zero_le _, rfl, bu_new w1, below_alloc (Below.refl _ _) _⟩
    case round =>
      obtain ⟨k, hk, rfl, hbu, BR⟩ := hrel
      by_cases hlt : k < st.length
      · obtain ⟨ad, rfl, hc⟩ := hS.2 (by omega)
        obtain ⟨x, hx⟩ : ∃ x, st[k]? = some x := ⟨st[k], by simp [hlt]⟩
        have hcx := cell_below (below_trans B1 BR) (hc k x hx)
        have hxm := List.mem_of_getElem? hx
        have XR := X1.below BR
        have ⟨x0, x1, x2, x3, x4, x5, x6, x7, x8, x9, x10, _⟩ := XR.eleven
        have hlx := hlk.out x hxm
        have hlt' := htk.out k
        have hln : ¬ 9223372036854775807 < (lineB q x).length + 1 := by omega
        have hsz := BR.size
        have hle := List.length_take_le k st
        have hlen : (textB q (st.take k)).length + (lineB q x ++ [10]).length ≤ 140737488355328 := by simp only [List.length_append, List.length_cons, List.length_nil]; omega
        have Et : Hid (textB q (st.take (k + 1)) = textB q (st.take k) ++ (lineB q x ++ [10])) := textB_snoc hx
        have hs : Hid ((⟨(lineB q x).toArray⟩ : ByteArray) ++ ⟨#[10]⟩ = ⟨(lineB q x ++ [10]).toArray⟩) := by rw [show (⟨#[10]⟩ : ByteArray) = ⟨([10] : List UInt8).toArray⟩ from rfl, str_app]; rfl
        replace hxm := Lib.hid hxm
        replace hbu := Lib.hid hbu
        replace hlen := Lib.hid hlen
        clear hx hc hlx hlt' hle
        go_wp2_with (first
          | (go_at_call 21; (with_reducible refine (k2.out x hxm.out _ (hr.below (below_trans B1 BR)) (hT.below (below_trans B1 BR))).mono ?_); rintro e w2 ⟨rfl, hb2⟩; have hs2 := hb2.size; have bu2 := hbu.out.below hb2)
          | (go_at_call 20; rw [hs.out]; (with_reducible refine (wstring_calls w1.heap.size w1.heap.size _ _ _ bu2 hlen.out (by omega)).mono ?_); rintro e w3 ⟨rfl, h3⟩))
        go_roundw
        case rel => exact ⟨k + 1, hlt, by go_num, by rw [Et.out]; exact h3.1, (BR.trans (Below.mono hb2 hsz)).trans h3.2.1⟩
        case measure => simp [intOf]; omega
      · obtain rfl : k = st.length := by omega
        rw [List.take_length] at hbu
        have hsz := BR.size
        go_wp2_with (go_at_call 22; refine (string_calls w1.heap.size w1.heap.size _ _ hbu hsz).mono ?_; rintro e w3 ⟨rfl, -, hb3, -⟩)
        go_ret2
        exact ⟨ret_se E.out.symm HP.out.symm, below_trans B1 (BR.trans hb3)⟩
  · have hne : (pE st q != 0) = true := bne_iff_ne.2 hp
    have E : Hid (ptB st q = []) := by unfold ptB; rw [if_neg hp]; rfl
    clear hp
    go_enter Tryd.func7, Tryd.ntmps7
    go_wp2_with (go_at_call 10; (with_reducible refine (k1.out _ (hS.below HB) (hr.below HB)).mono ?_); rintro e w1 ⟨rfl, hb1⟩)
    go_ret2
    exact ⟨ret_se (a := []) E.out.symm rfl, below_trans HB hb1⟩
set_option maxHeartbeats 4000000 in
set_option maxRecDepth 100000 in
theorem ptext22_calls (S : Option Addr) (st : List Int) (c : Nat) (p : QAt) (q : Qr) (w : World) (hS : RdU w S st) (hr : RdQ w p q) (hu : ∀ x ∈ st, U8 x) (hw : QWf q) :
    Calls Tryd.prog 8 #[planval S st.length c p q] w fun e w' => e = .returned (.tuple #[.string ⟨(ptB st q).toArray⟩, .int .i64 (pE st q)]) ∧ Below w.heap.size w w' := by
  have k1 := fun W (h : RdU W S st) (h' : RdQ W p q) => pcheck22_calls S st c p q W h h' hu hw.ws.2
  unfold planval at k1 ⊢
  replace k1 := Lib.hid k1
  have HB := below_alloc (Below.refl w.heap.size w) (.cells #[.slice S st.length c, .int .u8 q.ag, .slice p.a1 q.arg.length p.c1, .slice p.a2 q.src.length p.c2, .bool q.jn, .slice p.a4 q.wh.length p.c4, .int .u8 q.wk, .int .i64 q.ws, .int .i64 q.we, .bool q.bk, .int .u8 q.lt] 30)
  have HX := Bx.new w 30 #[.slice S st.length c, .int .u8 q.ag, .slice p.a1 q.arg.length p.c1, .slice p.a2 q.src.length p.c2, .bool q.jn, .slice p.a4 q.wh.length p.c4, .int .u8 q.wk, .int .i64 q.ws, .int .i64 q.we, .bool q.bk, .int .u8 q.lt]
  have hm := hS.1
  by_cases hp : pE st q = 0
  · obtain ⟨hq, hst⟩ := pE_zero hp
    have ok := qok_of (qE_cchk hq)
    have E : Hid (ptB st q = textB q st) := by unfold ptB; rw [if_pos hp]; rfl
    have hl11 : st.length ≤ 11 := by rw [hst]; exact stepsK_len q 11
    have hmem : Hid (∀ x ∈ st, x ∈ stepsQ q) := by rw [hst]; exact fun x hx => hx
    have hlk := fun (x : Int) (hx : x ∈ st) => lineB_len ok hw x (hmem.out x hx)
    have htk := fun k => textB_len ok hw (st.take k) (fun x hx => hmem.out x (List.mem_of_mem_take hx))
    have k2 := fun (x : Int) (hx : x ∈ st) W (h : RdQ W p q) => rline_calls p q x W h ok hw (hmem.out x hx)
    unfold qval LineP at k2
    replace k2 := Lib.hid k2
    replace hlk := Lib.hid hlk
    replace htk := Lib.hid htk
    have HP := Lib.hid hp
    clear hq hst ok hmem hp
    go_enter Tryd.func8, Tryd.ntmps8
    go_wp2_with (go_at_call 11; (with_reducible refine (k1.out _ (hS.below HB) (hr.below HB)).mono ?_); rw [HP.out]; rintro e w1 ⟨rfl, hb1⟩; have B1 := below_trans HB hb1; have X1 := HX.below hb1; have ⟨x0, x1, x2, x3, x4, x5, x6, x7, x8, x9, x10, _⟩ := X1.eleven; have hlt1 := X1.lt)
    clear x0 x1 x2 x3 x4 x5 x6 x7 x8 x9 x10
    go_loopw [5, 6] (fun o i wr => ∃ k : Nat, k ≤ st.length ∧ i = .int .i64 k ∧ o = .string ⟨(textB q (st.take k)).toArray⟩ ∧ Below w.heap.size w wr ∧ Bx wr w.heap.size 30 #[.slice S st.length c, .int .u8 q.ag, .slice p.a1 q.arg.length p.c1, .slice p.a2 q.src.length p.c2, .bool q.jn, .slice p.a4 q.wh.length p.c4, .int .u8 q.wk, .int .i64 q.ws, .int .i64 q.we, .bool q.bk, .int .u8 q.lt]) (fun _ i _ => st.length - (intOf i).toNat)
    case atStart => exact ⟨0, Nat.zero_le _, rfl, rfl, B1, X1⟩
    case round =>
      obtain ⟨k, hk, rfl, rfl, BR, XR⟩ := hrel
      have ⟨x0, x1, x2, x3, x4, x5, x6, x7, x8, x9, x10, _⟩ := XR.eleven
      by_cases hlt : k < st.length
      · obtain ⟨ad, rfl, hc⟩ := hS.2 (by omega)
        obtain ⟨x, hx⟩ : ∃ x, st[k]? = some x := ⟨st[k], by simp [hlt]⟩
        have hcx := cell_below BR (hc k x hx)
        have hxm := List.mem_of_getElem? hx
        have hlx := hlk.out x hxm
        have hlt' := htk.out k
        have hle := List.length_take_le k st
        have hln : ¬ 9223372036854775807 < (lineB q x).length + 1 := by omega
        have hln2 : ¬ 9223372036854775807 < (textB q (st.take k)).length + ((lineB q x).length + 1) := by omega
        have hs : Hid ((⟨(textB q (st.take (k + 1))).toArray⟩ : ByteArray) = ⟨(textB q (st.take k)).toArray⟩ ++ (⟨(lineB q x).toArray⟩ ++ ⟨#[10]⟩)) := by rw [show (⟨#[10]⟩ : ByteArray) = ⟨([10] : List UInt8).toArray⟩ from rfl, str_app, str_app, textB_snoc hx]; rfl
        replace hxm := Lib.hid hxm
        clear hx hc hlx hlt' hle
        go_upto_region 8 with fail
        have Bd := below_drew BR
        have Xd := XR.drew
        have cx := cell_below (below_drew (Below.refl wr.heap.size wr)) hcx
        have ⟨z0, z1, z2, z3, z4, z5, z6, z7, z8, z9, z10, _⟩ := Xd.eleven
        refine wp_region_noPanic ?_
        refine wp_region_held_drew (S := fun W => W.cell? (ad.add k) = some (.int .u8 x) ∧ (W.cell? ⟨w.heap.size, 0, none⟩ = some (.slice (some ad) st.length c) ∧ W.cell? ⟨w.heap.size, 1, none⟩ = some (.int .u8 q.ag) ∧ W.cell? ⟨w.heap.size, 2, none⟩ = some (.slice p.a1 q.arg.length p.c1) ∧ W.cell? ⟨w.heap.size, 3, none⟩ = some (.slice p.a2 q.src.length p.c2) ∧ W.cell? ⟨w.heap.size, 4, none⟩ = some (.bool q.jn) ∧ W.cell? ⟨w.heap.size, 5, none⟩ = some (.slice p.a4 q.wh.length p.c4) ∧ W.cell? ⟨w.heap.size, 6, none⟩ = some (.int .u8 q.wk) ∧ W.cell? ⟨w.heap.size, 7, none⟩ = some (.int .i64 q.ws) ∧ W.cell? ⟨w.heap.size, 8, none⟩ = some (.int .i64 q.we) ∧ W.cell? ⟨w.heap.size, 9, none⟩ = some (.bool q.bk) ∧ W.cell? ⟨w.heap.size, 10, none⟩ = some (.int .u8 q.lt))) (by kernel_rfl) (And.intro cx (And.intro z0 (And.intro z1 (And.intro z2 (And.intro z3 (And.intro z4 (And.intro z5 (And.intro z6 (And.intro z7 (And.intro z8 (And.intro z9 z10))))))))))) (fun hHeld => ?_)
        (refine wpAnyH_take (i := 0) (oi := _) (v := ?_) rfl (by kernel_rfl) (by kernel_rfl) (by kernel_rfl) (fun _ _ _ h => h) (Or.inl ⟨by rfl, ?_⟩) (by assumption) ?_); rotate_left; (intro W hS; (try dsimp only at hS); go_simp; try with_reducible rfl); (try simp only [Act.put, List.setIfInBounds_toArray, List.set_cons_zero, List.set_cons_succ, List.getElem_toArray, List.getElem_cons_zero, List.getElem_cons_succ])
        (refine wpAnyH_take (i := 1) (oi := _) (v := ?_) rfl (by kernel_rfl) (by kernel_rfl) (by kernel_rfl) (fun _ _ _ h => h) (Or.inl ⟨by rfl, ?_⟩) (by assumption) ?_); rotate_left; (intro W hS; (try dsimp only at hS); go_simp; try with_reducible rfl); (try simp only [Act.put, List.setIfInBounds_toArray, List.set_cons_zero, List.set_cons_succ, List.getElem_toArray, List.getElem_cons_zero, List.getElem_cons_succ])
        (refine wpAnyH_take (i := 2) (oi := _) (v := ?_) rfl (by kernel_rfl) (by kernel_rfl) (by kernel_rfl) (fun _ _ _ h => h) (Or.inl ⟨by rfl, ?_⟩) (by assumption) ?_); rotate_left; (intro W hS; (try dsimp only at hS); go_simp; try with_reducible rfl); (try simp only [Act.put, List.setIfInBounds_toArray, List.set_cons_zero, List.set_cons_succ, List.getElem_toArray, List.getElem_cons_zero, List.getElem_cons_succ])
        (refine wpAnyH_take (i := 3) (oi := _) (v := ?_) rfl (by kernel_rfl) (by kernel_rfl) (by kernel_rfl) (fun _ _ _ h => h) (Or.inl ⟨by rfl, ?_⟩) (by assumption) ?_); rotate_left; (intro W hS; (try dsimp only at hS); go_simp; try with_reducible rfl); (try simp only [Act.put, List.setIfInBounds_toArray, List.set_cons_zero, List.set_cons_succ, List.getElem_toArray, List.getElem_cons_zero, List.getElem_cons_succ])
        (refine wpAnyH_take (i := 4) (oi := _) (v := ?_) rfl (by kernel_rfl) (by kernel_rfl) (by kernel_rfl) (fun _ _ _ h => h) (Or.inl ⟨by rfl, ?_⟩) (by assumption) ?_); rotate_left; (intro W hS; (try dsimp only at hS); go_simp; try with_reducible rfl); (try simp only [Act.put, List.setIfInBounds_toArray, List.set_cons_zero, List.set_cons_succ, List.getElem_toArray, List.getElem_cons_zero, List.getElem_cons_succ])
        (refine wpAnyH_take (i := 5) (oi := _) (v := ?_) rfl (by kernel_rfl) (by kernel_rfl) (by kernel_rfl) (fun _ _ _ h => h) (Or.inl ⟨by rfl, ?_⟩) (by assumption) ?_); rotate_left; (intro W hS; (try dsimp only at hS); go_simp; try with_reducible rfl); (try simp only [Act.put, List.setIfInBounds_toArray, List.set_cons_zero, List.set_cons_succ, List.getElem_toArray, List.getElem_cons_zero, List.getElem_cons_succ])
        (refine wpAnyH_take (i := 6) (oi := _) (v := ?_) rfl (by kernel_rfl) (by kernel_rfl) (by kernel_rfl) (fun _ _ _ h => h) (Or.inl ⟨by rfl, ?_⟩) (by assumption) ?_); rotate_left; (intro W hS; (try dsimp only at hS); go_simp; try with_reducible rfl); (try simp only [Act.put, List.setIfInBounds_toArray, List.set_cons_zero, List.set_cons_succ, List.getElem_toArray, List.getElem_cons_zero, List.getElem_cons_succ])
        (refine wpAnyH_take (i := 7) (oi := _) (v := ?_) rfl (by kernel_rfl) (by kernel_rfl) (by kernel_rfl) (fun _ _ _ h => h) (Or.inl ⟨by rfl, ?_⟩) (by assumption) ?_); rotate_left; (intro W hS; (try dsimp only at hS); go_simp; try with_reducible rfl); (try simp only [Act.put, List.setIfInBounds_toArray, List.set_cons_zero, List.set_cons_succ, List.getElem_toArray, List.getElem_cons_zero, List.getElem_cons_succ])
        (refine wpAnyH_ready (rs := [8]) (by kernel_rfl) (by simp) ?_); (refine AllReadyH.cons (o := _) rfl (fun K hK => ?_) AllReadyH.nil); go_simp
        (with_reducible refine (k2.out x hxm.out _ (hr.below Bd)).mono ?_); rintro e w2 ⟨rfl, hb2⟩; have B2 := below_trans Bd hb2; have X2 := Xd.below hb2; have c2 := cell_below hb2 cx; have ⟨v0, v1, v2, v3, v4, v5, v6, v7, v8, v9, v10, _⟩ := X2.eleven
        go_wp2_with fail
        refine hK.out _ _ (And.intro c2 (And.intro v0 (And.intro v1 (And.intro v2 (And.intro v3 (And.intro v4 (And.intro v5 (And.intro v6 (And.intro v7 (And.intro v8 (And.intro v9 v10))))))))))) (fun hHeld => ?_)
        clear hK K; (try simp only [Act.put, List.setIfInBounds_toArray, List.set_cons_zero, List.set_cons_succ, List.getElem_toArray, List.getElem_cons_zero, List.getElem_cons_succ])
        (refine wpAnyH_take (i := 9) (oi := _) (v := ?_) rfl (by kernel_rfl) (by kernel_rfl) (by kernel_rfl) (fun _ _ _ h => h) (Or.inl ⟨by rfl, ?_⟩) (by assumption) ?_); rotate_left; (intro W hS; (try dsimp only at hS); go_simp; try with_reducible rfl); (try simp only [Act.put, List.setIfInBounds_toArray, List.set_cons_zero, List.set_cons_succ, List.getElem_toArray, List.getElem_cons_zero, List.getElem_cons_succ])
        (refine wpAnyH_take (i := 10) (oi := _) (v := ?_) rfl (by kernel_rfl) (by kernel_rfl) (by kernel_rfl) (fun _ _ _ h => h) (Or.inl ⟨by rfl, ?_⟩) (by assumption) ?_); rotate_left; (intro W hS; (try dsimp only at hS); go_simp; try with_reducible rfl); (try simp only [Act.put, List.setIfInBounds_toArray, List.set_cons_zero, List.set_cons_succ, List.getElem_toArray, List.getElem_cons_zero, List.getElem_cons_succ])
        (refine wpAnyH_take (i := 11) (oi := _) (v := ?_) rfl (by kernel_rfl) (by kernel_rfl) (by kernel_rfl) (fun _ _ _ h => h) (Or.inl ⟨by rfl, ?_⟩) (by assumption) ?_); rotate_left; (intro W hS; (try dsimp only at hS); go_simp; try with_reducible rfl); (try simp only [Act.put, List.setIfInBounds_toArray, List.set_cons_zero, List.set_cons_succ, List.getElem_toArray, List.getElem_cons_zero, List.getElem_cons_succ])
        refine wpAnyH_done (by kernel_rfl) ?_ _
        refine NoPanic.normal ?_
        clear hHeld
        go_wp2_with fail
        go_roundw
        case rel => exact ⟨k + 1, hlt, by go_num, by rw [hs.out], B2, X2⟩
        case measure => simp [intOf]; omega
      · obtain rfl : k = st.length := by omega
        rw [List.take_length]
        go_wp2_with fail
        go_ret2
        exact ⟨ret_se E.out.symm HP.out.symm, BR⟩
  · have hne : (pE st q != 0) = true := bne_iff_ne.2 hp
    have E : Hid (ptB st q = []) := by unfold ptB; rw [if_neg hp]; rfl
    clear hp
    go_enter Tryd.func8, Tryd.ntmps8
    go_wp2_with (go_at_call 11; (with_reducible refine (k1.out _ (hS.below HB) (hr.below HB)).mono ?_); rintro e w1 ⟨rfl, hb1⟩)
    go_ret2
    exact ⟨ret_se (a := []) E.out.symm rfl, below_trans HB hb1⟩
end Go.Proofs.YthijjpbkpmojbaaDoor
