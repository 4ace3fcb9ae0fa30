import Derived.Test.YthijjpbkpmojbaaDoorExpr
/-! A region that draws its order, by hand: its condition may grow on the way; loads before late stores. -/
namespace Go.Proofs.YthijjpbkpmojbaaDoor
open Go.RowKit Tw
set_option linter.unusedVariables false
set_option linter.unusedSimpArgs false
section
variable {P : Program} {ops : Array Oper} {Q : Exit → Act → World → Prop} {md : Region.Mode} {S S' : World → Prop}
/-- A region walked under a narrower condition. -/
theorem wpAnyH_weaken (h : ∀ W, S' W → S W) : ∀ (fuel : Nat) (listed : Array Bool) (a : Act) (w : World), wpAnyH P md ops Q S' fuel listed a w → wpAnyH P md ops Q S fuel listed a w
  | 0, _, _, _, k => k
  | n + 1, _, _, _, k => ⟨k.1, fun i hi => wpOp_mono (fun a' w' k' => ⟨h w' k'.1, wpAnyH_weaken h n _ a' w' k'.2⟩) (k.2 i hi)⟩
/-- The same walk where the condition is asked only till a late operation (a store) has come up. -/
def wpAnyU (P : Program) (md : Region.Mode) (ops : Array Oper) (Q : Exit → Act → World → Prop) (late : Nat) (S : World → Prop) : Nat → Array Bool → Act → World → Prop
  | 0, listed, a, w => Region.ready md ops listed = [] ∧ Q .normal a w
  | fuel + 1, listed, a, w =>
    (Region.ready md ops listed = [] → Q .normal a w) ∧
    ∀ i ∈ Region.ready md ops listed, wpOp P ops Q i (fun a' w' => ((listed.setIfInBounds i true).getD late true = false → S w') ∧ wpAnyU P md ops Q late S fuel (listed.setIfInBounds i true) a' w') a w
theorem wpAny_of_U {late : Nat} : ∀ (fuel : Nat) (listed : Array Bool) (a : Act) (w : World), wpAnyU P md ops Q late S fuel listed a w → wpAny P md ops Q fuel listed a w
  | 0, _, _, _, h => h
  | fuel + 1, _, _, _, h => ⟨h.1, fun i hi => wpOp_mono (fun a' w' h' => wpAny_of_U fuel _ a' w' h'.2) (h.2 i hi)⟩
theorem wpAnyU_first {late i : Nat} {oi : Oper} {v : Value} (hi : ops[i]? = some oi) (hsel : ∀ (j : Nat) (o : Oper) cs b, ops[j]? = some o → o.op ≠ .select cs b)
    (hQ : ∀ c a w, Q (.panic c) (a.put oi.dst v) w → Q (.panic c) a w) (hil : i ≠ late) {ol : Oper} (hol : ops[late]? = some ol) (hwait : ∃ e ∈ ol.after, Region.binds md e = true ∧ e.on = i) :
    ∀ (fuel : Nat) (listed : Array Bool) (a : Act) (w : World),
      (∀ j oj, ops[j]? = some oj → j ≠ i → listed.getD j true = false → (∀ e ∈ oj.after, Region.binds md e = true → e.on ≠ i) → oi.apart ops oj = true) →
      i ∈ Region.ready md ops listed → YieldsIf P ops S oi v a → S w → listed.getD late true = false →
      wpAnyU P md ops Q late S fuel (listed.setIfInBounds i true) (a.put oi.dst v) w → wpAnyU P md ops Q late S (fuel + 1) listed a w := by
  intro fuel
  induction fuel with
  | zero =>
    intro listed a w _ hr hy hS hl H
    refine ⟨fun h => (by rw [h] at hr; cases hr), fun j hj => ?_⟩
    by_cases hji : j = i
    · subst hji; exact hy.wpOp hi hS ⟨fun _ => hS, H⟩
    · have := ready_mono hj hji
      rw [H.1] at this
      cases this
  | succ fuel ih =>
    intro listed a w hfree hr hy hS hl H
    refine ⟨fun h => (by rw [h] at hr; cases hr), fun j hj => ?_⟩
    by_cases hji : j = i
    · subst hji; exact hy.wpOp hi hS ⟨fun _ => hS, H⟩
    · have h1 := H.2 j (ready_mono hj hji)
      obtain ⟨hjun, oj, hoj, hall⟩ := mem_ready.1 hj
      have hnot : ∀ e ∈ oj.after, Region.binds md e = true → e.on ≠ i := fun e he hb heq => by
        have h1 := hall e he hb
        have h0 := (mem_ready.1 hr).1
        rw [heq] at h1
        rcases Nat.lt_or_ge i listed.size with h' | h'
        · simp [h'] at h0 h1; rw [h0] at h1; cases h1
        · simp [Array.getElem?_eq_none h'] at h1
      have hjl : j ≠ late := fun he => by
        subst he
        rw [hoj] at hol
        injection hol with hol
        subst hol
        obtain ⟨e, he, hb, hon⟩ := hwait
        exact hnot e he hb hon
      have h2 := wpOp_putIf hoj (hfree j oj hoj hji hjun hnot) (fun cs b => hsel i oi cs b hi) (fun cs b => hsel j oj cs b hoj) hQ hy h1
      have hfree' : ∀ k ok, ops[k]? = some ok → k ≠ i → (listed.setIfInBounds j true).getD k true = false →
          (∀ e ∈ ok.after, Region.binds md e = true → e.on ≠ i) → oi.apart ops ok = true := fun k ok hk hki hun hno => by
        refine hfree k ok hk hki ?_ hno
        by_cases hjk : j = k
        · subst hjk; exact hjun
        · rw [getD_set_ne true hjk] at hun; exact hun
      have hlj : (listed.setIfInBounds j true).getD late true = false := by rw [getD_set_ne true hjl]; exact hl
      refine wpOp_mono (fun a' w' h3 => ?_) h2
      have hS' := h3.2.1 (by rw [getD_set_ne true hjl, getD_set_ne true hil]; exact hl)
      refine ⟨fun _ => hS', ih (listed.setIfInBounds j true) a' w' hfree' (ready_mono hr (Ne.symm hji)) h3.1 hS' hlj ?_⟩
      rw [Array.setIfInBounds_comm _ _ hji]
      exact h3.2.2
/-- Take number 'i' first: a load whose cell nobody writes before the late operation. -/
theorem wpAnyU_take {late i : Nat} {oi : Oper} {v : Value} {fuel : Nat} {listed : Array Bool} {a : Act} {w : World} (hi : ops[i]? = some oi)
    (hs : Region.noSelect ops = true) (hf : Region.free md ops listed i = true) (hr : (Region.ready md ops listed).contains i = true)
    (hQ : ∀ c a w, Q (.panic c) (a.put oi.dst v) w → Q (.panic c) a w) (hw : (i != late && ((ops[late]?).map fun o => o.after.any fun e => Region.binds md e && e.on == i) == some true) = true) (hy : YieldsIf P ops S oi v a) (hS : S w) (hl : listed.getD late true = false)
    (h : wpAnyU P md ops Q late S fuel (listed.setIfInBounds i true) (a.put oi.dst v) w) : wpAnyU P md ops Q late S (fuel + 1) listed a w := by
  simp only [Bool.and_eq_true, bne_iff_ne, ne_eq, beq_iff_eq] at hw
  obtain ⟨hil, hw⟩ := hw
  obtain ⟨ol, hol, hw⟩ := Option.map_eq_some_iff.1 hw
  obtain ⟨k, hk, hw⟩ := Array.any_eq_true.1 hw
  simp only [Bool.and_eq_true, beq_iff_eq] at hw
  exact wpAnyU_first hi (Region.noSelect_spec hs) hQ hil hol ⟨_, Array.getElem_mem hk, hw.1, hw.2⟩ fuel listed a w (Region.free_spec hi hf) (by simpa using hr) hy hS hl h
/-- One alone may come up. -/
theorem wpAnyU_one {late i : Nat} {o : Oper} {fuel : Nat} {listed : Array Bool} {a : Act} {w : World} (hr : Region.ready md ops listed = [i]) (ho : ops[i]? = some o)
    (h : ∀ K' : Act → World → Prop, Shut (∀ a w, ((listed.setIfInBounds i true).getD late true = false → S w) → wpAnyU P md ops Q late S fuel (listed.setIfInBounds i true) a w → K' a w) → if Region.wanted o (yielded ops a.tmps) = true then Oper.wp P o a w K' Q else K' (a.put o.dst undef) w) :
    wpAnyU P md ops Q late S (fuel + 1) listed a w := by
  refine ⟨fun h0 => (by rw [h0] at hr; cases hr), fun j hj => ?_⟩
  rw [hr] at hj
  obtain rfl : j = i := by simpa using hj
  exact wpOp_step ho (fun K' hK => h K' (fun a w hS hW => hK a w ⟨hS, hW⟩))
theorem wpAnyU_done {late : Nat} {listed : Array Bool} {a : Act} {w : World} (hr : Region.ready md ops listed = []) (h : Q .normal a w) :
    ∀ fuel, wpAnyU P md ops Q late S fuel listed a w
  | 0 => ⟨hr, h⟩
  | _ + 1 => ⟨fun _ => h, by rw [hr]; simp⟩
theorem wp_region_U (late : Nat) (S : World → Prop) {id : Nat} {a : Act} {w : World} (hm : P.follows .mixedOrders = true)
    (h : wpAnyU P .any ops Q late S ops.size (Array.replicate ops.size false) a w.drew) : (Code.region id ops true).wp P Q a w :=
  wp_region_any hm (wpAny_of_U _ _ _ _ h)
end
/-! A struct stored whole, cell by cell. -/
def storeAll (b : Nat) : Nat → List Value → World → World
  | _, [], w => w
  | i, v :: vs, w => storeAll b (i + 1) vs (w.setCell ⟨b, i, none⟩ v)
theorem storeAll_other (b : Nat) : ∀ (vs : List Value) (i : Nat) (w : World) (k : Nat), k ≠ b → (storeAll b i vs w).heap[k]? = w.heap[k]?
  | [], _, _, _, _ => rfl
  | v :: vs, i, w, k, h => (storeAll_other b vs (i + 1) _ k h).trans (Below.heap_setCell _ _ _ _ h)
theorem storeAll_below {B b : Nat} (hb : B ≤ b) : ∀ (vs : List Value) (i : Nat) (w w0 : World), Below B w0 w → Below B w0 (storeAll b i vs w)
  | [], _, _, _, h => h
  | v :: vs, i, w, w0, h => storeAll_below hb vs (i + 1) _ _ (h.setCell (p := ⟨b, i, none⟩) hb v)
theorem storeAll_size (b : Nat) : ∀ (vs : List Value) (i : Nat) (w : World), (storeAll b i vs w).heap.size = w.heap.size
  | [], _, _ => rfl
  | v :: vs, i, w => (storeAll_size b vs (i + 1) _).trans (by simp [World.setCell])
theorem storeAll_bx_aux (b : Nat) (t : TypeId) : ∀ (vs pre post : List Value) (w : World), Bx w b t (pre ++ post).toArray → vs.length = post.length → Bx (storeAll b pre.length vs w) b t (pre ++ vs).toArray
  | [], pre, post, w, h, hl => by
    have : post = [] := List.length_eq_zero_iff.1 hl.symm
    subst this; exact h
  | v :: vs, pre, post, w, h, hl => by
    cases post with
    | nil => simp at hl
    | cons u us =>
      have h1 := h.set pre.length v
      have e : (pre ++ u :: us).toArray.setIfInBounds pre.length v = ((pre ++ [v]) ++ us).toArray := by
        apply Array.ext'
        simp [Array.toList_setIfInBounds]
      rw [e] at h1
      have := storeAll_bx_aux b t vs (pre ++ [v]) us _ h1 (by simpa using hl)
      simpa [storeAll] using this
theorem storeAll_bx {w : World} {b : Nat} {t : TypeId} {cs : Array Value} (h : Bx w b t cs) (vs : List Value) (hl : vs.length = cs.size) : Bx (storeAll b 0 vs w) b t vs.toArray := by
  have := storeAll_bx_aux b t vs [] cs.toList w (by simpa using h) (by simpa using hl)
  simpa using this
theorem storeAll_box {w : World} {b c : Nat} {t : TypeId} {cs : Array Value} (h : Bx w c t cs) (hne : c ≠ b) (i : Nat) (vs : List Value) : Bx (storeAll b i vs w) c t cs := (storeAll_other b vs i w c hne).trans h
theorem storeAll_own {w : World} {B b n size : Nat} {e : TypeId} {v : Value} {xs : List Value} (h : w.ownsRow B e size v n xs) (hne : v.ownBlock ≠ some b) : ∀ (vs : List Value) (i : Nat), (storeAll b i vs w).ownsRow B e size v n xs := by
  intro vs
  induction vs generalizing w with
  | nil => exact fun _ => h
  | cons u us ih => exact fun i => ih (ownsRow_setCell_other (a := ⟨b, i, none⟩) h hne u) (i + 1)
end Go.Proofs.YthijjpbkpmojbaaDoor
