import Derived.Test.YthijjpbkpmojbaaDoorRefG
import Derived.Laws.AppendOwnNone
/-! Rows of nodes, and of whole numbers: what they read, and append of many elements. -/
namespace Go.Proofs.YthijjpbkpmojbaaDoor
open Go.RowKit Tw
set_option linter.unusedVariables false
set_option linter.unusedSimpArgs false
def ndc (x : Nd) : List Value := [.int .u8 x.f0, .int .i64 x.f1, .int .i64 x.f2, .int .i64 x.f3, .int .i64 x.f4]
def ndcells : List Nd → List Value
  | [] => []
  | x :: l => ndc x ++ ndcells l
def ivals (l : List Int) : List Value := l.map fun n : Int => Value.int .i64 n
theorem ndcells_length (l : List Nd) : (ndcells l).length = l.length * 5 := by
  induction l with
  | nil => rfl
  | cons x l ih => simp [ndcells, ndc, ih]; omega
theorem ndcells_append (a b : List Nd) : ndcells (a ++ b) = ndcells a ++ ndcells b := by
  induction a with
  | nil => rfl
  | cons x a ih => simp [ndcells, ih]
theorem ndcells_at {l : List Nd} : ∀ {k : Nat} {x : Nd}, l[k]? = some x → ∀ i, i < 5 → (ndcells l)[k * 5 + i]? = (ndc x)[i]? := by
  induction l with
  | nil => intro k x h; simp at h
  | cons y l ih =>
    intro k x h i hi
    cases k with
    | zero =>
      simp only [List.getElem?_cons_zero, Option.some.injEq] at h
      subst h
      simp only [ndcells, Nat.zero_mul, Nat.zero_add]
      rw [List.getElem?_append_left (by simp [ndc]; omega)]
    | succ k =>
      have := ih (k := k) (x := x) (by simpa using h) i hi
      simp only [ndcells]
      rw [List.getElem?_append_right (by simp [ndc]; omega), show (k + 1) * 5 + i - (ndc y).length = k * 5 + i by simp [ndc]; omega]
      exact this
theorem ndcells_one {l : List Nd} : ∀ u ∈ ndcells l, u.oneCell' = true := by
  induction l with
  | nil => intro u h; cases h
  | cons x l ih =>
    intro u h
    simp only [ndcells, List.mem_append] at h
    rcases h with h | h
    · simp only [ndc, List.mem_cons, List.not_mem_nil, or_false] at h
      rcases h with rfl | rfl | rfl | rfl | rfl <;> rfl
    · exact ih u h
theorem ivals_one {l : List Int} : ∀ u ∈ ivals l, u.oneCell' = true := by
  intro u h
  simp only [ivals, List.mem_map] at h
  obtain ⟨n, _, rfl⟩ := h
  rfl
theorem add_more {W : World} {ad : Addr} {v : Value} {k : Nat} (h : W.cell? (ad.add k) = some v) (i : Nat) : (⟨(ad.add k).block, (ad.add k).off + i, none⟩ : Addr) = ad.add (k + i) := by
  obtain ⟨b, o, s⟩ := ad
  unfold Addr.add at *
  by_cases hk : k = 0
  · subst hk
    have hs : s = none := by
      simp only [if_true] at h
      unfold World.cell? at h
      split at h
      · split at h
        · cases h
        · rename_i hs; simpa using hs
      · cases h
    subst hs
    by_cases hi : i = 0
    · subst hi; simp
    · simp [hi]
  · rw [if_neg hk, if_neg (by omega)]
    simp [Nat.add_assoc]
/-- The cells of a list of nodes, one by one. -/
theorem news_nodes {W : World} {ad : Addr} {l : List Nd} (h : RdN W (some ad) l) : ∀ j u, (ndcells l)[j]? = some u → W.cell? (ad.add j) = some u := by
  intro j u hj
  have hlt := (List.getElem?_eq_some_iff.1 hj).1
  rw [ndcells_length] at hlt
  obtain ⟨x, hx⟩ : ∃ x, l[j / 5]? = some x := ⟨l[j / 5]'(by omega), by simp⟩
  obtain ⟨ad', e, hc⟩ := h.at hx
  injection e with e; subst e
  obtain ⟨h0, h1, h2, h3, h4⟩ := hc
  have hi := ndcells_at hx (j % 5) (by omega)
  rw [show j / 5 * 5 + j % 5 = j by omega, hj] at hi
  have hadd := add_more h0 (j % 5)
  rw [show j / 5 * 5 + j % 5 = j by omega] at hadd
  rw [← hadd]
  have h5 : j % 5 = 0 ∨ j % 5 = 1 ∨ j % 5 = 2 ∨ j % 5 = 3 ∨ j % 5 = 4 := by omega
  rcases h5 with e | e | e | e | e
  · rw [e] at hi ⊢
    injection hi with hi; rw [hi]
    have := add_more h0 0
    rw [this]; exact h0
  all_goals
    rw [e] at hi ⊢
    injection hi with hi; rw [hi]
    assumption
theorem news_ints {W : World} {ad : Addr} {l : List Int} (h : RdI W (some ad) l) : ∀ j u, (ivals l)[j]? = some u → W.cell? (ad.add j) = some u := by
  intro j u hj
  unfold ivals at hj
  rw [List.getElem?_map] at hj
  obtain ⟨x, hx, rfl⟩ := Option.map_eq_some_iff.1 hj
  obtain ⟨ad', e, hc⟩ := h.2 (by have := (List.getElem?_eq_some_iff.1 hx).1; omega)
  injection e with e; subst e
  exact hc j x hx
/-- A row of the call's own, read. -/
theorem rdn_own {w W : World} {B n c : Nat} {A : Option Addr} {l : List Nd} (h : w.ownsRow B 50 5 (.slice A n c) n (ndcells l)) (hb : Below w.heap.size w W) : RdN W A l := by
  have hl : l.length = n := by have := h.1; rw [ndcells_length] at this; omega
  refine ⟨by obtain ⟨_, c', he, h1, h2⟩ := own_slice h; injection he with _ _ hc; omega, fun hp => ?_⟩
  rcases h.2 with ⟨_, h0⟩ | ⟨g, cap, cur, he, _⟩
  · omega
  · have hc := h.cells (g := g) (by rw [he]; rfl)
    injection he with he
    refine ⟨_, he, fun j x hj => ?_⟩
    have key : ∀ i, i < 5 → ∀ v, (ndc x)[i]? = some v → W.cell? ⟨g, j * 5 + i, none⟩ = some v := by
      intro i hi v hv
      have := hc (j * 5 + i) v (by rw [ndcells_at hj i hi]; exact hv)
      rw [add_plain] at this
      exact cell_below hb this
    rw [add_plain]
    exact ⟨key 0 (by omega) _ rfl, key 1 (by omega) _ rfl, key 2 (by omega) _ rfl, key 3 (by omega) _ rfl, key 4 (by omega) _ rfl⟩
theorem rdi_own {w W : World} {B n c : Nat} {A : Option Addr} {l : List Int} (h : w.ownsRow B 3 1 (.slice A n c) n (ivals l)) (hb : Below w.heap.size w W) : RdI W A l := by
  have hl : l.length = n := by have := h.1; unfold ivals at this; rw [List.length_map] at this; omega
  refine ⟨by obtain ⟨_, c', he, h1, h2⟩ := own_slice h; injection he with _ _ hc; omega, fun hp => ?_⟩
  rcases h.2 with ⟨_, h0⟩ | ⟨g, cap, cur, he, _⟩
  · omega
  · have hc := h.cells (g := g) (by rw [he]; rfl)
    injection he with he
    exact ⟨_, he, fun j x hj => cell_below hb (hc j _ (by unfold ivals; rw [List.getElem?_map, hj]; rfl))⟩
section
variable {P : Program} {ops : Array Oper} {rest : List Oper} {o : Oper} {a : Act} {Q : Exit → Act → World → Prop}
/-- append of a slice that is read, or nil, to a row of the call's own. -/
theorem app_many {w0 wr W : World} {v : Value} {n : Nat} {xs : List Value} {t e : TypeId} {z : Value} {size bytes : Nat} (HO : wr.ownsRow w0.heap.size e size v n xs) (HB : Below w0.heap.size w0 wr) (hgd : o.guard = none) (s x : Operand)
    (ho : o.op = .call { callee := .builtin .append, args := #[s, x], argTypes := #[t, t] })
    (ht : P.underlying t = some (.slice e)) (hinfo : (P.info? e).map (fun i => (i.zero, i.size, i.bytes)) = some (some z, size, bytes)) (hz : z.cells.size = size) (hs0 : 0 < size) (hb0 : 0 < bytes)
    (news : List Value) (hs : a.eval s = v) (A : Option Addr) (m c : Nat) (hx : a.eval x = .slice A m c) (hA : A = none → m = 0 ∧ c = 0) (hcl : news.length = m * size) (h1 : ∀ u ∈ news, u.oneCell' = true) (hl : (n + m) * bytes ≤ 140737488355328)
    (hnews : ∀ ad, A = some ad → ∀ j u, news[j]? = some u → W.cell? (ad.add j) = some u) (HW : Below wr.heap.size wr W)
    (h : ∀ v1 w1, w1.ownsRow w0.heap.size e size v1 (n + m) (xs ++ news) → Below w0.heap.size w0 w1 → wr.grownBy w1 v.ownBlock → (v1.ownBlock = v.ownBlock ∨ ∃ b, v1.ownBlock = some b ∧ wr.heap.size ≤ b) → wpList P ops Q rest (a.put o.dst v1) w1) :
    wpList P ops Q (o :: rest) a W := by
  obtain ⟨i0, hi, hzz⟩ := Option.map_eq_some_iff.1 hinfo
  simp only [Prod.mk.injEq] at hzz
  obtain ⟨hz0, hz1, hz2⟩ := hzz
  have HBW := below_then HB HB.size HW
  cases A with
  | none =>
    obtain ⟨rfl, rfl⟩ := hA rfl
    have hn : news = [] := by simpa using hcl
    subst hn
    refine wpList_append_own_none hgd s x t ho w0.heap.size e i0 size ht hi v n xs hs (own_below HO HW) hx ?_
    exact h v W (by simpa using own_below HO HW) HBW ⟨HW.os, HW.tape, HW.output, HW.size, fun i hi _ => HW.block i hi⟩ (.inl rfl)
  | some ad =>
    have hlen : n + m ≤ 140737488355328 := Nat.le_trans (Nat.le_mul_of_pos_right _ hb0) hl
    refine wpList_append_own_at W hgd s x t ho w0.heap.size e i0 z size bytes ht hi hz0 hz1 hz2 hz hs0 v n xs hs (own_below HO HW) ad m c news hx hcl (hnews ad rfl) h1 (by simp only [maxLen]; omega) hl HBW.size ?_
    intro v1 w1 hown hg _ hat
    refine h v1 w1 hown (HBW.grown hg HBW.size (own_base HO)) (World.grownBy.trans (row := v.ownBlock) ⟨HW.os, HW.tape, HW.output, HW.size, fun i hi _ => HW.block i hi⟩ hg) ?_
    rcases hat with hat | hat
    · exact .inl hat
    · exact .inr ⟨_, hat, HW.size⟩
end
theorem infoNode : (Tryd.prog.info? 50).map (fun i => (i.zero, i.size, i.bytes)) = some (some (.agg #[.int .u8 0, .int .i64 0, .int .i64 0, .int .i64 0, .int .i64 0]), 5, 40) := by kernel_rfl
theorem h0_40 : 0 < 40 := by decide
end Go.Proofs.YthijjpbkpmojbaaDoor
