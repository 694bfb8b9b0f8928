import Derived.Test.YtipijkpjmpejlaaAgg
/- Rows of values of many cells that the calls of a program own: n cells a value. No condition. -/
set_option linter.unusedVariables false
set_option linter.unusedSimpArgs false
namespace Go.Proofs.Ytipijkpjmpejlaa
open Go.RowKit
theorem flatN {n : Nat} : ∀ css : List (List Value), (∀ cs ∈ css, cs.length = n) → css.flatten.length = css.length * n
  | [], _ => by simp
  | c :: css, h => by
    rw [List.flatten_cons, List.length_append, flatN css (fun x hx => h x (by simp [hx])), h c (by simp), List.length_cons, Nat.add_mul]; omega
theorem flatN_at {n : Nat} : ∀ (css : List (List Value)) (i : Nat) (cs : List Value) (j : Nat) (v : Value), (∀ cs ∈ css, cs.length = n) → css[i]? = some cs → cs[j]? = some v → css.flatten[i * n + j]? = some v
  | [], i, cs, j, v, _, h, _ => by simp at h
  | c :: css, 0, cs, j, v, h, h1, h2 => by
    simp at h1; subst h1
    rw [List.flatten_cons, Nat.zero_mul, Nat.zero_add, List.getElem?_append_left (List.getElem?_eq_some_iff.1 h2).1]; exact h2
  | c :: css, i + 1, cs, j, v, h, h1, h2 => by
    have h4 := h c (by simp)
    rw [List.flatten_cons, List.getElem?_append_right (by rw [h4, Nat.add_mul]; omega), h4, show (i + 1) * n + j - n = i * n + j from by rw [Nat.add_mul]; omega]
    exact flatN_at css i cs j v (fun x hx => h x (by simp [hx])) (by simpa using h1) h2
theorem flatN_set {n : Nat} : ∀ (css : List (List Value)) (i j : Nat) (u : Value) (hi : i < css.length), (∀ cs ∈ css, cs.length = n) → j < n → css.flatten.set (i * n + j) u = (css.set i ((css[i]).set j u)).flatten
  | c :: css, 0, j, u, _, h, hj => by
    have h4 := h c (by simp)
    simp only [Nat.zero_mul, Nat.zero_add, List.flatten_cons, List.getElem_cons_zero, List.set_cons_zero]
    rw [List.set_append_left _ _ (by omega)]
  | c :: css, i + 1, j, u, hi, h, hj => by
    have h4 := h c (by simp)
    simp only [List.flatten_cons, List.getElem_cons_succ, List.set_cons_succ]
    rw [List.set_append_right _ _ (by rw [h4, Nat.add_mul]; omega), h4, show (i + 1) * n + j - n = i * n + j from by rw [Nat.add_mul]; omega]
    rw [flatN_set css i j u (by simpa using hi) (fun x hx => h x (by simp [hx])) hj]
/-- A row of values, n cells each. -/
structure RowR (w : World) (n : Nat) (T : TypeId) (base : Nat) (v : Value) (css : List (List Value)) : Prop where
  row : w.ownsRow base T n v css.length css.flatten
  len : ∀ cs ∈ css, cs.length = n
namespace RowR
variable {w w' : World} {n base : Nat} {T : TypeId} {v v' : Value} {css : List (List Value)} {l : List Nat}
theorem nil (w : World) (n : Nat) (T : TypeId) (base : Nat) : RowR w n T base (.slice none 0 0) [] := ⟨World.ownsRow_nil _ _ _ _, by simp⟩
theorem own (h : RowR w n T base v css) : ∀ b, v.ownBlock = some b → base ≤ b ∧ b < w.heap.size := h.row.lt
theorem slice (h : RowR w n T base v css) : ∃ A c, v = .slice A css.length c := own_slice h.row
theorem kept (h : RowR w n T base v css) (hc : Chg l w w') (hl : ∀ b, v.ownBlock = some b → b ∉ l) : RowR w' n T base v css := ⟨own_kept h.row hc hl, h.len⟩
theorem weak {base' : Nat} (h : RowR w n T base v css) (hb : base' ≤ base) : RowR w n T base' v css := by
  refine ⟨⟨h.row.1, ?_⟩, h.len⟩
  rcases h.row.2 with h0 | ⟨g, c, C, e1, e2, r⟩
  · exact .inl h0
  · exact .inr ⟨g, c, C, e1, by omega, r⟩
theorem push {cs : List Value} (h : RowR w n T base v css) (ho : w'.ownsRow base T n v' (css.length + 1) (css.flatten ++ cs)) (hl : cs.length = n) : RowR w' n T base v' (css ++ [cs]) :=
  ⟨by simpa using ho, fun x hx => by rcases List.mem_append.1 hx with hx | hx; exact h.len x hx; simp at hx; rw [hx]; exact hl⟩
theorem pushN {ds : List (List Value)} (h : RowR w n T base v css) (ho : w'.ownsRow base T n v' (css.length + ds.length) (css.flatten ++ ds.flatten)) (hl : ∀ cs ∈ ds, cs.length = n) : RowR w' n T base v' (css ++ ds) :=
  ⟨by simpa using ho, fun x hx => by rcases List.mem_append.1 hx with hx | hx; exact h.len x hx; exact hl x hx⟩
/-- The row's block, and where each value lies in it. -/
theorem block (h : RowR w n T base v css) (hp : 0 < css.length) : ∃ g c C, v = .slice (some ⟨g, 0, none⟩) css.length c ∧ base ≤ g ∧ w.heap[g]? = some (.cells C T (0, 0)) ∧ css.length ≤ c ∧ c ≤ maxLen ∧ C.size = c * n ∧ C.toList.take (css.length * n) = css.flatten ∧ ∀ i (hi : i < css.length), w.rangeAt g (i * n) (css[i]) := by
  rcases h.row.2 with ⟨rfl, h0⟩ | ⟨g, cap, cur, rfl, hb, hg, hn1, hn2, hsz, htk⟩
  · omega
  · refine ⟨g, cap, cur, rfl, hb, hg, hn1, hn2, hsz, htk, fun i hi j u hu => ?_⟩
    have := flatN_at css i _ j u h.len (List.getElem?_eq_getElem hi) hu
    rw [← htk, List.getElem?_take] at this
    split at this
    · simp only [World.cell?, hg]; simpa using this
    · cases this
/-- One cell of one value is set. -/
theorem setCell {g c i j : Nat} {C : Array Value} {u : Value} (h : RowR w n T base (.slice (some ⟨g, 0, none⟩) css.length c) css) (hi : i < css.length) (hj : j < n) : RowR (w.setCell ⟨g, i * n + j, none⟩ u) n T base (.slice (some ⟨g, 0, none⟩) css.length c) (css.set i ((css[i]).set j u)) := by
  obtain ⟨g', c', C, e, hb, hg, h1, h2, h3, h4, _⟩ := h.block (by omega)
  injection e with e1 _ e3
  injection e1 with e1
  injection e1 with e1 _ _
  subst e1 e3
  have hlen : ∀ cs ∈ css.set i ((css[i]).set j u), cs.length = n := fun cs hcs => by
    rcases List.mem_or_eq_of_mem_set hcs with hm | rfl
    · exact h.len cs hm
    · simpa using h.len _ (List.getElem_mem hi)
  refine ⟨⟨by rw [flatN _ hlen], .inr ⟨g, c, C.setIfInBounds (i * n + j) u, by simp, hb, heap_setCell_same _ _ _ _ _ _ hg, by simpa using h1, h2, by simpa using h3, ?_⟩⟩, hlen⟩
  rw [Array.toList_setIfInBounds, List.take_set, List.length_set, h4, flatN_set css i j u hi h.len hj]
/-- The same, the row's length named. -/
theorem setCell' {g c i j m : Nat} {u : Value} (h : RowR w n T base (.slice (some ⟨g, 0, none⟩) m c) css) (hm : css.length = m) (hi : i < css.length) (hj : j < n) : RowR (w.setCell ⟨g, i * n + j, none⟩ u) n T base (.slice (some ⟨g, 0, none⟩) m c) (css.set i ((css[i]).set j u)) := by
  subst hm
  exact h.setCell (C := #[]) hi hj
end RowR
end Go.Proofs.Ytipijkpjmpejlaa
