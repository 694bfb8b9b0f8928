import Derived.Test.YtipijkpjmpejlaaTree
/- Trees of nodes that a call made and may change: what each leads to lies apart. No condition. -/
set_option linter.unusedVariables false
set_option linter.unusedSimpArgs false
namespace Go.Proofs.Ytipijkpjmpejlaa
open Go.RowKit
/-- The four cells of a node that reads as t; all that it leads to lies in F, each part in blocks of its own. -/
inductive TrV (w : World) : Tr → List Value → (Nat → Prop) → Prop
  | leaf (t : Tr) (A : Option Addr) (c : Nat) (F : Nat → Prop) (h0 : t.kids = []) (hA : A = none → c = 0) (hc : c ≤ 9223372036854775807) (ht : t.text.size ≤ 9223372036854775807) : TrV w t [.int .i64 (Tr.id t), .int .i64 (Tr.kind t), .string (Tr.text t), .slice A 0 c] F
  | node (t : Tr) (b c : Nat) (C : Array Value) (cs : Nat → List Value) (fs : Nat → Nat → Prop) (F : Nat → Prop) (hp : 0 < t.kids.length) (hl : t.kids.length ≤ c) (hc : c ≤ 9223372036854775807) (ht : t.text.size ≤ 9223372036854775807)
      (hb : w.heap[b]? = some (.cells C 37 (0, 0))) (hFb : F b) (hF : ∀ i x, i < t.kids.length → fs i x → F x ∧ x ≠ b) (hd : ∀ i j x, i < t.kids.length → j < t.kids.length → i ≠ j → fs i x → ¬ fs j x)
      (hr : ∀ i, i < t.kids.length → w.rangeAt b (i * 4) (cs i)) (hk : ∀ i k, t.kids[i]? = some k → TrV w k (cs i) (fs i)) : TrV w t [.int .i64 (Tr.id t), .int .i64 (Tr.kind t), .string (Tr.text t), .slice (some ⟨b, 0, none⟩) t.kids.length c] F
theorem TrV.four {w : World} {t : Tr} {cs : List Value} {F : Nat → Prop} (h : TrV w t cs F) : cs.length = 4 := by cases h <;> rfl
theorem TrV.toC {w : World} {t : Tr} {cs : List Value} {F : Nat → Prop} (h : TrV w t cs F) : TrC F w t cs := by
  induction h with
  | leaf t A c F h0 hA hc ht => exact .none t A c h0 hc ht
  | node t b c C cs fs F hp hl hc ht hb hFb hF hd hr hk ih =>
    exact .some t b 0 c cs hl hc ht hFb (fun i hi => by rw [Nat.zero_add]; exact hr i hi) (fun i k h => (ih i k h).weak (fun g hg _ => (hF i g (List.getElem?_eq_some_iff.1 h).1 hg).1))
theorem TrV.move {w w' : World} {t : Tr} {cs : List Value} {F F' : Nat → Prop} (h : TrV w t cs F) (hb : ∀ g, F g → g < w.heap.size → w'.heap[g]? = w.heap[g]?) (hF' : ∀ g, F g → g < w.heap.size → F' g) : TrV w' t cs (fun g => F' g ∧ g < w.heap.size) := by
  induction h generalizing F' with
  | leaf t A c F h0 hA hc ht => exact .leaf t A c _ h0 hA hc ht
  | node t b c C cs fs F hp hl hc ht hB hFb hF hd hr hk ih =>
    have hlt := lt_of_block hB
    refine .node t b c C cs (fun i x => fs i x ∧ x < w.heap.size) _ hp hl hc ht ((hb b hFb hlt).trans hB) ⟨hF' b hFb hlt, hlt⟩ (fun i x hi hx => ⟨⟨hF' x (hF i x hi hx.1).1 hx.2, hx.2⟩, (hF i x hi hx.1).2⟩) (fun i j x hi hj hne h1 h2 => hd i j x hi hj hne h1.1 h2.1) (fun i hi j v hv => ?_) (fun i k hki => ?_)
    · have := hr i hi j v hv
      simp only [World.cell?] at this ⊢
      rw [hb b hFb hlt]; exact this
    · have hi := (List.getElem?_eq_some_iff.1 hki).1
      exact ih i k hki (fun g hg hl => hb g (hF i g hi hg).1 hl) (fun g hg _ => hg)
theorem TrV.weak {w : World} {t : Tr} {cs : List Value} {F F' : Nat → Prop} (h : TrV w t cs F) (hF : ∀ g, F g → F' g) : TrV w t cs F' := by
  cases h with
  | leaf t A c F h0 hA hc ht => exact .leaf t A c _ h0 hA hc ht
  | node t b c C cs fs F hp hl hc ht hB hFb hF2 hd hr hk => exact .node t b c C cs fs _ hp hl hc ht hB (hF b hFb) (fun i x hi hx => ⟨hF x (hF2 i x hi hx).1, (hF2 i x hi hx).2⟩) hd hr hk
/-- What is owned lies in blocks that are there. -/
theorem TrV.bound {w : World} {t : Tr} {cs : List Value} {F : Nat → Prop} (h : TrV w t cs F) : TrV w t cs (fun g => F g ∧ g < w.heap.size) := h.move (fun _ _ _ => rfl) (fun _ h _ => h)
theorem TrV.kept {w w' : World} {t : Tr} {cs : List Value} {F : Nat → Prop} {l : List Nat} (h : TrV w t cs F) (hc : Chg l w w') (hl : ∀ g, F g → g ∉ l) : TrV w' t cs F :=
  (h.move (F' := F) (fun g hg hlt => hc.block g hlt (hl g hg)) (fun _ h _ => h)).weak (fun _ h => h.1)

/-! ### Rows of such nodes -/
def RowV (w : World) (base : Nat) (v : Value) (ks : List Tr) (F : Nat → Prop) : Prop :=
  ∃ (css : List (List Value)) (fs : Nat → Nat → Prop), w.ownsRow base 37 4 v ks.length css.flatten ∧ css.length = ks.length ∧ (∀ (i : Nat) k cs, ks[i]? = some k → css[i]? = some cs → TrV w k cs (fs i))
    ∧ (∀ i x, i < ks.length → fs i x → F x ∧ x < w.heap.size ∧ v.ownBlock ≠ some x) ∧ (∀ i j x, i < ks.length → j < ks.length → i ≠ j → fs i x → ¬ fs j x)
theorem RowV.nil (w : World) (base : Nat) (F : Nat → Prop) : RowV w base (.slice none 0 0) [] F :=
  ⟨[], fun _ _ => False, World.ownsRow_nil _ _ _ _, rfl, (fun i k cs h => by simp at h), (fun i x h => by simp at h), fun i j x h => by simp at h⟩
theorem RowV.own {w : World} {base : Nat} {v : Value} {ks : List Tr} {F : Nat → Prop} (h : RowV w base v ks F) : ∀ b, v.ownBlock = some b → base ≤ b ∧ b < w.heap.size := by
  obtain ⟨css, fs, ho, _⟩ := h; exact ho.lt
theorem RowV.kept {w w' : World} {base : Nat} {v : Value} {ks : List Tr} {F : Nat → Prop} (h : RowV w base v ks F) {l : List Nat} (hc : Chg l w w') (h1 : ∀ b, v.ownBlock = some b → b ∉ l) (h2 : ∀ g, F g → g ∉ l) : RowV w' base v ks F := by
  obtain ⟨css, fs, ho, hl, hk, hF, hd⟩ := h
  exact ⟨css, fs, own_kept ho hc h1, hl, fun i k cs a b => (hk i k cs a b).kept hc (fun g hg => h2 g (hF i g (List.getElem?_eq_some_iff.1 a).1 hg).1), fun i x hi hx => ⟨(hF i x hi hx).1, Nat.lt_of_lt_of_le (hF i x hi hx).2.1 hc.size, (hF i x hi hx).2.2⟩, hd⟩
theorem RowV.weak {w : World} {base : Nat} {v : Value} {ks : List Tr} {F F' : Nat → Prop} (h : RowV w base v ks F) (hF' : ∀ g, F g → F' g) : RowV w base v ks F' := by
  obtain ⟨css, fs, ho, hl, hk, hF, hd⟩ := h
  exact ⟨css, fs, ho, hl, hk, fun i x hi hx => ⟨hF' x (hF i x hi hx).1, (hF i x hi hx).2⟩, hd⟩
theorem all4 {α : Type} {ks : List α} {css : List (List Value)} {n : Nat} (hl : css.length = ks.length) (h : ∀ (i : Nat) k cs, ks[i]? = some k → css[i]? = some cs → cs.length = n) : ∀ cs ∈ css, cs.length = n := by
  intro cs hcs
  obtain ⟨i, hi, rfl⟩ := List.getElem_of_mem hcs
  exact h i (ks[i]'(by omega)) _ (List.getElem?_eq_getElem _) (List.getElem?_eq_getElem _)
theorem TrV.one {w : World} {t : Tr} {cs : List Value} {F : Nat → Prop} (h : TrV w t cs F) : ∀ u ∈ cs, u.oneCell' = true := one4 h.toC
/-- A node over a row: id, kind and text, and the row as its kids. -/
theorem RowV.node {w : World} {base : Nat} {v : Value} {F : Nat → Prop} (t : Tr) (h : RowV w base v t.kids F) (ht : t.text.size ≤ 9223372036854775807) :
    ∃ A c, v = .slice A t.kids.length c ∧ TrV w t [.int .i64 (Tr.id t), .int .i64 (Tr.kind t), .string (Tr.text t), .slice A t.kids.length c] (fun g => F g ∨ v.ownBlock = some g) := by
  obtain ⟨css, fs, ho, hl, hk, hF, hd⟩ := h
  have h4 := all4 hl (fun i k cs a b => (hk i k cs a b).four)
  rcases ho.2 with ⟨rfl, h0⟩ | ⟨g, cap, cur, rfl, hb, hg, hn1, hn2, hsz, htk⟩
  · have hk0 : t.kids = [] := List.length_eq_zero_iff.1 h0
    refine ⟨none, 0, by rw [h0], ?_⟩
    rw [h0]
    exact .leaf t none 0 _ hk0 (fun _ => rfl) (by omega) ht
  · unfold maxLen at hn2
    refine ⟨_, cap, rfl, ?_⟩
    by_cases h0 : t.kids.length = 0
    · rw [h0]; exact .leaf t _ cap _ (List.length_eq_zero_iff.1 h0) (fun h => by cases h) hn2 ht
    · refine .node t g cap cur (fun i => css.getD i []) fs _ (by omega) hn1 hn2 ht hg (.inr rfl) (fun i x hi hx => ⟨.inl (hF i x hi hx).1, fun e => (hF i x hi hx).2.2 (by rw [e]; rfl)⟩) hd (fun i hi j u hu => ?_) (fun i k hki => ?_)
      · have hcs : css[i]? = some (css.getD i []) := by simp [List.getD, List.getElem?_eq_getElem (show i < css.length by omega)]
        have := flat_at4 css i _ j u h4 hcs hu
        rw [← htk, List.getElem?_take] at this
        split at this
        · simp only [World.cell?, hg]; simpa using this
        · cases this
      · have hi := (List.getElem?_eq_some_iff.1 hki).1
        exact hk i k _ hki (by simp [List.getD, List.getElem?_eq_getElem (show i < css.length by omega)])
/-- One node more: what the law of append leaves. -/
theorem RowV.push {w w' : World} {base : Nat} {v v' : Value} {ks : List Tr} {css : List (List Value)} {fs : Nat → Nat → Prop} {F G : Nat → Prop} {k : Tr} {cs : List Value} (hl : css.length = ks.length)
    (hk : ∀ (i : Nat) k cs, ks[i]? = some k → css[i]? = some cs → TrV w k cs (fs i)) (hF : ∀ i x, i < ks.length → fs i x → F x ∧ x < w.heap.size ∧ v.ownBlock ≠ some x) (hd : ∀ i j x, i < ks.length → j < ks.length → i ≠ j → fs i x → ¬ fs j x)
    (hc : TrV w k cs G) (hG : ∀ x, G x → F x ∧ x < w.heap.size ∧ v.ownBlock ≠ some x ∧ ∀ i, i < ks.length → ¬ fs i x)
    (ho : w'.ownsRow base 37 4 v' (ks.length + 1) (css.flatten ++ cs)) (hg : w.grownBy w' v.ownBlock) (hat : v'.ownBlock = v.ownBlock ∨ v'.ownBlock = some w.heap.size) : RowV w' base v' (ks ++ [k]) F := by
  have hm : ∀ t cs (f : Nat → Prop), (∀ x, f x → x < w.heap.size ∧ v.ownBlock ≠ some x) → TrV w t cs f → TrV w' t cs f := fun t cs f hf h => (h.move (F' := f) (fun g hg' hlt => hg.block g hlt (fun e => (hf g hg').2 e.symm)) (fun _ h _ => h)).weak (fun _ h => h.1)
  have hv' : ∀ x, x < w.heap.size → v.ownBlock ≠ some x → v'.ownBlock ≠ some x := by
    intro x hx hn e
    rcases hat with h | h
    · exact hn (h.symm.trans e)
    · rw [h] at e; injection e with e; omega
  refine ⟨css ++ [cs], fun i x => if i < ks.length then fs i x else G x, by simpa using ho, by simp [hl], fun i k' cs' h1 h2 => ?_, fun i x hi hx => ?_, fun i j x hi hj hne h1 h2 => ?_⟩
  · rcases Nat.lt_or_ge i ks.length with hi | hi
    · rw [List.getElem?_append_left hi] at h1
      rw [List.getElem?_append_left (by omega)] at h2
      have := hm _ _ _ (fun x hx => (hF i x hi hx).2) (hk i k' cs' h1 h2)
      simpa [hi] using this
    · rw [List.getElem?_append_right hi] at h1
      rw [List.getElem?_append_right (by omega), hl] at h2
      have : i - ks.length = 0 := by
        have := (List.getElem?_eq_some_iff.1 h1).1
        simp at this; omega
      rw [this] at h1 h2
      simp at h1 h2; subst h1 h2
      have := hm _ _ _ (fun x hx => ⟨(hG x hx).2.1, (hG x hx).2.2.1⟩) hc
      simpa [Nat.not_lt.2 hi] using this
  · by_cases h : i < ks.length
    · simp only [h, if_true] at hx
      have := hF i x h hx
      exact ⟨this.1, Nat.lt_of_lt_of_le this.2.1 hg.size, hv' x this.2.1 this.2.2⟩
    · simp only [h, if_false] at hx
      have := hG x hx
      exact ⟨this.1, Nat.lt_of_lt_of_le this.2.1 hg.size, hv' x this.2.1 this.2.2.1⟩
  · simp only [List.length_append, List.length_cons, List.length_nil] at hi hj
    by_cases h3 : i < ks.length <;> by_cases h4 : j < ks.length <;> simp only [h3, h4, if_true, if_false] at h1 h2
    · exact hd i j x h3 h4 hne h1 h2
    · exact (hG x h2).2.2.2 i h3 h1
    · exact (hG x h1).2.2.2 j h4 h2
    · omega
/-- A row, a node made since: what the law of append is told, and what comes of it. -/
theorem RowV.grow {w1 w2 : World} {base : Nat} {v : Value} {ks : List Tr} {F : Nat → Prop} (h : RowV w1 base v ks F) (hc : Chg [] w1 w2) :
    ∃ xs, w2.ownsRow base 37 4 v ks.length xs ∧ ∀ (k : Tr) (cs : List Value) (G : Nat → Prop) (w3 : World) (v' : Value), TrV w2 k cs G → (∀ x, G x → F x ∧ w1.heap.size ≤ x ∧ x < w2.heap.size) → w3.ownsRow base 37 4 v' (ks.length + 1) (xs ++ cs) → w2.grownBy w3 v.ownBlock → (v'.ownBlock = v.ownBlock ∨ v'.ownBlock = some w2.heap.size) → RowV w3 base v' (ks ++ [k]) F := by
  have hv := h.own
  obtain ⟨css, fs, ho, hl, hk, hF, hd⟩ := h
  refine ⟨css.flatten, own_kept ho hc (by simp), fun k cs G w3 v' hT hG ho' hg hat => ?_⟩
  refine RowV.push hl (fun i k' cs' h1 h2 => (hk i k' cs' h1 h2).kept hc (by simp)) (fun i x hi hx => ⟨(hF i x hi hx).1, Nat.lt_of_lt_of_le (hF i x hi hx).2.1 hc.size, (hF i x hi hx).2.2⟩) hd hT (fun x hx => ?_) ho' hg hat
  obtain ⟨a, b, c⟩ := hG x hx
  exact ⟨a, c, fun e => by have := hv x e; omega, fun i hi hf => by have := hF i x hi hf; omega⟩
/-- The same, the node laid in a box of its own first. -/
theorem RowV.growBox {w1 X : World} {base : Nat} {v : Value} {ks : List Tr} {F : Nat → Prop} {k : Tr} {cs : List Value} (h : RowV w1 base v ks F) (hc : Chg [] w1 X) (hT : TrV X k cs (fun g => w1.heap.size ≤ g ∧ g < X.heap.size)) (hF : ∀ x, w1.heap.size ≤ x → F x) (C : Array Value) :
    ∃ xs, (X.alloc (.cells C 37)).ownsRow base 37 4 v ks.length xs ∧ ∀ (w3 : World) (v' : Value), w3.ownsRow base 37 4 v' (ks.length + 1) (xs ++ cs) → (X.alloc (.cells C 37)).grownBy w3 v.ownBlock → (v'.ownBlock = v.ownBlock ∨ v'.ownBlock = some (X.alloc (.cells C 37)).heap.size) → RowV w3 base v' (ks ++ [k]) F := by
  have hXa : Chg [] X (X.alloc (.cells C 37)) := (Chg.refl _ _).alloc _
  obtain ⟨xs, ho, hg⟩ := h.grow (hc.trans hXa)
  exact ⟨xs, ho, fun w3 v' => hg k cs _ w3 v' (hT.kept hXa (by simp)) (fun x hx => ⟨hF x hx.1, hx.1, Nat.lt_of_lt_of_le hx.2 hXa.size⟩)⟩
theorem set4 {w : World} {b : Nat} {a0 a1 a2 a3 v0 v1 v2 v3 : Value} {t : TypeId} (h : w.heap[b]? = some (.cells #[a0, a1, a2, a3] t (0, 0))) :
    ((((w.setCell ⟨b, 0, none⟩ v0).setCell ⟨b, 1, none⟩ v1).setCell ⟨b, 2, none⟩ v2).setCell ⟨b, 3, none⟩ v3).heap[b]? = some (.cells #[v0, v1, v2, v3] t (0, 0)) :=
  heap_setCell_same _ _ 3 _ _ _ (heap_setCell_same _ _ 2 _ _ _ (heap_setCell_same _ _ 1 _ _ _ (heap_setCell_same _ _ 0 _ _ _ h)))
theorem chg4 (w : World) (b : Nat) (v0 v1 v2 v3 : Value) : Chg [b] w ((((w.setCell ⟨b, 0, none⟩ v0).setCell ⟨b, 1, none⟩ v1).setCell ⟨b, 2, none⟩ v2).setCell ⟨b, 3, none⟩ v3) :=
  ((((Chg.refl _ _).setCell _ _ (by simp)).setCell _ _ (by simp)).setCell _ _ (by simp)).setCell _ _ (by simp)
end Go.Proofs.Ytipijkpjmpejlaa
