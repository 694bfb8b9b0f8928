import Derived.Test.YtofjocjljbkjgaaStepB
/- Kids of a node that a call made: one taken out, one put in, one changed. Plain laws on memory; no condition. -/
set_option linter.unusedVariables false
set_option linter.unusedSimpArgs false
namespace Go.Proofs.Ytofjocjljbkjgaa
open Go.RowKit
structure KidsV (w : World) (A : Option Addr) (c : Nat) (ks : List Tr) (F : Nat → Prop) : Prop where
  le : ks.length ≤ c
  max : c ≤ 9223372036854775807
  nil : A = none → c = 0
  parts : ∃ (css : List (List Value)) (fs : Nat → Nat → Prop), css.length = ks.length ∧ (∀ (i : Nat) k cs, ks[i]? = some k → css[i]? = some cs → TrV w k cs (fs i)) ∧ (∀ i x, i < ks.length → fs i x → F x ∧ ∀ b, A = some ⟨b, 0, none⟩ → x ≠ b)
    ∧ (∀ i j x, i < ks.length → j < ks.length → i ≠ j → fs i x → ¬ fs j x) ∧ (0 < ks.length → ∃ b C, A = some ⟨b, 0, none⟩ ∧ w.heap[b]? = some (.cells C 24 (0, 0)) ∧ F b ∧ ∀ (i : Nat) cs, css[i]? = some cs → w.rangeAt b (i * 4) cs)
theorem TrV.kidsV {w : World} {t : Tr} {cs : List Value} {F : Nat → Prop} (h : TrV w t cs F) : ∃ A c, cs = [.int .i64 (Tr.id t), .int .i64 (Tr.kind t), .string (Tr.text t), .slice A (Tr.kids t).length c] ∧ t.text.size ≤ 9223372036854775807 ∧ KidsV w A c t.kids F := by
  cases h with
  | leaf _ A c _ h0 hA hc ht =>
    refine ⟨A, c, by rw [h0]; rfl, ht, by rw [h0]; exact Nat.zero_le _, hc, hA, [], fun _ _ => False, by rw [h0]; rfl, fun i k cs a => by rw [h0] at a; simp at a, fun i x hi => by rw [h0] at hi; simp at hi, fun i j x hi => by rw [h0] at hi; simp at hi, fun h => by rw [h0] at h; simp at h⟩
  | node _ b c C cs fs _ hp hl hc ht hb hFb hF hd hr hk =>
    refine ⟨_, c, rfl, ht, hl, hc, (fun h => by cases h), (List.range t.kids.length).map cs, fs, by simp, fun i k cs' a e => ?_, fun i x hi hx => ⟨(hF i x hi hx).1, fun b' e => by cases e; exact (hF i x hi hx).2⟩, hd, fun _ => ⟨b, C, rfl, hb, hFb, fun i cs' e => ?_⟩⟩
    · have hi := (List.getElem?_eq_some_iff.1 a).1
      simp [hi] at e; subst e; exact hk i k a
    · have hi : i < t.kids.length := by have := (List.getElem?_eq_some_iff.1 e).1; simpa using this
      simp [hi] at e; subst e; exact hr i hi
theorem KidsV.close {w : World} {A : Option Addr} {c : Nat} {F : Nat → Prop} (t : Tr) (h : KidsV w A c t.kids F) (ht : t.text.size ≤ 9223372036854775807) : TrV w t [.int .i64 (Tr.id t), .int .i64 (Tr.kind t), .string (Tr.text t), .slice A (Tr.kids t).length c] F := by
  obtain ⟨css, fs, hl, hk, hF, hd, hp⟩ := h.parts
  by_cases h0 : t.kids.length = 0
  · rw [h0]; exact .leaf t A c F (List.length_eq_zero_iff.1 h0) h.nil h.max ht
  · obtain ⟨b, C, rfl, hb, hFb, hr⟩ := hp (by omega)
    have hcs : ∀ i, i < t.kids.length → css[i]? = some (css.getD i []) := fun i hi => by simp [List.getD, List.getElem?_eq_getElem (show i < css.length by omega)]
    exact .node t b c C (fun i => css.getD i []) fs F (by omega) h.le h.max ht hb hFb (fun i x hi hx => ⟨(hF i x hi hx).1, (hF i x hi hx).2 b rfl⟩) hd (fun i hi => hr i _ (hcs i hi)) (fun i k a => hk i k _ a (hcs i (List.getElem?_eq_some_iff.1 a).1))
theorem range_append {w : World} {b o : Nat} {xs ys : List Value} (h1 : w.rangeAt b o xs) (h2 : w.rangeAt b (o + xs.length) ys) : w.rangeAt b o (xs ++ ys) := by
  intro j v hv
  rcases Nat.lt_or_ge j xs.length with h | h
  · rw [List.getElem?_append_left h] at hv; exact h1 j v hv
  · rw [List.getElem?_append_right h] at hv
    have := h2 (j - xs.length) v hv
    rwa [show o + xs.length + (j - xs.length) = o + j from by omega] at this
theorem range_flat {w : World} {b : Nat} : ∀ (css : List (List Value)) (o : Nat), (∀ cs ∈ css, cs.length = 4) → (∀ (i : Nat) cs, css[i]? = some cs → w.rangeAt b (o + i * 4) cs) → w.rangeAt b o css.flatten
  | [], o, _, _ => fun j v hv => by simp at hv
  | c :: css, o, h4, h => by
    rw [List.flatten_cons]
    refine range_append (by have := h 0 c rfl; simpa using this) ?_
    rw [h4 c (by simp)]
    exact range_flat css (o + 4) (fun x hx => h4 x (by simp [hx])) (fun i cs hi => by have := h (i + 1) cs (by simpa using hi); rwa [show o + (i + 1) * 4 = o + 4 + i * 4 from by omega] at this)
theorem flat_one {w : World} {css : List (List Value)} (h : ∀ cs ∈ css, ∀ u ∈ cs, u.oneCell' = true) : ∀ u ∈ css.flatten, u.oneCell' = true := by
  intro u hu
  obtain ⟨cs, h1, h2⟩ := List.mem_flatten.1 hu
  exact h cs h1 u h2
/-- What a change inside a node's cells, its own blocks and new ones leaves. -/
structure Fr (g o : Nat) (F : Nat → Prop) (w w' : World) : Prop where
  os : w'.os = w.os
  tape : w'.tape = w.tape
  output : w'.output = w.output
  size : w.heap.size ≤ w'.heap.size
  block : ∀ b, b < w.heap.size → b ≠ g → ¬ F b → w'.heap[b]? = w.heap[b]?
  cell : ∀ j, j < o ∨ o + 4 ≤ j → w'.cell? ⟨g, j, none⟩ = w.cell? ⟨g, j, none⟩
  shape : ∀ C ty, w.heap[g]? = some (.cells C ty (0, 0)) → ∃ C', w'.heap[g]? = some (.cells C' ty (0, 0))
theorem Fr.of_chg {g o : Nat} {F : Nat → Prop} {w w' : World} (h : Chg [] w w') (hg : g < w.heap.size) : Fr g o F w w' :=
  ⟨h.os, h.tape, h.output, h.size, fun b hb _ _ => h.block b hb (by simp), fun j _ => World.cell?_of_block (a := ⟨g, j, none⟩) (h.block g hg (by simp)), fun C ty hb => ⟨C, h.at hb (by simp)⟩⟩
theorem Fr.trans {g o : Nat} {F : Nat → Prop} {a b c : World} (h : Fr g o F a b) (k : Fr g o F b c) : Fr g o F a c :=
  ⟨k.os.trans h.os, k.tape.trans h.tape, k.output.trans h.output, Nat.le_trans h.size k.size, fun i hi h1 h2 => (k.block i (Nat.lt_of_lt_of_le hi h.size) h1 h2).trans (h.block i hi h1 h2), fun j hj => (k.cell j hj).trans (h.cell j hj), fun C ty hC => by obtain ⟨C', h1⟩ := h.shape C ty hC; exact k.shape C' ty h1⟩
theorem Fr.set {g o j : Nat} {F : Nat → Prop} {w : World} (v : Value) (hj : o ≤ j ∧ j < o + 4) : Fr g o F w (w.setCell ⟨g, j, none⟩ v) :=
  ⟨rfl, rfl, rfl, by simp [World.setCell], fun b _ hb _ => Below.heap_setCell _ _ _ _ hb, fun i hi => by
    refine World.cell?_setCell_other _ _ _ _ ?_
    intro e; simp at e <;> omega, fun C ty h => ⟨_, heap_setCell_same _ _ _ _ _ _ h⟩⟩
theorem Fr.chg {g o : Nat} {F : Nat → Prop} {w0 w w' : World} {l : List Nat} (h : Chg l w0 w) (k : Fr g o F w w') (hg : w0.heap.size ≤ g) (hF : ∀ b, F b → w0.heap.size ≤ b) : Chg l w0 w' :=
  ⟨k.os.trans h.os, k.tape.trans h.tape, k.output.trans h.output, Nat.le_trans h.size k.size, fun b hb hl => (k.block b (Nat.lt_of_lt_of_le hb h.size) (by omega) (fun hf => by have := hF b hf; omega)).trans (h.block b hb hl)⟩
/-- The i-th kid: its cells, its blocks; what is left if it is taken out; what stands if it is changed. -/
theorem KidsV.at {w : World} {A : Option Addr} {c : Nat} {ks : List Tr} {F : Nat → Prop} (h : KidsV w A c ks F) {i : Nat} (hi : i < ks.length) :
    ∃ (b : Nat) (C : Array Value) (ci : List Value) (Fi : Nat → Prop), A = some ⟨b, 0, none⟩ ∧ w.heap[b]? = some (.cells C 24 (0, 0)) ∧ F b ∧ w.rangeAt b (i * 4) ci ∧ TrV w (ks[i]) ci Fi ∧ (∀ x, Fi x → F x ∧ x ≠ b)
      ∧ (i + 1 = ks.length → KidsV w A i (ks.take i) (fun x => F x ∧ ¬ Fi x))
      ∧ (∃ olds news : List Value, olds.length = i * 4 ∧ news.length = (ks.length - (i + 1)) * 4 ∧ w.rangeAt b 0 olds ∧ w.rangeAt b ((i + 1) * 4) news ∧ (∀ u ∈ olds, u.oneCell' = true) ∧ (∀ u ∈ news, u.oneCell' = true) ∧
          ∀ (w' : World) (v' : Value) (base : Nat), Chg [] w w' → w.heap.size ≤ base → w'.ownsRow base 24 4 v' (ks.length - 1) (olds ++ news) → RowV w' base v' (ks.eraseIdx i) (fun x => F x ∧ ¬ Fi x ∧ x < w.heap.size))
      ∧ (∀ (w' : World) (k' : Tr) (c' : List Value) (F' : Nat → Prop), Fr b (i * 4) Fi w w' → w'.rangeAt b (i * 4) c' → TrV w' k' c' F' → (∀ x, F' x → (Fi x ∨ ¬ F x) ∧ x ≠ b) → KidsV w' A c (ks.set i k') (fun x => (F x ∧ ¬ Fi x) ∨ F' x)) := by
  obtain ⟨css, fs, hl, hk, hF, hd, hp⟩ := h.parts
  obtain ⟨b, C, rfl, hb, hFb, hr⟩ := hp (by omega)
  have h4 := all4 hl (fun i k cs a b => (hk i k cs a b).four)
  have h1c : ∀ cs ∈ css, ∀ u ∈ cs, u.oneCell' = true := by
    intro cs hcs
    obtain ⟨j, hj, rfl⟩ := List.getElem_of_mem hcs
    exact (hk j (ks[j]'(by omega)) _ (List.getElem?_eq_getElem _) (List.getElem?_eq_getElem _)).one
  have hci : css[i]? = some (css[i]'(by omega)) := List.getElem?_eq_getElem _
  refine ⟨b, C, css[i]'(by omega), fs i, rfl, hb, hFb, hr i _ hci, hk i _ _ (List.getElem?_eq_getElem hi) hci, fun x hx => ⟨(hF i x hi hx).1, (hF i x hi hx).2 b rfl⟩, fun he => ?_, ⟨(css.take i).flatten, (css.drop (i + 1)).flatten, ?_, ?_, ?_, ?_, ?_, ?_, fun w' v' base hC hbase ho => ?_⟩, fun w' k' c' F' hfr hrc hT hF' => ?_⟩
  · refine ⟨by simp; omega, by have := h.max; have := h.le; omega, (fun e => by cases e), css.take i, fs, by simp; omega, fun j k cs a e => ?_, fun j x hj hx => ?_, fun j j' x hj hj' => hd j j' x (by simp at hj; omega) (by simp at hj'; omega), fun hp => ⟨b, C, rfl, hb, ⟨hFb, fun hf => (hF i b hi hf).2 b rfl rfl⟩, fun j cs e => ?_⟩⟩
    · rw [List.getElem?_take] at a e
      split at a
      · rename_i hji; rw [if_pos hji] at e; exact hk j k cs a e
      · cases a
    · simp at hj
      exact ⟨⟨(hF j x (by omega) hx).1, hd j i x (by omega) hi (by omega) hx⟩, (hF j x (by omega) hx).2⟩
    · rw [List.getElem?_take] at e
      split at e
      · exact hr j cs e
      · cases e
  · rw [flat_len4 _ (fun x hx => h4 x (List.mem_of_mem_take hx))]; simp; omega
  · rw [flat_len4 _ (fun x hx => h4 x (List.mem_of_mem_drop hx))]; simp [hl]
  · refine range_flat _ 0 (fun x hx => h4 x (List.mem_of_mem_take hx)) (fun j cs e => ?_)
    rw [List.getElem?_take] at e
    split at e
    · have := hr j cs e; simpa using this
    · cases e
  · refine range_flat _ _ (fun x hx => h4 x (List.mem_of_mem_drop hx)) (fun j cs e => ?_)
    rw [List.getElem?_drop] at e
    have := hr _ cs e
    rwa [show (i + 1 + j) * 4 = (i + 1) * 4 + j * 4 from by omega] at this
  · exact flat_one (w := w) (fun cs hcs => h1c cs (List.mem_of_mem_take hcs))
  · exact flat_one (w := w) (fun cs hcs => h1c cs (List.mem_of_mem_drop hcs))
  · have hlen : (ks.eraseIdx i).length = ks.length - 1 := List.length_eraseIdx_of_lt hi
    refine ⟨css.eraseIdx i, fun j x => (if j < i then fs j x else fs (j + 1) x) ∧ x < w.heap.size, ?_, by rw [List.length_eraseIdx_of_lt (by omega), hlen, hl], fun j k cs a e => ?_, fun j x hj hx => ?_, fun j j' x hj hj' hne h1 h2 => ?_⟩
    · rw [hlen, List.eraseIdx_eq_take_drop_succ, List.flatten_append]; exact ho
    · have hb' : TrV w k cs (if j < i then fs j else fs (j + 1)) := by
        rw [List.getElem?_eraseIdx] at a e
        split at a
        · rename_i hji; rw [if_pos hji] at e ⊢; exact hk j k cs a e
        · rename_i hji; rw [if_neg hji] at e ⊢; exact hk (j + 1) k cs a e
      have := hb'.bound.kept hC (by simp)
      refine this.weak (fun x hx => ?_)
      by_cases hji : j < i
      · simp only [hji, if_true] at hx ⊢; exact hx
      · simp only [hji, if_false] at hx ⊢; exact hx
    · obtain ⟨hx1, hx2⟩ := hx
      have hn : v'.ownBlock ≠ some x := fun e => by have := ho.lt x e; omega
      split at hx1
      · exact ⟨⟨(hF j x (by omega) hx1).1, hd j i x (by omega) hi (by omega) hx1, hx2⟩, Nat.lt_of_lt_of_le hx2 hC.size, hn⟩
      · exact ⟨⟨(hF (j + 1) x (by omega) hx1).1, hd (j + 1) i x (by omega) hi (by omega) hx1, hx2⟩, Nat.lt_of_lt_of_le hx2 hC.size, hn⟩
    · obtain ⟨h1, h1'⟩ := h1
      obtain ⟨h2, h2'⟩ := h2
      split at h1 <;> split at h2
      · exact hd j j' x (by omega) (by omega) hne h1 h2
      · exact hd j (j' + 1) x (by omega) (by omega) (by omega) h1 h2
      · exact hd (j + 1) j' x (by omega) (by omega) (by omega) h1 h2
      · exact hd (j + 1) (j' + 1) x (by omega) (by omega) (by omega) h1 h2
  · have hbl := lt_of_block hb
    refine ⟨by rw [List.length_set]; exact h.le, h.max, h.nil, css.set i c', fun j x => if j = i then F' x else fs j x, by simp [hl], fun j k cs a e => ?_, fun j x hj hx => ?_, fun j j' x hj hj' hne h1 h2 => ?_, fun _ => ?_⟩
    · by_cases hji : j = i
      · subst hji
        rw [List.getElem?_set_self (by omega)] at a
        rw [List.getElem?_set_self (by omega)] at e
        cases a; cases e
        simpa using hT
      · rw [List.getElem?_set_ne (by omega)] at a
        rw [List.getElem?_set_ne (by omega)] at e
        have hj : j < ks.length := (List.getElem?_eq_some_iff.1 a).1
        have := (hk j k cs a e).move (w' := w') (F' := fs j) (fun x hx hlt' => hfr.block x hlt' ((hF j x hj hx).2 b rfl) (hd j i x hj hi hji hx)) (fun x hx _ => hx)
        simpa [hji] using this.weak (fun x hx => hx.1)
    · simp only [List.length_set] at hj
      by_cases hji : j = i
      · simp only [hji, if_true] at hx
        exact ⟨.inr hx, fun b' e => by cases e; exact (hF' x hx).2⟩
      · simp only [hji, if_false] at hx
        exact ⟨.inl ⟨(hF j x hj hx).1, hd j i x hj hi hji hx⟩, (hF j x hj hx).2⟩
    · simp only [List.length_set] at hj hj'
      by_cases hji : j = i <;> by_cases hji' : j' = i <;> simp only [hji, hji', if_true, if_false] at h1 h2
      · omega
      · rcases (hF' x h1).1 with h3 | h3
        · exact hd i j' x hi hj' (fun e => hji' e.symm) h3 h2
        · exact h3 (hF j' x hj' h2).1
      · rcases (hF' x h2).1 with h3 | h3
        · exact hd i j x hi hj (fun e => hji e.symm) h3 h1
        · exact h3 (hF j x hj h1).1
      · exact hd j j' x hj hj' hne h1 h2
    · obtain ⟨C', hC'⟩ := hfr.shape C _ hb
      refine ⟨b, C', rfl, hC', .inl ⟨hFb, fun hf => (hF i b hi hf).2 b rfl rfl⟩, fun j cs e => ?_⟩
      by_cases hji : j = i
      · subst hji
        rw [List.getElem?_set_self (by omega)] at e
        cases e; exact hrc
      · rw [List.getElem?_set_ne (by omega)] at e
        have hj4 := h4 cs (List.mem_of_getElem? e)
        intro p v hv
        have hp : p < 4 := by have := (List.getElem?_eq_some_iff.1 hv).1; omega
        rw [hfr.cell (j * 4 + p) (by omega)]
        exact hr j cs e p v hv
end Go.Proofs.Ytofjocjljbkjgaa
