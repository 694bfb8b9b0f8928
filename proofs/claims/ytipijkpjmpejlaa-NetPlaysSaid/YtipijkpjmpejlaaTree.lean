import Derived.Test.YtipijkpjmpejlaaProg
import Derived.Test.YtipijkpjmpejlaaAgg
import Derived.Test.YtipijkpjmpejlaaOpen
/- Trees of nodes in memory: what can be read, what is owned. No condition. -/
set_option linter.unusedVariables false
set_option linter.unusedSimpArgs false
namespace Go.Proofs.Ytipijkpjmpejlaa
open Go.RowKit
/-- A tree of nodes. -/
structure Tr where
  id : Int
  kind : Int
  text : ByteArray
  kids : List Tr
theorem Tr.ind {P : Tr → Prop} (h : ∀ t : Tr, (∀ k ∈ t.kids, P k) → P t) : ∀ t, P t := by
  have key : ∀ (n : Nat) (t : Tr), SizeOf.sizeOf t < n → P t := by
    intro n
    induction n with
    | zero => intro t h; omega
    | succ n ih =>
      intro t ht
      refine h t (fun k hk => ih k ?_)
      have := List.sizeOf_lt_of_mem hk
      cases t; simp at ht this; omega
  exact fun t => key _ t (Nat.lt_succ_self _)
mutual
/-- How many nodes. -/
def Tr.nodes : Tr → Nat
  | ⟨_, _, _, ks⟩ => 1 + nodesL ks
def nodesL : List Tr → Nat
  | [] => 0
  | k :: ks => k.nodes + nodesL ks
end
theorem Tr.nodes_eq (t : Tr) : t.nodes = 1 + nodesL t.kids := by cases t; rfl
theorem Tr.nodes_pos (t : Tr) : 0 < t.nodes := by rw [Tr.nodes_eq]; omega
theorem nodesL_mem {k : Tr} : ∀ {ks : List Tr}, k ∈ ks → k.nodes ≤ nodesL ks
  | x :: ks, h => by
    rcases List.mem_cons.1 h with rfl | h
    · unfold nodesL; omega
    · have := nodesL_mem h; unfold nodesL; omega
theorem nodesL_len : ∀ ks : List Tr, ks.length ≤ nodesL ks
  | [] => Nat.le_refl _
  | k :: ks => by have := nodesL_len ks; have := k.nodes_pos; unfold nodesL; simp; omega
theorem nodesL_append (a b : List Tr) : nodesL (a ++ b) = nodesL a + nodesL b := by
  induction a with
  | nil => simp [nodesL]
  | cons x a ih => simp only [List.cons_append, nodesL, ih]; omega
/-- The four cells of a node that reads as t; all that it leads to lies in blocks that are ok. -/
inductive TrC (ok : Nat → Prop) (w : World) : Tr → List Value → Prop
  | none (t : Tr) (A : Option Addr) (c : Nat) (h0 : t.kids = []) (hc : c ≤ 9223372036854775807) (ht : t.text.size ≤ 9223372036854775807) : TrC ok w t [.int .i64 t.id, .int .i64 t.kind, .string t.text, .slice A 0 c]
  | some (t : Tr) (g o c : Nat) (cs : Nat → List Value) (hl : t.kids.length ≤ c) (hc : c ≤ 9223372036854775807) (ht : t.text.size ≤ 9223372036854775807) (hok : ok g)
      (hr : ∀ i, i < t.kids.length → w.rangeAt g (o + i * 4) (cs i)) (hk : ∀ i k, t.kids[i]? = Option.some k → TrC ok w k (cs i)) : TrC ok w t [.int .i64 t.id, .int .i64 t.kind, .string t.text, .slice (Option.some ⟨g, o, Option.none⟩) t.kids.length c]
def KidsC (ok : Nat → Prop) (w : World) (A : Option Addr) (ks : List Tr) : Prop :=
  ∀ (i : Nat) k, ks[i]? = some k → ∃ g o cs, A = some ⟨g, o, none⟩ ∧ ok g ∧ w.rangeAt g (o + i * 4) cs ∧ TrC ok w k cs
theorem TrC.opens {ok : Nat → Prop} {w : World} {t : Tr} {cs : List Value} (h : TrC ok w t cs) :
    ∃ A c, cs = [.int .i64 t.id, .int .i64 t.kind, .string t.text, .slice A t.kids.length c] ∧ t.kids.length ≤ c ∧ c ≤ 9223372036854775807 ∧ t.text.size ≤ 9223372036854775807 ∧ KidsC ok w A t.kids := by
  cases h with
  | none _ A c h0 hc ht => exact ⟨A, c, by rw [h0]; rfl, by rw [h0]; exact Nat.zero_le _, hc, ht, fun i k hk => by rw [h0] at hk; simp at hk⟩
  | some _ g o c cs hl hc ht hok hr hk => exact ⟨_, c, rfl, hl, hc, ht, fun i k h => ⟨g, o, cs i, rfl, hok, hr i (List.getElem?_eq_some_iff.1 h).1, hk i k h⟩⟩
theorem TrC.mk {ok : Nat → Prop} {w : World} (t : Tr) {A : Option Addr} {c : Nat} (hl : t.kids.length ≤ c) (hc : c ≤ 9223372036854775807) (ht : t.text.size ≤ 9223372036854775807) (h : KidsC ok w A t.kids) :
    TrC ok w t [.int .i64 t.id, .int .i64 t.kind, .string t.text, .slice A t.kids.length c] := by
  cases hk : t.kids with
  | nil => rw [show ([] : List Tr).length = 0 from rfl]; exact TrC.none t A c hk hc ht
  | cons k0 ks =>
    rw [← hk]
    obtain ⟨g, o, cs0, rfl, hok, _, _⟩ := h 0 k0 (by rw [hk]; rfl)
    have h' : ∀ i, i < t.kids.length → ∃ cs, w.rangeAt g (o + i * 4) cs ∧ ∀ k, t.kids[i]? = Option.some k → TrC ok w k cs := by
      intro i hi
      obtain ⟨g', o', cs, e, _, h1, h2⟩ := h i _ (List.getElem?_eq_getElem hi)
      cases e
      exact ⟨cs, h1, fun k hk => by rw [List.getElem?_eq_getElem hi] at hk; cases hk; exact h2⟩
    let f : Nat → List Value := fun i => if hi : i < t.kids.length then (h' i hi).choose else []
    have hf : ∀ i (hi : i < t.kids.length), f i = (h' i hi).choose := fun i hi => by simp [f, hi]
    exact TrC.some t g o c f hl hc ht hok (fun i hi => by rw [hf i hi]; exact (h' i hi).choose_spec.1) (fun i k hk => by
      have hi := (List.getElem?_eq_some_iff.1 hk).1
      rw [hf i hi]; exact (h' i hi).choose_spec.2 k hk)
theorem TrC.four {ok : Nat → Prop} {w : World} {t : Tr} {cs : List Value} (h : TrC ok w t cs) : cs.length = 4 := by
  obtain ⟨A, c, rfl, _⟩ := h.opens; rfl
theorem range_lt {w : World} {g o : Nat} {cs : List Value} (h : w.rangeAt g o cs) (hl : 0 < cs.length) : g < w.heap.size := by
  have := h 0 _ (List.getElem?_eq_getElem hl)
  exact World.block_lt_of_cell? w _ this
/-- What is read stands while the blocks that are ok stand. -/
theorem TrC.move {ok ok' : Nat → Prop} {w w' : World} (hb : ∀ g, ok g → g < w.heap.size → w'.heap[g]? = w.heap[g]? ∧ ok' g) {t : Tr} {cs : List Value} (h : TrC ok w t cs) : TrC ok' w' t cs := by
  induction h with
  | none t A c h0 hc ht => exact .none t A c h0 hc ht
  | some t g o c cs hl hc ht hok hr hk ih =>
    by_cases h0 : t.kids = []
    · rw [h0]; exact .none t _ c h0 hc ht
    · have hpos : 0 < t.kids.length := List.length_pos_iff.2 h0
      have hlt : g < w.heap.size := range_lt (hr 0 hpos) (by rw [(hk 0 _ (List.getElem?_eq_getElem hpos)).four]; omega)
      exact .some t g o c cs hl hc ht (hb g hok hlt).2 (fun i hi j v hv => by
        have := hr i hi j v hv
        simp only [World.cell?] at this ⊢
        rw [(hb g hok hlt).1]; exact this) ih
theorem TrC.kept {ok : Nat → Prop} {w w' : World} {l : List Nat} {t : Tr} {cs : List Value} (h : TrC ok w t cs) (hc : Chg l w w') (hl : ∀ g, ok g → g ∉ l) : TrC ok w' t cs :=
  h.move fun g hg hlt => ⟨hc.block g hlt (hl g hg), hg⟩
theorem TrC.weak {ok ok' : Nat → Prop} {w : World} {t : Tr} {cs : List Value} (h : TrC ok w t cs) (hl : ∀ g, ok g → g < w.heap.size → ok' g) : TrC ok' w t cs :=
  h.move fun g hg hlt => ⟨rfl, hl g hg hlt⟩
theorem KidsC.move {ok ok' : Nat → Prop} {w w' : World} (hb : ∀ g, ok g → g < w.heap.size → w'.heap[g]? = w.heap[g]? ∧ ok' g) {A : Option Addr} {ks : List Tr} (h : KidsC ok w A ks) : KidsC ok' w' A ks := fun i k hk => by
  obtain ⟨g, o, cs, hA, hok, hr, hc⟩ := h i k hk
  have hlt := range_lt hr (by rw [hc.four]; omega)
  refine ⟨g, o, cs, hA, (hb g hok hlt).2, fun j v hv => ?_, hc.move hb⟩
  have := hr j v hv
  simp only [World.cell?] at this ⊢
  rw [(hb g hok hlt).1]; exact this
theorem KidsC.kept {ok : Nat → Prop} {w w' : World} {l : List Nat} {A : Option Addr} {ks : List Tr} (h : KidsC ok w A ks) (hc : Chg l w w') (hl : ∀ g, ok g → g ∉ l) : KidsC ok w' A ks :=
  h.move fun g hg hlt => ⟨hc.block g hlt (hl g hg), hg⟩
theorem KidsC.weak {ok ok' : Nat → Prop} {w : World} {A : Option Addr} {ks : List Tr} (h : KidsC ok w A ks) (hl : ∀ g, ok g → g < w.heap.size → ok' g) : KidsC ok' w A ks :=
  h.move fun g hg hlt => ⟨rfl, hl g hg hlt⟩
theorem KidsC.nil (ok : Nat → Prop) (w : World) (A : Option Addr) : KidsC ok w A [] := fun i k hk => by simp at hk
/-- A node in memory, at an address. -/
def TrAt (ok : Nat → Prop) (w : World) (g o : Nat) (t : Tr) : Prop := ∃ cs, w.rangeAt g o cs ∧ TrC ok w t cs
theorem KidsC.at {ok : Nat → Prop} {w : World} {A : Option Addr} {ks : List Tr} (h : KidsC ok w A ks) {i : Nat} (hi : i < ks.length) : ∃ g o, A = some ⟨g, o, none⟩ ∧ ok g ∧ TrAt ok w g (o + i * 4) (ks[i]'hi) := by
  obtain ⟨g, o, cs, hA, hok, hr, hc⟩ := h i _ (List.getElem?_eq_getElem hi)
  exact ⟨g, o, hA, hok, cs, hr, hc⟩
theorem one4 {ok : Nat → Prop} {w : World} {t : Tr} {cs : List Value} (h : TrC ok w t cs) : ∀ u ∈ cs, u.oneCell' = true := by
  obtain ⟨A, c, rfl, _⟩ := h.opens
  intro u hu
  simp at hu
  rcases hu with rfl | rfl | rfl | rfl <;> rfl

/-! ### Rows of nodes that a call makes -/
theorem infoNode : (Try.prog.info? 37).map (fun i => (i.zero, i.size, i.bytes)) = some (some (.agg #[.int .i64 0, .int .i64 0, .string ⟨#[]⟩, .slice none 0 0]), 4, 56) := by kernel_rfl
theorem szNode : (Try.prog.info? 37).map (·.size) = some 4 := by kernel_rfl
/-- A slice that this call made, of nodes that read as ks; the nodes' own blocks are ok, the row's is not. -/
def RowT (ok : Nat → Prop) (w : World) (base : Nat) (v : Value) (ks : List Tr) : Prop :=
  ∃ css : List (List Value), w.ownsRow base 37 4 v ks.length css.flatten ∧ css.length = ks.length ∧ (∀ (i : Nat) k cs, ks[i]? = some k → css[i]? = some cs → TrC ok w k cs) ∧ ∀ b, v.ownBlock = some b → ¬ ok b
theorem RowT.nil (ok : Nat → Prop) (w : World) (base : Nat) : RowT ok w base (.slice none 0 0) [] :=
  ⟨[], World.ownsRow_nil _ _ _ _, rfl, fun i k cs h => by simp at h, fun b h => by cases h⟩
theorem flat_len4 : ∀ css : List (List Value), (∀ cs ∈ css, cs.length = 4) → css.flatten.length = css.length * 4
  | [], _ => rfl
  | c :: css, h => by
    rw [List.flatten_cons, List.length_append, flat_len4 css (fun x hx => h x (by simp [hx])), h c (by simp)]
    simp; omega
theorem flat_at4 : ∀ (css : List (List Value)) (i : Nat) (cs : List Value) (j : Nat) (v : Value), (∀ cs ∈ css, cs.length = 4) → css[i]? = some cs → cs[j]? = some v → css.flatten[i * 4 + j]? = some v
  | [], i, cs, j, v, _, h, _ => by simp at h
  | c :: css, 0, cs, j, v, h, h1, h2 => by
    simp at h1; subst h1
    rw [List.flatten_cons, Nat.zero_mul, Nat.zero_add, List.getElem?_append_left (List.getElem?_eq_some_iff.1 h2).1]; exact h2
  | c :: css, i + 1, cs, j, v, h, h1, h2 => by
    have h4 := h c (by simp)
    rw [List.flatten_cons, List.getElem?_append_right (by omega), h4, show (i + 1) * 4 + j - 4 = i * 4 + j from by omega]
    exact flat_at4 css i cs j v (fun x hx => h x (by simp [hx])) (by simpa using h1) h2
theorem RowT.all4 {ok : Nat → Prop} {w : World} {ks : List Tr} {css : List (List Value)} (hl : css.length = ks.length) (h : ∀ (i : Nat) k cs, ks[i]? = some k → css[i]? = some cs → TrC ok w k cs) : ∀ cs ∈ css, cs.length = 4 := by
  intro cs hcs
  obtain ⟨i, hi, rfl⟩ := List.getElem_of_mem hcs
  exact (h i (ks[i]'(by omega)) _ (List.getElem?_eq_getElem _) (List.getElem?_eq_getElem _)).four
theorem RowT.kept {ok : Nat → Prop} {w w' : World} {base : Nat} {v : Value} {ks : List Tr} (h : RowT ok w base v ks) {l : List Nat} (hc : Chg l w w') (h1 : ∀ b, v.ownBlock = some b → b ∉ l) (h2 : ∀ g, ok g → g ∉ l) : RowT ok w' base v ks := by
  obtain ⟨css, ho, hl, hk, hn⟩ := h
  exact ⟨css, own_kept ho hc h1, hl, fun i k cs a b => (hk i k cs a b).kept hc h2, hn⟩
theorem RowT.weak {ok ok' : Nat → Prop} {w : World} {base : Nat} {v : Value} {ks : List Tr} (h : RowT ok w base v ks) (h1 : ∀ g, ok g → g < w.heap.size → ok' g) (h2 : ∀ b, v.ownBlock = some b → ¬ ok' b) : RowT ok' w base v ks := by
  obtain ⟨css, ho, hl, hk, hn⟩ := h
  exact ⟨css, ho, hl, fun i k cs a b => (hk i k cs a b).weak h1, h2⟩
/-- A row reads as kids. -/
theorem RowT.kids {ok ok' : Nat → Prop} {w : World} {base : Nat} {v : Value} {ks : List Tr} (h : RowT ok w base v ks) (h1 : ∀ g, ok g → g < w.heap.size → ok' g) (h2 : ∀ b, v.ownBlock = some b → ok' b) : ∃ A c, v = .slice A ks.length c ∧ ks.length ≤ c ∧ c ≤ 9223372036854775807 ∧ KidsC ok' w A ks := by
  obtain ⟨css, ho, hl, hk, hn⟩ := h
  have h4 := RowT.all4 hl hk
  rcases ho.2 with ⟨rfl, h0⟩ | ⟨g, cap, cur, rfl, hb, hg, hn1, hn2, hsz, htk⟩
  · have : ks = [] := List.length_eq_zero_iff.1 h0
    subst this
    exact ⟨none, 0, rfl, Nat.le_refl _, by omega, KidsC.nil _ _ _⟩
  · refine ⟨_, cap, rfl, hn1, by unfold maxLen at hn2; exact hn2, fun i k hki => ?_⟩
    have hi := (List.getElem?_eq_some_iff.1 hki).1
    obtain ⟨cs, hcs⟩ : ∃ cs, css[i]? = some cs := ⟨css[i]'(by omega), List.getElem?_eq_getElem _⟩
    refine ⟨g, 0, cs, rfl, h2 g rfl, fun j u hu => ?_, (hk i k cs hki hcs).weak h1⟩
    have := flat_at4 css i cs j u h4 hcs hu
    rw [← htk, List.getElem?_take] at this
    split at this
    · simp only [World.cell?, hg]
      rw [Nat.zero_add]
      simpa using this
    · cases this
/-- One node more: what the law of append leaves. -/
theorem RowT.push {ok : Nat → Prop} {w w' : World} {base : Nat} {v v' : Value} {ks : List Tr} {css : List (List Value)} {k : Tr} {cs : List Value} (hl : css.length = ks.length) (hk : ∀ (i : Nat) k cs, ks[i]? = some k → css[i]? = some cs → TrC ok w k cs) (hn : ∀ b, v.ownBlock = some b → ¬ ok b)
    (hc : TrC ok w k cs) (ho : w'.ownsRow base 37 4 v' (ks.length + 1) (css.flatten ++ cs)) (hg : w.grownBy w' v.ownBlock) (hat : v'.ownBlock = v.ownBlock ∨ v'.ownBlock = some w.heap.size) (hok : ∀ g, ok g → g < w.heap.size) : RowT ok w' base v' (ks ++ [k]) := by
  have hm : ∀ t cs, TrC ok w t cs → TrC ok w' t cs := fun t cs h => h.move fun g hg' hlt => ⟨hg.block g hlt (fun e => hn g e.symm hg'), hg'⟩
  refine ⟨css ++ [cs], by simpa using ho, by simp [hl], fun i k' cs' h1 h2 => ?_, fun b hb => ?_⟩
  · rcases Nat.lt_or_ge i ks.length with hi | hi
    · rw [List.getElem?_append_left hi] at h1
      rw [List.getElem?_append_left (by omega)] at h2
      exact hm _ _ (hk i k' cs' h1 h2)
    · rw [List.getElem?_append_right hi] at h1
      rw [List.getElem?_append_right (by omega), hl] at h2
      have : i - ks.length = 0 := by
        have := (List.getElem?_eq_some_iff.1 h1).1
        simp at this; omega
      rw [this] at h1 h2
      simp at h1 h2; subst h1 h2
      exact hm _ _ hc
  · rcases hat with h | h
    · exact hn b (by rw [← h]; exact hb)
    · rw [h] at hb; cases hb
      exact fun h => Nat.lt_irrefl _ (hok _ h)
end Go.Proofs.Ytipijkpjmpejlaa
