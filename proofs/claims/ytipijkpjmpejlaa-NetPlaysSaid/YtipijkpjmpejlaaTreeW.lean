import Derived.Test.YtipijkpjmpejlaaTreeR
/- The contracts of the references' trees: the walk. -/
set_option linter.unusedVariables false
set_option linter.unusedSimpArgs false
namespace Go.Proofs.Ytipijkpjmpejlaa
open Go.RowKit
mutual
/-- A tree's nodes, each ahead of its kids, and how deep they are. -/
def Tr.walk : Tr → Int → List (Tr × Int)
  | ⟨i, k, x, ks⟩, d => (⟨i, k, x, ks⟩, d) :: walkL ks (d + 1)
def walkL : List Tr → Int → List (Tr × Int)
  | [], _ => []
  | k :: ks, d => k.walk d ++ walkL ks d
end
theorem Tr.walk_eq (t : Tr) (d : Int) : t.walk d = (t, d) :: walkL t.kids (d + 1) := by cases t; rfl
theorem walkL_append (a b : List Tr) (d : Int) : walkL (a ++ b) d = walkL a d ++ walkL b d := by
  induction a with
  | nil => rfl
  | cons k a ih => simp only [List.cons_append, walkL, ih, List.append_assoc]
mutual
theorem Tr.walk_length : ∀ (t : Tr) (d : Int), (t.walk d).length = t.nodes
  | ⟨_, _, _, ks⟩, d => by simp only [Tr.walk, Tr.nodes, List.length_cons, walkL_length ks (d + 1)]; omega
theorem walkL_length : ∀ (ks : List Tr) (d : Int), (walkL ks d).length = nodesL ks
  | [], _ => rfl
  | k :: ks, d => by simp only [walkL, nodesL, List.length_append, Tr.walk_length k d, walkL_length ks d]
end
/-- The cells of a spot. -/
def SpotC (ok : Nat → Prop) (w : World) (x : Tr × Int) (cs : List Value) : Prop := ∃ c4, TrC ok w x.1 c4 ∧ cs = c4 ++ [.int .i64 x.2]
theorem SpotC.five {ok : Nat → Prop} {w : World} {x : Tr × Int} {cs : List Value} (h : SpotC ok w x cs) : cs.length = 5 := by
  obtain ⟨c4, h, rfl⟩ := h; simp [h.four]
/-- A slice of spots that a call made; their trees lie below base. -/
def RowS (w : World) (B base : Nat) (v : Value) (l : List (Tr × Int)) : Prop :=
  B ≤ base ∧ ∃ css : List (List Value), w.ownsRow base 165 5 v l.length css.flatten ∧ css.length = l.length ∧ ∀ (i : Nat) x cs, l[i]? = some x → css[i]? = some cs → SpotC (fun g => g < B) w x cs
theorem RowS.nil (w : World) {B base : Nat} (h : B ≤ base) : RowS w B base (.slice none 0 0) [] := ⟨h, [], World.ownsRow_nil _ _ _ _, rfl, fun i x cs h => by simp at h⟩
theorem RowS.own {w : World} {B base : Nat} {v : Value} {l : List (Tr × Int)} (h : RowS w B base v l) : ∀ b, v.ownBlock = some b → base ≤ b ∧ b < w.heap.size := by
  obtain ⟨_, css, ho, _⟩ := h; exact ho.lt
theorem RowS.slice {w : World} {B base : Nat} {v : Value} {l : List (Tr × Int)} (h : RowS w B base v l) : ∃ A c, v = .slice A l.length c := by
  obtain ⟨_, css, ho, _⟩ := h; exact own_slice ho
theorem RowS.kept {w w' : World} {B base : Nat} {v : Value} {l : List (Tr × Int)} (h : RowS w B base v l) {c : List Nat} (hc : Chg c w w') (h1 : ∀ b, v.ownBlock = some b → b ∉ c) (h2 : ∀ g, g < B → g ∉ c) : RowS w' B base v l := by
  obtain ⟨hB, css, ho, hl, hk⟩ := h
  exact ⟨hB, css, own_kept ho hc h1, hl, fun i x cs a b => by obtain ⟨c4, h, e⟩ := hk i x cs a b; exact ⟨c4, h.kept hc h2, e⟩⟩
theorem flat_len {n : Nat} : ∀ css : List (List Value), (∀ cs ∈ css, cs.length = n) → css.flatten.length = css.length * n
  | [], _ => by simp
  | c :: css, h => by
    rw [List.flatten_cons, List.length_append, flat_len css (fun x hx => h x (by simp [hx])), h c (by simp), List.length_cons, Nat.add_mul]; omega
theorem flat_at {n : Nat} : ∀ (css : List (List Value)) (i : Nat) (cs : List Value) (j : Nat) (v : Value), (∀ cs ∈ css, cs.length = n) → css[i]? = some cs → cs[j]? = some v → css.flatten[i * n + j]? = some v
  | [], i, cs, j, v, _, h, _ => by simp at h
  | c :: css, 0, cs, j, v, h, h1, h2 => by
    simp at h1; subst h1
    rw [List.flatten_cons, Nat.zero_mul, Nat.zero_add, List.getElem?_append_left (List.getElem?_eq_some_iff.1 h2).1]; exact h2
  | c :: css, i + 1, cs, j, v, h, h1, h2 => by
    have h4 := h c (by simp)
    rw [List.flatten_cons, List.getElem?_append_right (by rw [h4, Nat.add_mul]; omega), h4, show (i + 1) * n + j - n = i * n + j from by rw [Nat.add_mul]; omega]
    exact flat_at css i cs j v (fun x hx => h x (by simp [hx])) (by simpa using h1) h2
/-- A spot of a row: where it lies. -/
theorem RowS.at {w : World} {B base : Nat} {v : Value} {l : List (Tr × Int)} (h : RowS w B base v l) {i : Nat} (hi : i < l.length) : ∃ g c A cA, v = .slice (some ⟨g, 0, none⟩) l.length c ∧ base ≤ g ∧ TrC (fun g => g < B) w (l[i]).1 [.int .i64 (Tr.id (l[i]).1), .int .i64 (Tr.kind (l[i]).1), .string (Tr.text (l[i]).1), .slice A (Tr.kids (l[i]).1).length cA] ∧ w.rangeAt g (i * 5) [.int .i64 (l[i]).1.id, .int .i64 (l[i]).1.kind, .string (l[i]).1.text, .slice A (l[i]).1.kids.length cA, .int .i64 (l[i]).2] := by
  obtain ⟨hB, css, ho, hl, hk⟩ := h
  have h5 := all4 (ks := l) (n := 5) hl (fun i k cs a b => (hk i k cs a b).five)
  rcases ho.2 with ⟨rfl, h0⟩ | ⟨g, cap, cur, rfl, hb, hg, hn1, hn2, hsz, htk⟩
  · omega
  · obtain ⟨c4, hT, e⟩ := hk i (l[i]) (css[i]'(by omega)) (List.getElem?_eq_getElem _) (List.getElem?_eq_getElem _)
    obtain ⟨A, cA, rfl, _⟩ := hT.opens
    refine ⟨g, cap, A, cA, rfl, hb, hT, fun j u hu => ?_⟩
    have := flat_at css i _ j u h5 (List.getElem?_eq_getElem (by omega)) (by rw [e]; exact hu)
    rw [← htk, List.getElem?_take] at this
    split at this
    · simp only [World.cell?, hg]; simpa using this
    · cases this
theorem infoSpot : (Try.prog.info? 165).map (fun i => (i.zero, i.size, i.bytes)) = some (some (.agg #[.int .i64 0, .int .i64 0, .string ⟨#[]⟩, .slice none 0 0, .int .i64 0]), 5, 64) := by kernel_rfl
theorem szSpot : (Try.prog.info? 165).map (·.size) = some 5 := by kernel_rfl
/-- One spot more: what the law of append is told, and what comes of it. -/
theorem RowS.push {w1 w2 : World} {B base : Nat} {v : Value} {l : List (Tr × Int)} (h : RowS w1 B base v l) (hc : Chg [] w1 w2) (t : Tr) (d : Int) (c4 : List Value) (hT : TrC (fun g => g < B) w1 t c4) :
    ∃ xs, w2.ownsRow base 165 5 v l.length xs ∧ ∀ (w3 : World) (v' : Value), w3.ownsRow base 165 5 v' (l.length + 1) (xs ++ (c4 ++ [.int .i64 d])) → w2.grownBy w3 v.ownBlock → RowS w3 B base v' (l ++ [(t, d)]) := by
  have hv := h.own
  obtain ⟨hB, css, ho, hl, hk⟩ := h
  refine ⟨css.flatten, own_kept ho hc (by simp), fun w3 v' ho' hg => ?_⟩
  have hC : Chg v.ownBlock.toList w1 w3 := Chg.grown (hc.mono (by simp)) hg (by intro k hk; rw [hk]; simp)
  have hok : ∀ g, g < B → g ∉ v.ownBlock.toList := fun g hg hm => by have := hv g (by simpa using hm); omega
  refine ⟨hB, css ++ [c4 ++ [.int .i64 d]], by simpa using ho', by simp [hl], fun i x cs h1 h2 => ?_⟩
  rcases Nat.lt_or_ge i l.length with hi | hi
  · rw [List.getElem?_append_left hi] at h1
    rw [List.getElem?_append_left (by omega)] at h2
    obtain ⟨c, h3, h4⟩ := hk i x cs h1 h2
    exact ⟨c, h3.kept hC hok, h4⟩
  · rw [List.getElem?_append_right hi] at h1
    rw [List.getElem?_append_right (by omega), hl] at h2
    have : i - l.length = 0 := by
      have := (List.getElem?_eq_some_iff.1 h1).1
      simp at this; omega
    rw [this] at h1 h2
    simp at h1 h2; subst h1 h2
    exact ⟨c4, hT.kept hC hok, rfl⟩
theorem take_take_append {α : Type} (a b : List α) (n : Nat) : (a.take n ++ b).take n = (a ++ b).take n := by
  rw [List.take_append, List.take_append, List.take_take, Nat.min_self, List.length_take]
  by_cases h : n ≤ a.length
  · rw [Nat.min_eq_left h, Nat.sub_self, Nat.sub_eq_zero_of_le h]
  · rw [Nat.min_eq_right (by omega)]
end Go.Proofs.Ytipijkpjmpejlaa
