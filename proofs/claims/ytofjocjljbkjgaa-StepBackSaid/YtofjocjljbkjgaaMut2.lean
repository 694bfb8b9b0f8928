import Derived.Test.YtofjocjljbkjgaaMut
import Derived.Deep.Upon
/- Kids of a node that a call made: one put in; slices of slices, an append of nothing. -/
set_option linter.unusedVariables false
set_option linter.unusedSimpArgs false
namespace Go.Proofs.Ytofjocjljbkjgaa
open Go.RowKit
/-- A list with one more at a place. -/
def insAt {α : Type} (l : List α) (p : Nat) (x : α) : List α := l.take p ++ x :: l.drop p
theorem insAt_length {α : Type} (l : List α) (p : Nat) (x : α) (h : p ≤ l.length) : (insAt l p x).length = l.length + 1 := by simp [insAt]; omega
theorem insAt_get {α : Type} (l : List α) (p : Nat) (x : α) (h : p ≤ l.length) (j : Nat) : (insAt l p x)[j]? = if j < p then l[j]? else if j = p then some x else l[j - 1]? := by
  unfold insAt
  by_cases h1 : j < p
  · rw [if_pos h1, List.getElem?_append_left (by simp; omega), List.getElem?_take, if_pos h1]
  · rw [if_neg h1, List.getElem?_append_right (by simp; omega), List.length_take, Nat.min_eq_left h]
    by_cases h2 : j = p
    · subst h2; simp
    · rw [if_neg h2]
      obtain ⟨d, rfl⟩ : ∃ d, j = p + 1 + d := ⟨j - (p + 1), by omega⟩
      rw [show p + 1 + d - p = d + 1 from by omega, List.getElem?_cons_succ, List.getElem?_drop]
      congr 1; omega
theorem KidsV.insert {w : World} {A : Option Addr} {c : Nat} {ks : List Tr} {F : Nat → Prop} (h : KidsV w A c ks F) {p : Nat} (hp : p ≤ ks.length) :
    ∃ olds news : List Value, olds.length = p * 4 ∧ news.length = (ks.length - p) * 4 ∧ (∀ ad, A = some ad → ∀ j u, olds[j]? = some u → w.cell? (ad.add j) = some u) ∧ (p < ks.length → ∃ b, A = some ⟨b, 0, none⟩ ∧ b < w.heap.size ∧ w.rangeAt b (p * 4) news) ∧ (∀ u ∈ news, u.oneCell' = true) ∧
      ∀ (w' : World) (v' : Value) (base : Nat) (x : Tr) (cx : List Value) (Fx : Nat → Prop), Chg [] w w' → w.heap.size ≤ base → w'.ownsRow base 24 4 v' (ks.length + 1) (olds ++ cx ++ news) → TrV w' x cx Fx → (∀ y, Fx y → ¬ F y ∧ y < w'.heap.size ∧ v'.ownBlock ≠ some y) → (∀ y, F y → y < w.heap.size) → RowV w' base v' (insAt ks p x) (fun y => F y ∨ Fx y) := by
  obtain ⟨css, fs, hl, hk, hF, hd, hpp⟩ := h.parts
  have h4 := all4 hl (fun i k cs a b => (hk i k cs a b).four)
  have h1c : ∀ cs ∈ css, ∀ u ∈ cs, u.oneCell' = true := by
    intro cs hcs
    obtain ⟨j, hj, rfl⟩ := List.getElem_of_mem hcs
    exact (hk j (ks[j]'(by omega)) _ (List.getElem?_eq_getElem _) (List.getElem?_eq_getElem _)).one
  refine ⟨(css.take p).flatten, (css.drop p).flatten, ?_, ?_, fun ad hA j u hu => ?_, fun hlt => ?_, ?_, fun w' v' base x cx Fx hC hbase ho hT hFx hlt => ?_⟩
  · rw [flat_len4 _ (fun x hx => h4 x (List.mem_of_mem_take hx))]; simp; omega
  · rw [flat_len4 _ (fun x hx => h4 x (List.mem_of_mem_drop hx))]; simp [hl]
  · by_cases h0 : p = 0
    · subst h0; simp at hu
    · obtain ⟨b, C, hAb, hb, hFb, hr⟩ := hpp (by omega)
      rw [hAb] at hA; cases hA
      rw [Addr.add_mid]
      refine range_flat (w := w) (b := b) (css.take p) 0 (fun x hx => h4 x (List.mem_of_mem_take hx)) (fun i cs e => ?_) j u hu
      rw [List.getElem?_take] at e
      split at e
      · have := hr i cs e; simpa using this
      · cases e
  · obtain ⟨b, C, hAb, hb, hFb, hr⟩ := hpp (by omega)
    refine ⟨b, hAb, lt_of_block hb, range_flat _ _ (fun x hx => h4 x (List.mem_of_mem_drop hx)) (fun i cs e => ?_)⟩
    rw [List.getElem?_drop] at e
    have := hr _ cs e
    rwa [show (p + i) * 4 = p * 4 + i * 4 from by omega] at this
  · exact flat_one (w := w) (fun cs hcs => h1c cs (List.mem_of_mem_drop hcs))
  · refine ⟨insAt css p cx, fun j y => if j < p then fs j y else if j = p then Fx y else fs (j - 1) y, ?_, by rw [insAt_length _ _ _ (by omega), insAt_length _ _ _ hp, hl], fun j k cs a e => ?_, fun j y hj hy => ?_, fun j j' y hj hj' hne h1 h2 => ?_⟩
    · rw [insAt_length _ _ _ hp]
      have e : (insAt css p cx).flatten = (css.take p).flatten ++ cx ++ (css.drop p).flatten := by simp [insAt]
      rw [e]; exact ho
    · rw [insAt_get _ _ _ hp] at a
      rw [insAt_get _ _ _ (by omega)] at e
      by_cases hjp : j < p
      · rw [if_pos hjp] at a e
        simpa [hjp] using (hk j k cs a e).kept hC (by simp)
      · rw [if_neg hjp] at a e
        by_cases hjp2 : j = p
        · rw [if_pos hjp2] at a e
          cases a; cases e
          simpa [hjp2] using hT
        · rw [if_neg hjp2] at a e
          simpa [hjp, hjp2] using (hk (j - 1) k cs a e).kept hC (by simp)
    · rw [insAt_length _ _ _ hp] at hj
      have old : ∀ i, i < ks.length → fs i y → (F y ∨ Fx y) ∧ y < w'.heap.size ∧ v'.ownBlock ≠ some y := fun i hi hf => by
        have := hlt y (hF i y hi hf).1
        exact ⟨.inl (hF i y hi hf).1, Nat.lt_of_lt_of_le this hC.size, fun e => by have := ho.lt y e; omega⟩
      by_cases hjp : j < p
      · simp only [hjp, if_true] at hy; exact old j (by omega) hy
      · by_cases hjp2 : j = p
        · simp only [hjp, hjp2, if_true, if_false] at hy
          have hy' : Fx y := by simpa using hy
          exact ⟨.inr hy', (hFx y hy').2⟩
        · simp only [hjp, hjp2, if_false] at hy; exact old (j - 1) (by omega) hy
    · rw [insAt_length _ _ _ hp] at hj hj'
      have cls : ∀ i, i < ks.length + 1 → (if i < p then fs i y else if i = p then Fx y else fs (i - 1) y) → (i = p ∧ Fx y) ∨ ∃ m, m < ks.length ∧ fs m y ∧ i ≠ p ∧ m = (if i < p then i else i - 1) := fun i hi hf => by
        by_cases a : i < p
        · simp only [a, if_true] at hf; exact .inr ⟨i, by omega, hf, by omega, by rw [if_pos a]⟩
        · by_cases b : i = p
          · subst b; simp at hf; exact .inl ⟨rfl, hf⟩
          · simp only [a, b, if_false] at hf; exact .inr ⟨i - 1, by omega, hf, b, by rw [if_neg a]⟩
      rcases cls j hj h1 with ⟨e1, f1⟩ | ⟨m, hm, f1, e1, q1⟩ <;> rcases cls j' hj' h2 with ⟨e2, f2⟩ | ⟨m', hm', f2, e2, q2⟩
      · omega
      · exact (hFx y f1).1 (hF m' y hm' f2).1
      · exact (hFx y f2).1 (hF m y hm f1).1
      · refine hd m m' y hm hm' ?_ f1 f2
        split at q1 <;> split at q2 <;> omega
section
variable {P : Program} {ops : Array Oper} {rest : List Oper} {o : Oper} {a : Act} {w : World} {Q : Exit → Act → World → Prop}
/-- 'x[:k:k]'. -/
theorem exec_slice_pre (T : TypeId) (x y z : Operand) (ho : o.op = .slice T x none (some y) (some z)) (hT : P.underlying T = some (.slice (P.elem T))) (hsz : ∀ w, (sizeOf (P.elem T)).run P w = .ok 4 w) (A : Option Addr) (len cap k : Nat) (hx : a.eval x = .slice A len cap) (hy : a.eval y = .int .i64 k) (hz : a.eval z = .int .i64 k) (hk : k ≤ cap) :
    (execOp a.eval o).run P w = .ok (.value (.slice A k k)) w := by
  have h := run_slice_hm (P := P) w T A len cap hT .i64 .i64 (k : Int) (k : Int) (by omega) (by omega) (by omega)
  rw [hsz] at h
  simp only [Result.andThen_ok] at h
  have e : sliced A 0 (k : Int).toNat (k : Int).toNat 4 = .slice A k k := by
    cases A with
    | none => simp [sliced]
    | some ad => simp [sliced, Addr.add]
  rw [e] at h
  simp [execOp, ho, hx, hy, hz, run_sliceAt_slice w T _ _ _ _ hT, h, Result.andThen]
/-- 'x[k:]'. -/
def tailA (A : Option Addr) (cap k : Nat) : Option Addr := if cap = k then A else A.map (·.add (k * 4))
theorem exec_slice_post (T : TypeId) (x y : Operand) (ho : o.op = .slice T x (some y) none none) (hT : P.underlying T = some (.slice (P.elem T))) (hsz : ∀ w, (sizeOf (P.elem T)).run P w = .ok 4 w) (A : Option Addr) (len cap k : Nat) (hx : a.eval x = .slice A len cap) (hy : a.eval y = .int .i64 k) (hk : k ≤ len) :
    (execOp a.eval o).run P w = .ok (.value (.slice (tailA A cap k) (len - k) (cap - k))) w := by
  have h := run_slice_l (P := P) w T A len cap hT .i64 (k : Int) (by omega) (by omega)
  rw [hsz] at h
  simp only [Result.andThen_ok] at h
  have e : sliced A (k : Int).toNat len cap 4 = .slice (tailA A cap k) (len - k) (cap - k) := by simp [sliced, tailA]
  rw [e] at h
  simp [execOp, ho, hx, hy, run_sliceAt_slice w T _ _ _ _ hT, h, Result.andThen]
theorem tailA_some {b cap k : Nat} (h : k < cap) : tailA (some ⟨b, 0, none⟩) cap k = some ⟨b, k * 4, none⟩ := by
  unfold tailA; rw [if_neg (by omega)]; simp [Addr.add]; omega
/-- Of a world within a region so much may be kept in mind. -/
theorem M_world {md : Region.Mode} {S : World → Prop} {eff brk : Nat → Bool} {fuel : Nat} {listed : Array Bool} (S0 : World → Prop) (h : S0 w) (k : ∀ X, S0 X → wpAnyM P md ops Q S eff brk fuel listed a X) : wpAnyM P md ops Q S eff brk fuel listed a w := k w h
/-- An append of nothing. -/
theorem wpList_append_zero (hgd : o.guard = none) (s x : Operand) (t e : TypeId) (ho : o.op = .call { callee := .builtin .append, args := #[s, x], argTypes := #[t, t] }) (i : TypeInfo) (ht : P.underlying t = some (.slice e)) (hi : P.info? e = some i)
    (A : Option Addr) (n c : Nat) (hnc : n ≤ c) (B : Option Addr) (d : Nat) (hs : a.eval s = .slice A n c) (hx : a.eval x = .slice B 0 d) (h : wpList P ops Q rest (a.put o.dst (.slice A n c)) w) : wpList P ops Q (o :: rest) a w := by
  have hrun := run_append_nothing (P := P) w t t o.type e i ht hi A n c hnc (.slice B 0 d) ⟨.inl ⟨e, ht⟩, fun w' => by simp [Builtin.lenOf], by cases B <;> simp [Builtin.firstCells, loadCells, loadCellsFrom], by cases B <;> simp [Builtin.firstCells, loadCells, loadCellsFrom], (by simp), by simp⟩
  refine wpList_runv hgd (w' := w) ?_ h
  simp [execOp, ho, resolve, invoke, builtin, hs, hx, hrun, Result.andThen]
end
end Go.Proofs.Ytofjocjljbkjgaa
