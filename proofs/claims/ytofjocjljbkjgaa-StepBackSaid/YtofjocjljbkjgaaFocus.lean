import Derived.Test.YtofjocjljbkjgaaStepP
/- A node of a tree that a call made, at a path: what stands if it is changed. Plain laws on memory; no condition. -/
set_option linter.unusedVariables false
set_option linter.unusedSimpArgs false
namespace Go.Proofs.Ytofjocjljbkjgaa
open Go.RowKit
def Tr.at? : List Nat → Tr → Option Tr
  | [], t => some t
  | i :: p, t => match t.kids[i]? with
    | some k => Tr.at? p k
    | none => none
def Tr.upd : List Nat → Tr → Tr → Tr
  | [], _, x => x
  | i :: p, t, x => match t.kids[i]? with
    | some k => { t with kids := t.kids.set i (Tr.upd p k x) }
    | none => t
theorem Fr.weak {g o : Nat} {F F' : Nat → Prop} {w w' : World} (h : Fr g o F w w') (hF : ∀ y, F y → F' y) : Fr g o F' w w' := ⟨h.os, h.tape, h.output, h.size, fun b h1 h2 h3 => h.block b h1 h2 (fun h => h3 (hF b h)), h.cell, h.shape⟩
theorem MutAt.weak {w : World} {g o : Nat} {t : Tr} {F F' : Nat → Prop} (h : MutAt w g o t F) (h1 : ∀ y, F y → F' y) (h2 : ¬ F' g) (h3 : ∀ y, F' y → y < w.heap.size) : MutAt w g o t F' := by
  obtain ⟨⟨cs, hr, hT⟩, _, hb, _⟩ := h
  exact ⟨⟨cs, hr, hT.weak h1⟩, h2, hb, h3⟩
theorem MutAt.toAt {w : World} {g o : Nat} {t : Tr} {F : Nat → Prop} (h : MutAt w g o t F) : TrAt (fun _ => True) w g o t := by
  obtain ⟨⟨cs, hr, hT⟩, _⟩ := h
  exact ⟨cs, hr, hT.toC.weak (fun _ _ _ => trivial)⟩
theorem MutAt.kid {w : World} {g o : Nat} {t : Tr} {F : Nat → Prop} (hM : MutAt w g o t F) {i : Nat} (hi : i < t.kids.length) :
    ∃ (b c : Nat) (Fi : Nat → Prop), w.cell? ⟨g, o + 3, none⟩ = some (.slice (some ⟨b, 0, none⟩) t.kids.length c) ∧ MutAt w b (i * 4) (t.kids[i]) Fi ∧ (∀ y, Fi y → F y) ∧ F b ∧
      ∀ (w' : World) (k' : Tr) (Fk : Nat → Prop), Fr b (i * 4) Fi w w' → MutAt w' b (i * 4) k' Fk → (∀ y, Fk y → (Fi y ∨ ¬ F y) ∧ y ≠ g) → MutAt w' g o { t with kids := t.kids.set i k' } (fun y => (F y ∧ ¬ Fi y) ∨ Fk y) ∧ Fr g o F w w' := by
  obtain ⟨A, c, hr, htx, hK⟩ := hM.open
  obtain ⟨b, C, ci, Fi, rfl, hb, hFb, hri, hTi, hFi, _, _, hset⟩ := hK.at hi
  have hgF : ∀ y, F y → y ≠ g := fun y hy e => hM.nog (by rw [← e]; exact hy)
  refine ⟨b, c, Fi, hr 3 _ rfl, ⟨⟨ci, hri, hTi⟩, fun h => (hFi b h).2 rfl, ⟨C, _, hb⟩, fun y hy => hM.lt y (hFi y hy).1⟩, fun y hy => (hFi y hy).1, hFb, fun w' k' Fk hfr hMk hFk => ?_⟩
  obtain ⟨cs', hrx, hTx'⟩ := hMk.cells
  have hKX := hset w' k' cs' Fk hfr hrx hTx' (fun y hy => ⟨(hFk y hy).1, fun e => hMk.nog (by rw [← e]; exact hy)⟩)
  have hV := hKX.close { t with kids := t.kids.set i k' } htx
  have hXw : ∀ y, y < w.heap.size → y ≠ b → ¬ Fi y → w'.heap[y]? = w.heap[y]? := fun y h1 h2 h3 => hfr.block y h1 h2 h3
  have hgX := hXw g hM.glt (fun e => hgF b hFb e.symm) (fun h => hgF g (hFi g h).1 rfl)
  obtain ⟨Cg, tyg, hwg⟩ := hM.blk
  have hlen' : (t.kids.set i k').length = t.kids.length := by simp
  refine ⟨⟨⟨_, fun j v hv => ?_, hV⟩, fun h => ?_, ⟨Cg, tyg, hgX.trans hwg⟩, fun y hy => ?_⟩, ⟨hfr.os, hfr.tape, hfr.output, hfr.size, fun y h1 h2 h3 => ?_, fun j _ => ?_, fun C' ty h => ⟨C', hgX.trans h⟩⟩⟩
  · rw [show ({ t with kids := t.kids.set i k' } : Tr).kids.length = t.kids.length from hlen'] at hv
    exact (World.cell?_of_block (a := ⟨g, o + j, none⟩) hgX).trans (hr j v hv)
  · rcases h with h | h
    · exact hM.nog h.1
    · exact (hFk g h).2 rfl
  · rcases hy with h | h
    · exact Nat.lt_of_lt_of_le (hM.lt y h.1) hfr.size
    · exact hMk.lt y h
  · exact hXw y h1 (fun e => h3 (by rw [e]; exact hFb)) (fun h => h3 (hFi y h).1)
  · exact World.cell?_of_block (a := ⟨g, j, none⟩) hgX
theorem MutAt.focus : ∀ {p : List Nat} {w : World} {g o : Nat} {t : Tr} {F : Nat → Prop} {g' o' : Nat} {x : Tr}, MutAt w g o t F → NodeAt w g o p g' o' → Tr.at? p t = some x →
    ∃ F' : Nat → Prop, MutAt w g' o' x F' ∧ (∀ y, F' y → F y) ∧ (g' = g ∨ F g') ∧ ∀ (w' : World) (x' : Tr) (Ft : Nat → Prop), Fr g' o' F' w w' → MutAt w' g' o' x' Ft → (∀ y, Ft y → F' y ∨ (¬ F y ∧ y ≠ g)) → ∃ Fn : Nat → Prop, MutAt w' g o (Tr.upd p t x') Fn ∧ Fr g o F w w' ∧ ∀ y, Fn y → F y ∨ Ft y
  | [], w, g, o, t, F, g', o', x, hM, hn, hx => by
    cases hn
    simp only [Tr.at?, Option.some.injEq] at hx
    subst hx
    exact ⟨F, hM, fun _ h => h, .inl rfl, fun w' x' Ft hfr hMx _ => ⟨Ft, hMx, hfr, fun y hy => .inr hy⟩⟩
  | i :: p, w, g, o, t, F, g', o', x, hM, hn, hx => by
    cases hn with
    | kid _ _ b ob n c _ _ _ _ h hi hr =>
      have hit : i < t.kids.length := by
        obtain ⟨A, c', hrr, _, _⟩ := hM.open
        have := hrr 3 _ rfl
        rw [h] at this; injection this with this; injection this with _ e _
        rw [← e]; exact hi
      obtain ⟨b', c', Fi, h', hMi, hFi, hFb, hset⟩ := hM.kid hit
      rw [h] at h'; injection h' with h'; injection h' with e1 e2 e3
      injection e1 with e1; injection e1 with e1 e4
      subst e1 e4
      rw [Nat.zero_add] at hr
      simp only [Tr.at?, List.getElem?_eq_getElem hit] at hx
      obtain ⟨F', h1, h2, h3, h4⟩ := MutAt.focus hMi hr hx
      refine ⟨F', h1, fun y hy => hFi y (h2 y hy), .inr ?_, fun w' x' Ft hfr hMx hFt => ?_⟩
      · rcases h3 with h3 | h3
        · rw [h3]; exact hFb
        · exact hFi _ h3
      · have hgb : b ≠ g := fun e => hM.nog (by rw [← e]; exact hFb)
        obtain ⟨Fn, h5, h6, h7⟩ := h4 w' x' Ft hfr hMx (fun y hy => by
          rcases hFt y hy with h | h
          · exact .inl h
          · exact .inr ⟨fun hf => h.1 (hFi y hf), fun e => h.1 (by rw [e]; exact hFb)⟩)
        have h8 := hset w' _ Fn h6 h5 (fun y hy => by
          rcases h7 y hy with h | h
          · exact ⟨.inl h, fun e => hM.nog (by rw [← e]; exact hFi y h)⟩
          · rcases hFt y h with h' | h'
            · exact ⟨.inl (h2 y h'), fun e => hM.nog (by rw [← e]; exact hFi y (h2 y h'))⟩
            · exact ⟨.inr h'.1, h'.2⟩)
        refine ⟨_, by simp only [Tr.upd, List.getElem?_eq_getElem hit]; exact h8.1, h8.2, fun y hy => ?_⟩
        rcases hy with h | h
        · exact .inl h.1
        · rcases h7 y h with h' | h'
          · exact .inl (hFi y h')
          · exact .inr h'
mutual
theorem Tr.path_at (id : Int) : ∀ (t : Tr) (p : List Nat), t.path id = some p → ∃ x, Tr.at? p t = some x ∧ x.id = id
  | ⟨i, k, x, ks⟩, p, h => by
    rw [Tr.path] at h
    split at h
    · rename_i e; cases h; exact ⟨_, rfl, e⟩
    · obtain ⟨j, q, y, rfl, ⟨k', hj, h1⟩, h2, _⟩ := pathL_at id ks 0 p h
      exact ⟨y, by simp only [Tr.at?, Nat.zero_add, hj]; exact h1, h2⟩
theorem pathL_at (id : Int) : ∀ (ks : List Tr) (n : Nat) (p : List Nat), pathL id ks n = some p → ∃ j q y, p = (n + j) :: q ∧ (∃ k, ks[j]? = some k ∧ Tr.at? q k = some y) ∧ y.id = id ∧ True
  | [], n, p, h => by simp [pathL] at h
  | k :: ks, n, p, h => by
    rw [pathL] at h
    cases hk : k.path id with
    | some q =>
      rw [hk] at h; simp at h
      obtain ⟨y, h1, h2⟩ := Tr.path_at id k q hk
      exact ⟨0, q, y, h.symm, ⟨k, rfl, h1⟩, h2, trivial⟩
    | none =>
      rw [hk] at h
      obtain ⟨j, q, y, e, ⟨k', h1, h2⟩, h3, _⟩ := pathL_at id ks (n + 1) p h
      exact ⟨j + 1, q, y, by rw [e]; congr 1; omega, ⟨k', by simpa using h1, h2⟩, h3, trivial⟩
end
end Go.Proofs.Ytofjocjljbkjgaa
