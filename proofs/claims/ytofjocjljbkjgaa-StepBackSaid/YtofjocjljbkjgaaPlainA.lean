import Derived.Test.YtofjocjljbkjgaaStepX
import Derived.Test.YtofjocjljbkjgaaStepC
/- Moves there and back, of trees without an id that stands twice. Plain laws. -/
set_option linter.unusedVariables false
set_option linter.unusedSimpArgs false
namespace Go.Proofs.Ytofjocjljbkjgaa
open Go.RowKit
mutual
def Tr.ids : Tr → List Int
  | ⟨i, _, _, ks⟩ => i :: idsL ks
def idsL : List Tr → List Int
  | [] => []
  | k :: ks => k.ids ++ idsL ks
end
theorem Tr.ids_eq (t : Tr) : t.ids = t.id :: idsL t.kids := by cases t; rfl
theorem idsL_append (a b : List Tr) : idsL (a ++ b) = idsL a ++ idsL b := by
  induction a with
  | nil => rfl
  | cons k a ih => simp only [List.cons_append, idsL, ih, List.append_assoc]
mutual
theorem Tr.walk_ids : ∀ (t : Tr) (d : Int), (t.walk d).map (·.1.id) = t.ids
  | ⟨i, k, x, ks⟩, d => by simp only [Tr.walk, Tr.ids, List.map_cons, walkL_ids ks (d + 1)]
theorem walkL_ids : ∀ (ks : List Tr) (d : Int), (walkL ks d).map (·.1.id) = idsL ks
  | [], _ => rfl
  | k :: ks, d => by simp only [walkL, idsL, List.map_append, Tr.walk_ids k d, walkL_ids ks d]
end
mutual
theorem Tr.path_iff (id : Int) : ∀ t : Tr, (t.path id).isSome = true ↔ id ∈ t.ids
  | ⟨i, k, x, ks⟩ => by
    rw [Tr.path, Tr.ids]
    by_cases h : i = id
    · simp [h]
    · rw [if_neg h, pathL_iff id ks 0]; simp [Ne.symm h]
theorem pathL_iff (id : Int) : ∀ (ks : List Tr) (n : Nat), (pathL id ks n).isSome = true ↔ id ∈ idsL ks
  | [], _ => by simp [pathL, idsL]
  | k :: ks, n => by
    rw [pathL, idsL, List.mem_append, ← Tr.path_iff id k, ← pathL_iff id ks (n + 1)]
    cases k.path id <;> simp
end
theorem path_none {id : Int} {t : Tr} (h : id ∉ t.ids) : t.path id = none := by
  cases hp : t.path id with
  | none => rfl
  | some p => exact absurd ((Tr.path_iff id t).1 (by rw [hp]; rfl)) h
theorem path_some {id : Int} {t : Tr} (h : id ∈ t.ids) : ∃ p, t.path id = some p := by
  have := (Tr.path_iff id t).2 h
  cases hp : t.path id with
  | none => rw [hp] at this; cases this
  | some p => exact ⟨p, rfl⟩
mutual
theorem Tr.out_perm (id : Int) : ∀ (t y r : Tr), t.out id = some (y, r) → t.ids.Perm (r.ids ++ y.ids) ∧ y.id = id ∧ r.id = t.id
  | ⟨i, k, x, ks⟩, y, r, h => by
    rw [Tr.out] at h
    cases h1 : outL id ks with
    | none => rw [h1] at h; cases h
    | some z =>
      obtain ⟨z1, z2⟩ := z
      rw [h1] at h
      simp at h
      obtain ⟨rfl, rfl⟩ := h
      obtain ⟨h2, h3⟩ := outL_perm id ks z1 z2 h1
      exact ⟨by simp only [Tr.ids, List.cons_append]; exact h2.cons _, h3, rfl⟩
theorem outL_perm (id : Int) : ∀ (ks : List Tr) (y : Tr) (rs : List Tr), outL id ks = some (y, rs) → (idsL ks).Perm (idsL rs ++ y.ids) ∧ y.id = id
  | [], y, rs, h => by simp [outL] at h
  | k :: ks, y, rs, h => by
    rw [outL] at h
    by_cases hk : k.id = id
    · rw [if_pos hk] at h; simp at h; obtain ⟨rfl, rfl⟩ := h; exact ⟨by simp only [idsL]; exact List.perm_append_comm, hk⟩
    · rw [if_neg hk] at h
      cases h1 : k.out id with
      | some z =>
        obtain ⟨z1, z2⟩ := z
        rw [h1] at h; simp at h; obtain ⟨rfl, rfl⟩ := h
        obtain ⟨h2, h3, _⟩ := Tr.out_perm id k z1 z2 h1
        refine ⟨?_, h3⟩
        simp only [idsL, List.append_assoc]
        refine (h2.append_right _).trans ?_
        rw [List.append_assoc]
        exact (List.perm_append_comm).append_left _
      | none =>
        rw [h1] at h
        cases h2 : outL id ks with
        | none => rw [h2] at h; cases h
        | some z =>
          obtain ⟨z1, z2⟩ := z
          rw [h2] at h; simp at h; obtain ⟨rfl, rfl⟩ := h
          obtain ⟨h3, h4⟩ := outL_perm id ks z1 z2 h2
          refine ⟨?_, h4⟩
          simp only [idsL, List.append_assoc]
          exact h3.append_left _
end
mutual
theorem Tr.out_path (id : Int) : ∀ (t y r : Tr), t.out id = some (y, r) → t.id ≠ id → ∃ p, t.path id = some p ∧ Tr.at? p t = some y
  | ⟨i, k, x, ks⟩, y, r, h, hne => by
    rw [Tr.out] at h
    cases h1 : outL id ks with
    | none => rw [h1] at h; cases h
    | some z =>
      obtain ⟨z1, z2⟩ := z
      rw [h1] at h
      simp at h
      obtain ⟨rfl, rfl⟩ := h
      obtain ⟨j, q, kk, h2, h3, h4⟩ := outL_path id ks z1 z2 0 h1
      rw [Nat.zero_add] at h2
      exact ⟨j :: q, by rw [Tr.path, if_neg hne]; exact h2, by simp only [Tr.at?, h3]; exact h4⟩
theorem outL_path (id : Int) : ∀ (ks : List Tr) (y : Tr) (rs : List Tr) (n : Nat), outL id ks = some (y, rs) → ∃ j q kk, pathL id ks n = some ((n + j) :: q) ∧ ks[j]? = some kk ∧ Tr.at? q kk = some y
  | [], y, rs, n, h => by simp [outL] at h
  | k :: ks, y, rs, n, h => by
    rw [outL] at h
    by_cases hk : k.id = id
    · rw [if_pos hk] at h; simp at h; obtain ⟨rfl, rfl⟩ := h
      exact ⟨0, [], k, by rw [pathL, Tr.path_eq, if_pos hk]; rfl, rfl, rfl⟩
    · rw [if_neg hk] at h
      cases h1 : k.out id with
      | some z =>
        obtain ⟨z1, z2⟩ := z
        rw [h1] at h; simp at h; obtain ⟨rfl, rfl⟩ := h
        obtain ⟨p, h2, h3⟩ := Tr.out_path id k z1 z2 h1 hk
        exact ⟨0, p, k, by rw [pathL, h2]; rfl, rfl, h3⟩
      | none =>
        rw [h1] at h
        cases h2 : outL id ks with
        | none => rw [h2] at h; cases h
        | some z =>
          obtain ⟨z1, z2⟩ := z
          rw [h2] at h; simp at h; obtain ⟨rfl, rfl⟩ := h
          have hp : k.path id = none := by
            cases hp : k.path id with
            | none => rfl
            | some p => have := Tr.path_out id k (by rw [hp]; rfl) hk; rw [h1] at this; cases this
          obtain ⟨j, q, kk, h3, h4, h5⟩ := outL_path id ks z1 z2 (n + 1) h2
          exact ⟨j + 1, q, kk, by rw [pathL, hp]; simp only []; rw [h3]; congr 2; omega, by simpa using h4, h5⟩
end
theorem out_none {id : Int} {t : Tr} (h : id ∉ t.ids) : t.out id = none := by
  cases ho : t.out id with
  | none => rfl
  | some yr =>
    obtain ⟨y, r⟩ := yr
    obtain ⟨h1, h2, _⟩ := Tr.out_perm id t y r ho
    exact absurd (h1.mem_iff.2 (by rw [List.mem_append, Tr.ids_eq y, h2]; simp)) h
theorem mem_idsL {ks : List Tr} {k : Tr} (h : k ∈ ks) {x : Int} (hx : x ∈ k.ids) : x ∈ idsL ks := by
  induction ks with
  | nil => cases h
  | cons a ks ih =>
    simp only [idsL, List.mem_append]
    rcases List.mem_cons.1 h with rfl | h
    · exact .inl hx
    · exact .inr (ih h)
theorem id_mem (t : Tr) : t.id ∈ t.ids := by rw [Tr.ids_eq]; simp
theorem erase_insAt {α : Type} (l : List α) (p : Nat) (x : α) (h : p ≤ l.length) : (insAt l p x).eraseIdx p = l := by
  unfold insAt
  rw [List.eraseIdx_append_of_length_le (by simp; omega)]
  simp [Nat.min_eq_left h]
theorem insAt_erase {α : Type} (l : List α) (p : Nat) (h : p < l.length) : insAt (l.eraseIdx p) p l[p] = l := by
  unfold insAt
  rw [List.eraseIdx_eq_take_drop_succ, List.take_append_of_le_length (by simp; omega), List.take_take, Nat.min_self, List.drop_append_of_le_length (by simp; omega)]
  simp [List.drop_take]
theorem Tr.eta (r : Tr) : (⟨r.id, r.kind, r.text, r.kids⟩ : Tr) = r := by cases r; rfl
/-- What was put in is taken out. -/
theorem out_of_put (id : Int) (y : Tr) (hy : y.id = id) (k : Nat) : ∀ (q : List Nat) (r n : Tr), Tr.at? q r = some n → k ≤ n.kids.length → id ∉ r.ids → (Tr.upd q r { n with kids := insAt n.kids k y }).out id = some (y, r) ∧ (Tr.upd q r { n with kids := insAt n.kids k y }).id = r.id ∧ (Tr.upd q r { n with kids := insAt n.kids k y }).ids.Perm (r.ids ++ y.ids)
  | [], r, n, hn, hk, hid => by
    simp only [Tr.at?, Option.some.injEq] at hn
    subst hn
    simp only [Tr.upd]
    rw [Tr.ids_eq] at hid
    simp only [List.mem_cons, not_or] at hid
    have hj : ∀ (j : Nat) (hj : j < r.kids.length), (r.kids[j]).id ≠ id ∧ (r.kids[j]).out id = none := fun j hj => by
      have hm : id ∉ (r.kids[j]).ids := fun h => hid.2 (mem_idsL (List.getElem_mem hj) h)
      exact ⟨fun e => hm (by rw [← e]; exact id_mem _), out_none hm⟩
    have hlen := insAt_length r.kids k y hk
    have hg : (insAt r.kids k y)[k]'(by omega) = y := by
      have := insAt_get r.kids k y hk k
      rw [List.getElem?_eq_getElem (by omega)] at this; simpa using this
    have hg2 : ∀ (j : Nat) (h : j < k), (insAt r.kids k y)[j]'(by omega) = r.kids[j]'(by omega) := fun j h => by
      have := insAt_get r.kids k y hk j
      rw [List.getElem?_eq_getElem (by omega), if_pos h, List.getElem?_eq_getElem (by omega)] at this; simpa using this
    refine ⟨?_, trivial, ?_⟩
    · rw [Tr.out_eq]
      simp only []
      rw [outL_here id (insAt r.kids k y) k (by omega) (by rw [hg]; exact hy) (fun j h => by rw [hg2 j h]; exact hj j (by omega))]
      simp only [hg, erase_insAt _ _ _ hk, Tr.eta]
    · rw [Tr.ids_eq, Tr.ids_eq r]
      simp only [List.cons_append]
      refine List.Perm.cons _ ?_
      unfold insAt
      have e : idsL r.kids = idsL (r.kids.take k) ++ idsL (r.kids.drop k) := by rw [← idsL_append, List.take_append_drop]
      rw [idsL_append, e, List.append_assoc]
      refine List.Perm.append_left _ ?_
      simp only [idsL]
      exact List.perm_append_comm
  | i :: q, r, n, hn, hk, hid => by
    simp only [Tr.at?] at hn
    cases hki : r.kids[i]? with
    | none => rw [hki] at hn; cases hn
    | some kk =>
      rw [hki] at hn
      simp only [] at hn
      have hi := (List.getElem?_eq_some_iff.1 hki).1
      have hkk : r.kids[i] = kk := (List.getElem?_eq_some_iff.1 hki).2
      rw [Tr.ids_eq] at hid
      simp only [List.mem_cons, not_or] at hid
      have hj : ∀ (j : Nat) (hj : j < r.kids.length), id ∉ (r.kids[j]).ids := fun j hj h => hid.2 (mem_idsL (List.getElem_mem hj) h)
      obtain ⟨h1, h2, h3⟩ := out_of_put id y hy k q kk n hn hk (by rw [← hkk]; exact hj i hi)
      simp only [Tr.upd, hki]
      refine ⟨?_, trivial, ?_⟩
      · rw [Tr.out_eq]
        simp only []
        rw [outL_in id y kk (r.kids.set i _) i (by simpa using hi) (by simp only [List.getElem_set_self]; rw [h2, ← hkk]; exact fun e => hj i hi (by rw [← e]; exact id_mem _)) (by simp only [List.getElem_set_self]; exact h1) (fun j h => by
          rw [List.getElem_set_ne (by omega)]
          exact ⟨fun e => hj j (by omega) (by rw [← e]; exact id_mem _), out_none (hj j (by omega))⟩)]
        simp only [List.set_set]
        have e : r.kids.set i kk = r.kids := by rw [← hkk, List.set_getElem_self]
        rw [e, Tr.eta]
      · rw [Tr.ids_eq, Tr.ids_eq r]
        simp only [List.cons_append]
        refine List.Perm.cons _ ?_
        have e : r.kids = r.kids.take i ++ kk :: r.kids.drop (i + 1) := by rw [← hkk]; simp
        have e2 : ∀ z : Tr, r.kids.set i z = r.kids.take i ++ z :: r.kids.drop (i + 1) := fun z => by rw [List.set_eq_take_append_cons_drop, if_pos hi]
        rw [e2]
        conv => rhs; rw [e]
        rw [idsL_append, idsL_append]
        simp only [idsL, List.append_assoc]
        refine List.Perm.append_left _ ?_
        refine (h3.append_right _).trans ?_
        rw [List.append_assoc]
        exact (List.perm_append_comm).append_left _
/-! ### Where a node stood, and back there -/
theorem placeL_append (id : Int) : ∀ (a b : List (Tr × Int)), placeL id (a ++ b) = match placeL id a with | some z => some z | none => placeL id b
  | [], b => rfl
  | x :: a, b => by
    simp only [List.cons_append, placeL]
    cases kidOf id x.1.kids 0 with
    | some i => rfl
    | none => exact placeL_append id a b
theorem kidOf_absent (id : Int) (ks : List Tr) (n : Nat) (h : id ∉ idsL ks) : kidOf id ks n = none :=
  kidOf_none id ks n (fun j hj e => h (mem_idsL (List.getElem_mem hj) (by rw [← e]; exact id_mem _)))
mutual
theorem place_absent (id : Int) : ∀ (t : Tr) (d : Int), id ∉ idsL t.kids → placeL id (t.walk d) = none
  | ⟨i, k, x, ks⟩, d, h => by
    simp only [Tr.walk, placeL]
    rw [kidOf_absent id ks 0 h]
    exact placeL_absent id ks (d + 1) h
theorem placeL_absent (id : Int) : ∀ (ks : List Tr) (d : Int), id ∉ idsL ks → placeL id (walkL ks d) = none
  | [], _, _ => rfl
  | k :: ks, d, h => by
    simp only [idsL, List.mem_append, not_or] at h
    simp only [walkL]
    rw [placeL_append, place_absent id k d (fun hm => h.1 (by rw [Tr.ids_eq]; simp [hm]))]
    exact placeL_absent id ks d h.2
end
/-- A node that is taken out stood at a place of a node that is left, and put there again makes the tree. -/
def Stood (id : Int) (t y r : Tr) (z : Option (Int × Nat)) : Prop :=
  ∃ P k q n, z = some (P, k) ∧ P ∈ r.ids ∧ r.path P = some q ∧ Tr.at? q r = some n ∧ k ≤ n.kids.length ∧ Tr.upd q r { n with kids := insAt n.kids k y } = t
theorem nodup_apart {a b : List Int} (h : (a ++ b).Nodup) {x : Int} (ha : x ∈ a) (hb : x ∈ b) : False := by
  rw [List.nodup_append] at h
  exact h.2.2 x ha x hb rfl
mutual
theorem stood (id : Int) : ∀ (t y r : Tr) (d : Int), t.out id = some (y, r) → t.ids.Nodup → Stood id t y r (placeL id (t.walk d))
  | ⟨i0, k0, x0, ks⟩, y, r, d, h, hnd => by
    rw [Tr.out] at h
    cases h1 : outL id ks with
    | none => rw [h1] at h; cases h
    | some z =>
      obtain ⟨z1, z2⟩ := z
      rw [h1] at h
      simp at h
      obtain ⟨rfl, rfl⟩ := h
      simp only [Tr.ids, List.nodup_cons] at hnd
      simp only [Tr.walk, placeL]
      rcases stoodL id ks z1 z2 (d + 1) h1 hnd.2 with ⟨k, h2, h3, h4⟩ | ⟨h2, P, k, j, q, kk, n, h3, h4, h5, h6, h7, h8, h9, h10⟩
      · rw [h2 0]
        refine ⟨i0, 0 + k, [], _, rfl, by simp [Tr.ids], by rw [Tr.path_eq, if_pos rfl], rfl, by simpa using h3, ?_⟩
        simp only [Tr.upd, Nat.zero_add]
        rw [h4]
      · rw [h2 0]
        have hP : P ∈ idsL z2 := h4
        have hne : i0 ≠ P := fun e => hnd.1 (by
          obtain ⟨hp, _⟩ := outL_perm id ks z1 z2 h1
          rw [hp.mem_iff, e]; simp [hP])
        refine ⟨P, k, j :: q, n, h3, by simp [Tr.ids, hP], ?_, ?_, h9, ?_⟩
        · rw [Tr.path_eq, if_neg hne]
          have := h5 0
          simpa using this
        · simp only [Tr.at?, h6]; exact h7
        · simp only [Tr.upd, h6]
          rw [h10]
theorem stoodL (id : Int) : ∀ (ks : List Tr) (y : Tr) (rs : List Tr) (d : Int), outL id ks = some (y, rs) → (idsL ks).Nodup →
    (∃ k, (∀ m, kidOf id ks m = some (m + k)) ∧ k ≤ rs.length ∧ insAt rs k y = ks) ∨
    ((∀ m, kidOf id ks m = none) ∧ ∃ P k j q kk n, placeL id (walkL ks d) = some (P, k) ∧ P ∈ idsL rs ∧ (∀ m, pathL P rs m = some ((m + j) :: q)) ∧ rs[j]? = some kk ∧ Tr.at? q kk = some n ∧ True ∧ k ≤ n.kids.length ∧ rs.set j (Tr.upd q kk { n with kids := insAt n.kids k y }) = ks)
  | [], y, rs, d, h, _ => by simp [outL] at h
  | k0 :: ks, y, rs, d, h, hnd => by
    rw [outL] at h
    by_cases hk : k0.id = id
    · rw [if_pos hk] at h; simp at h; obtain ⟨rfl, rfl⟩ := h
      exact .inl ⟨0, fun m => by rw [kidOf, if_pos hk]; rfl, Nat.zero_le _, by simp [insAt]⟩
    · rw [if_neg hk] at h
      simp only [idsL] at hnd
      cases h1 : k0.out id with
      | some z =>
        obtain ⟨z1, z2⟩ := z
        rw [h1] at h; simp at h; obtain ⟨rfl, rfl⟩ := h
        obtain ⟨hperm, hyid, _⟩ := Tr.out_perm id k0 z1 z2 h1
        have hin : id ∈ k0.ids := by rw [hperm.mem_iff, List.mem_append, Tr.ids_eq z1, hyid]; simp
        have hnks : id ∉ idsL ks := fun hm => nodup_apart hnd hin hm
        obtain ⟨P, k, q, n, h2, h3, h4, h5, h6, h7⟩ := stood id k0 z1 z2 d h1 (List.nodup_append.1 hnd).1
        refine .inr ⟨fun m => by rw [kidOf, if_neg hk]; exact kidOf_absent id ks _ hnks, P, k, 0, q, z2, n, ?_, by simp [idsL, h3], fun m => by rw [pathL, h4]; rfl, rfl, h5, trivial, h6, by simp [h7]⟩
        simp only [walkL]
        rw [placeL_append, h2]
      | none =>
        rw [h1] at h
        cases h2 : outL id ks with
        | none => rw [h2] at h; cases h
        | some z =>
          obtain ⟨z1, z2⟩ := z
          rw [h2] at h; simp at h; obtain ⟨rfl, rfl⟩ := h
          obtain ⟨hperm, hyid⟩ := outL_perm id ks z1 z2 h2
          have hin : id ∈ idsL ks := by rw [hperm.mem_iff, List.mem_append, Tr.ids_eq z1, hyid]; simp
          have hnk : id ∉ k0.ids := fun hm => nodup_apart hnd hm hin
          rcases stoodL id ks z1 z2 d h2 (List.nodup_append.1 hnd).2.1 with ⟨k, h3, h4, h5⟩ | ⟨h3, P, k, j, q, kk, n, h4, h5, h6, h7, h8, h9, h10, h11⟩
          · exact .inl ⟨k + 1, fun m => by rw [kidOf, if_neg hk, h3]; congr 1; omega, by simp; omega, by simp only [insAt, List.take_succ_cons, List.drop_succ_cons, List.cons_append]; rw [← h5]; rfl⟩
          · have hPks : P ∈ idsL ks := by rw [hperm.mem_iff]; simp [h5]
            refine .inr ⟨fun m => by rw [kidOf, if_neg hk]; exact h3 _, P, k, j + 1, q, kk, n, ?_, by simp [idsL, h5], fun m => ?_, by simpa using h7, h8, trivial, h10, by simp [h11]⟩
            · simp only [walkL]
              rw [placeL_append, place_absent id k0 d (fun hm => hnk (by rw [Tr.ids_eq]; simp [hm]))]
              exact h4
            · rw [pathL, path_none (fun hm => nodup_apart hnd hm hPks)]
              simp only []
              rw [h6]; congr 2; omega
end
/-- A move there and back. -/
theorem move_back {t t' : Tr} {id par pl : Int} (hnd : t.ids.Nodup) (h : moveT t id par pl = .ok t') : ∃ P k, placeL id (t.walk 1) = some (P, k) ∧ moveT t' id P (k : Nat) = .ok t ∧ t'.ids.Perm t.ids := by
  unfold moveT at h
  split at h
  · rename_i p p2 hp hp2
    split at h
    · cases h
    · rename_i hroot
      split at h
      · cases h
      · rename_i x hx
        split at h
        · cases h
        · rename_i hloop
          split at h
          · cases h
          · rename_i y r ho
            split at h
            · cases h
            · rename_i q hq
              split at h
              · cases h
              · rename_i n hn
                split at h
                · rename_i hpl
                  injection h with h
                  subst h
                  obtain ⟨hperm, hy, hrid⟩ := Tr.out_perm id t y r ho
                  have hnd2 : (r.ids ++ y.ids).Nodup := hperm.nodup_iff.1 hnd
                  have hidr : id ∉ r.ids := fun hm => nodup_apart hnd2 hm (by rw [Tr.ids_eq y, hy]; simp)
                  obtain ⟨h1, h2, h3⟩ := out_of_put id y hy pl.toNat q r n hn (by omega) hidr
                  obtain ⟨P, k, q', n', e1, e2, e3, e4, e5, e6⟩ := stood id t y r 1 ho hnd
                  refine ⟨P, k, e1, ?_, h3.trans hperm.symm⟩
                  have hroot' : (Tr.upd q r { n with kids := insAt n.kids pl.toNat y }).id ≠ id := by rw [h2, hrid]; exact hroot
                  obtain ⟨p', g1, g2⟩ := Tr.out_path id _ y r h1 hroot'
                  obtain ⟨p'', g3⟩ := path_some (id := P) (t := Tr.upd q r { n with kids := insAt n.kids pl.toNat y }) (by rw [h3.mem_iff]; simp [e2])
                  have hPy : y.path P = none := path_none (fun hm => nodup_apart hnd2 e2 hm)
                  unfold moveT
                  rw [g1, g3]
                  simp only [hroot', if_false, g2, hPy, Option.isSome_none, Bool.false_eq_true, h1, e3, e4]
                  rw [if_pos (by omega)]
                  simp only [Int.toNat_natCast]
                  rw [e6]
                · cases h
  · cases h
end Go.Proofs.Ytofjocjljbkjgaa
