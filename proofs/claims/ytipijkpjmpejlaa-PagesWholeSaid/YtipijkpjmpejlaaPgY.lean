import Derived.Test.YtipijkpjmpejlaaPgW
/- The plain law of PagesWhole, first part: the reader's steps as a chain; parts that are written. -/
set_option linter.unusedVariables false
set_option linter.unusedSimpArgs false
namespace Go.Proofs.Ytipijkpjmpejlaa
open Go.RowKit
theorem loads_congr {S S' : Int → List Int} {half : Int} {used : Nat} : ∀ m, (∀ i, i < m → sct S' half used i = sct S half used i) → loads S' half used m = loads S half used m
  | 0, _ => rfl
  | m + 1, h => by rw [loads_succ, loads_succ, loads_congr m (fun i hi => h i (by omega)), h m (by omega)]
theorem recAt_parts {S : Int → List Int} {g half most last : Int} {k used n : Nat} {boot : Int} {r : List Int} (h : recAt S g half most last k used = some (n, boot, r)) :
    num4 (sct S half used 0) 1 = boot ∧ num4 (sct S half used 0) 4 = n ∧ ∀ i, i < n → used + i < 1024 ∧ num4 (sct S half used i) 0 = g % 4294967296 ∧ num4 (sct S half used i) 1 = boot ∧ num4 (sct S half used i) 2 = ((k : Int) + 1) % 4294967296 ∧ num4 (sct S half used i) 3 = i ∧ num4 (sct S half used i) 4 = n := by
  unfold recAt at h
  dsimp only at h
  split at h
  · cases h
  · rename_i h1
    split at h
    · rename_i h2
      simp only [Option.some.injEq, Prod.mk.injEq] at h
      obtain ⟨rfl, rfl, rfl⟩ := h
      simp only [Bool.and_eq_true, List.all_eq_true, List.mem_range] at h2
      refine ⟨rfl, by omega, fun i hi => ?_⟩
      have h3 := h2.1 i hi
      simp only [partOk, Bool.and_eq_true, decide_eq_true_eq, nums_list, beq_iff_eq, List.cons.injEq, and_true] at h3
      obtain ⟨a, b, c, d, e, f⟩ := h3
      exact ⟨a, b, c, d, e, by omega⟩
    · cases h
theorem recAt_local {S S' : Int → List Int} {g half most most' last : Int} {k used n : Nat} {boot : Int} {r : List Int} (h : recAt S g half most last k used = some (n, boot, r)) (he : ∀ i, i < n → sct S' half used i = sct S half used i) (hm : boot ≤ most') :
    recAt S' g half most' last k used = some (n, boot, r) := by
  have hf := recAt_facts h
  obtain ⟨p1, p2, p3⟩ := recAt_parts h
  unfold recAt at h ⊢
  dsimp only at h ⊢
  have e0 := he 0 (by omega)
  have en : (num4 (sct S half used 0) 4).toNat = n := by omega
  rw [e0]
  rw [en] at h ⊢
  rw [loads_congr n he]
  rw [if_neg (by omega)] at h ⊢
  split at h
  · rename_i h2
    rw [if_pos]
    · exact h
    · simp only [Bool.and_eq_true, List.all_eq_true, List.mem_range] at h2 ⊢
      refine ⟨fun i hi => ?_, h2.2⟩
      have := h2.1 i hi
      unfold partOk at this ⊢
      rw [he i hi]
      exact this
  · cases h
theorem recAt_none {S : Int → List Int} {g half most last : Int} {k used : Nat} (h : ∀ n boot r, recAt S g half most last k used ≠ some (n, boot, r)) : recAt S g half most last k used = none := by
  cases hr : recAt S g half most last k used with
  | none => rfl
  | some t => obtain ⟨n, b, r⟩ := t; exact absurd hr (h n b r)
/-- The steps of the reader. -/
inductive Chain (S : Int → List Int) (g half most : Int) : Int → Nat → List (List Int) → Int → Nat → List (List Int) → Prop
  | refl (last : Int) (used : Nat) (rs : List (List Int)) : Chain S g half most last used rs last used rs
  | step {last : Int} {used : Nat} {rs : List (List Int)} {n : Nat} {boot : Int} {r : List Int} {last' : Int} {used' : Nat} {rs' : List (List Int)} : recAt S g half most last rs.length used = some (n, boot, r) → Chain S g half most boot (used + n) (rs ++ [r]) last' used' rs' → Chain S g half most last used rs last' used' rs'
theorem Chain.le {S : Int → List Int} {g half most last last' : Int} {used used' : Nat} {rs rs' : List (List Int)} (h : Chain S g half most last used rs last' used' rs') : used ≤ used' ∧ rs'.length + used ≤ rs.length + used' ∧ last ≤ last' ∧ (used ≤ 1024 → used' ≤ 1024) := by
  induction h with
  | refl => exact ⟨Nat.le_refl _, Nat.le_refl _, Int.le_refl _, id⟩
  | step h1 _ ih =>
    have := recAt_facts h1
    simp only [List.length_append, List.length_cons, List.length_nil] at ih
    omega
theorem Chain.snoc {S : Int → List Int} {g half most last last' boot : Int} {used used' n : Nat} {rs rs' : List (List Int)} {r : List Int} (h : Chain S g half most last used rs last' used' rs') (hr : recAt S g half most last' rs'.length used' = some (n, boot, r)) : Chain S g half most last used rs boot (used' + n) (rs' ++ [r]) := by
  induction h with
  | refl => exact .step hr (.refl _ _ _)
  | step h1 _ ih => exact .step h1 (ih hr)
theorem Chain.near {S S' : Int → List Int} {g half most most' last last' : Int} {used used' : Nat} {rs rs' : List (List Int)} (h : Chain S g half most last used rs last' used' rs') (he : ∀ j : Nat, used ≤ j → j < used' → S' (1 + half * 1024 + j) = S (1 + half * 1024 + j)) (hm : last' ≤ most') : Chain S' g half most' last used rs last' used' rs' := by
  induction h with
  | refl => exact .refl _ _ _
  | @step last used rs n boot r last' used' rs' h1 h2 ih =>
    have l := h2.le
    refine .step (recAt_local h1 (fun i hi => ?_) (by omega)) (ih (fun j a b => he j (by omega) b) hm)
    unfold sct
    have e : (1 + half * 1024 + (used : Int) + i) = 1 + half * 1024 + ((used + i : Nat) : Int) := by omega
    rw [e]
    exact he _ (by omega) (by omega)
theorem scan_chain {S : Int → List Int} {g half most last last' : Int} {used used' : Nat} {rs rs' : List (List Int)} (h : Chain S g half most last used rs last' used' rs') : recAt S g half most last' rs'.length used' = none → used ≤ 1024 → ∀ f, 1024 < f + used → scan S g half most f last used rs = (rs', used') := by
  induction h with
  | refl last used rs =>
    intro hn hu f hf
    obtain ⟨m, rfl⟩ : ∃ m, f = m + 1 := ⟨f - 1, by omega⟩
    unfold scan
    rw [hn]
  | @step last used rs n boot r last' used' rs' h1 h2 ih =>
    intro hn hu f hf
    have hfa := recAt_facts h1
    obtain ⟨m, rfl⟩ : ∃ m, f = m + 1 := ⟨f - 1, by omega⟩
    unfold scan
    rw [h1]
    exact ih hn (by omega) m (by omega)
theorem nums_b20 (a b c d e : Int) (l : List Int) (ha : 0 ≤ a ∧ a < 4294967296) (hb : 0 ≤ b ∧ b < 4294967296) (hc : 0 ≤ c ∧ c < 4294967296) (hd : 0 ≤ d ∧ d < 4294967296) (he : 0 ≤ e ∧ e < 4294967296) :
    num4 (b20 a b c d e ++ l) 0 = a ∧ num4 (b20 a b c d e ++ l) 1 = b ∧ num4 (b20 a b c d e ++ l) 2 = c ∧ num4 (b20 a b c d e ++ l) 3 = d ∧ num4 (b20 a b c d e ++ l) 4 = e := by
  refine ⟨?_, ?_, ?_, ?_, ?_⟩ <;>
  · unfold num4
    rw [numTo_append _ _ _ _ (by simp [b20, be4])]
    simp only [numTo, b20, be4, List.cons_append, List.nil_append, List.getD_cons_succ, List.getD_cons_zero, Nat.reduceMul, Nat.reduceAdd]
    omega
theorem partW_len (x : Img) (record : Int) (at' n : Nat) (b : List Int) (i : Nat) : (partW x record at' n b i).2.length = 64 := by
  show (b20 _ _ _ _ _ ++ partLd b i).length = 64
  rw [List.length_append, partLd_len]; rfl
theorem sec_parts (x : Img) (record : Int) (at' n : Nat) (b : List Int) (L : List (Int × List Int)) : ∀ (o : Nat) (k : Int), secOf (L ++ (List.range o).map (fun i => padW (partW x record at' n b i))) k = if 1 + x.half * 1024 + at' ≤ k ∧ k < 1 + x.half * 1024 + at' + o then (partW x record at' n b (k - (1 + x.half * 1024 + at')).toNat).2 else secOf L k
  | 0, k => by rw [if_neg (by omega)]; simp
  | o + 1, k => by
    rw [List.range_succ, List.map_append, ← List.append_assoc]
    show secOf (_ ++ [(1 + x.half * 1024 + at' + o, padB (partW x record at' n b o).2)]) k = _
    rw [secOf_snoc, sec_parts x record at' n b L o k, padB_full (partW_len _ _ _ _ _ _)]
    by_cases hk : k = 1 + x.half * 1024 + at' + o
    · rw [if_pos hk, if_pos (by omega)]
      have e : (k - (1 + x.half * 1024 + at')).toNat = o := by omega
      rw [e]
    · rw [if_neg hk]
      by_cases h2 : 1 + x.half * 1024 + at' ≤ k ∧ k < 1 + x.half * 1024 + at' + o
      · rw [if_pos h2, if_pos (by omega)]
      · rw [if_neg h2, if_neg (by omega)]
/-- A record of which some parts are written, not all. -/
theorem part_none {S S' : Int → List Int} {g half b last : Int} {k used n o : Nat} {x : List Int} (ho : o < n) (hold : recAt S g half b last k used = none)
    (hnew : ∀ i, i < o → sct S' half used i = b20 g b (k + 1) i n ++ partLd x i) (hsame : ∀ i, o ≤ i → sct S' half used i = sct S half used i)
    (hcl : ∀ j : Nat, j < 1024 → used ≤ j → ¬ (num4 (S (1 + half * 1024 + j)) 0 = g ∧ num4 (S (1 + half * 1024 + j)) 1 = b ∧ (k : Int) < num4 (S (1 + half * 1024 + j)) 2))
    (hg : 0 ≤ g ∧ g < 4294967296) (hb : 0 ≤ b ∧ b < 4294967296) (hk : k < 2147483648) (hn : n < 2147483648) : recAt S' g half b last k used = none := by
  refine recAt_none fun n' boot r hr => ?_
  by_cases h0 : o = 0
  · have := recAt_local hr (S' := S) (most' := b) (fun i hi => (hsame i (by omega)).symm) (recAt_facts hr).2.2.1
    rw [hold] at this
    cases this
  · obtain ⟨p1, p2, p3⟩ := recAt_parts hr
    obtain ⟨m0, m1, m2, m3, m4⟩ := nums_b20 g b ((k : Int) + 1) ((0 : Nat) : Int) n (partLd x 0) hg hb (by omega) (by omega) (by omega)
    rw [hnew 0 (by omega)] at p1 p2
    rw [m1] at p1
    rw [m4] at p2
    obtain ⟨q, q0, q1, q2, _⟩ := p3 o (by omega)
    rw [hsame o (Nat.le_refl _)] at q0 q1 q2
    unfold sct at q0 q1 q2
    have e : (1 + half * 1024 + (used : Int) + o) = 1 + half * 1024 + ((used + o : Nat) : Int) := by omega
    rw [e] at q0 q1 q2
    exact hcl (used + o) q (by omega) ⟨by omega, by omega, by omega⟩
theorem loads_parts {S' : Int → List Int} {g half b k1 : Int} {used n : Nat} {x : List Int} : ∀ m, (∀ i, i < m → sct S' half used i = b20 g b k1 i n ++ partLd x i) → loads S' half used m = (be4 x.length ++ x).take (44 * m) ++ List.replicate (44 * m - (be4 x.length ++ x).length) 0
  | 0, _ => by simp [loads]
  | m + 1, h => by
    rw [loads_succ, loads_parts m (fun i hi => h i (by omega)), h m (by omega)]
    have e : (b20 g b k1 m n ++ partLd x m).drop 20 = partLd x m := List.drop_left' rfl
    rw [e]
    unfold partLd padP
    generalize be4 x.length ++ x = T
    by_cases hT : T.length ≤ 44 * m
    · have e1 : (T.drop (44 * m)) = [] := List.drop_eq_nil_of_le hT
      have e2 : 44 * m - T.length + 44 = 44 * (m + 1) - T.length := by omega
      rw [e1, List.take_of_length_le hT, List.take_of_length_le (show T.length ≤ 44 * (m + 1) by omega)]
      simp only [List.take_nil, List.nil_append, List.length_nil, List.append_assoc, List.replicate_append_replicate, Nat.sub_zero, e2]
    · have e1 : 44 * m - T.length = 0 := by omega
      have e2 : 44 * (m + 1) = 44 * m + 44 := by omega
      rw [e1, e2, List.take_add]
      simp only [List.replicate_zero, List.append_nil, List.append_assoc, List.length_take, List.length_drop]
      congr 3
      omega
/-- A record that is written whole. -/
theorem part_some {S' : Int → List Int} {g half b last : Int} {k used n : Nat} {x : List Int} (hl : x.length ≤ 32768) (hn : n = (partsN x.length).toNat) (hu : used + n ≤ 1024) (hlast : last ≤ b)
    (hnew : ∀ i, i < n → sct S' half used i = b20 g b (k + 1) i n ++ partLd x i) (hg : 0 ≤ g ∧ g < 4294967296) (hb : 0 ≤ b ∧ b < 4294967296) (hk : k < 2147483648) : recAt S' g half b last k used = some (n, b, x) := by
  have hp := partsN_range hl
  have hT : (be4 x.length ++ x).length = x.length + 4 := by simp [be4]
  have hld : loads S' half used n = (be4 x.length ++ x) ++ List.replicate (44 * n - (be4 x.length ++ x).length) 0 := by
    rw [loads_parts n hnew, List.take_of_length_le (by omega)]
  obtain ⟨m0, m1, m2, m3, m4⟩ := nums_b20 g b ((k : Int) + 1) ((0 : Nat) : Int) n (partLd x 0) hg hb (by omega) (by omega) (by omega)
  have e0 := hnew 0 (by omega)
  have en : ((n : Int)).toNat = n := by omega
  have enum : numTo (loads S' half used n) 0 4 = x.length := by
    rw [hld, List.append_assoc, numTo_append _ _ _ _ (by simp [be4])]
    simp only [numTo, be4, List.getD_cons_succ, List.getD_cons_zero, Nat.reduceAdd]
    omega
  unfold recAt
  dsimp only
  rw [e0, m1, m4, en, enum, if_neg (by omega), if_pos]
  · have e4 : ((loads S' half used n).drop 4).take ((x.length : Int)).toNat = x := by
      rw [hld, List.append_assoc, List.drop_left' (show (be4 (x.length : Int)).length = 4 from rfl)]
      rw [List.take_left' (by omega)]
    rw [e4]
  · simp only [Bool.and_eq_true, List.all_eq_true, List.mem_range, beq_iff_eq]
    refine ⟨fun i hi => ?_, by omega⟩
    obtain ⟨i0, i1, i2, i3, i4⟩ := nums_b20 g b ((k : Int) + 1) (i : Int) n (partLd x i) hg hb (by omega) (by omega) (by omega)
    unfold partOk
    rw [hnew i hi, nums_list, i0, i1, i2, i3, i4]
    simp only [Bool.and_eq_true, decide_eq_true_eq, beq_iff_eq, List.cons.injEq, and_true, true_and]
    exact ⟨by omega, by omega, by omega⟩
end Go.Proofs.Ytipijkpjmpejlaa
