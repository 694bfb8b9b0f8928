import Derived.Test.YtipijkpjmpejlaaPgY
/- The plain law of PagesWhole, second part: what the sectors hold while pages go on. -/
set_option linter.unusedVariables false
set_option linter.unusedSimpArgs false
namespace Go.Proofs.Ytipijkpjmpejlaa
open Go.RowKit
/-- Sectors, some parts of a record later. -/
structure Parts (S S' : Int → List Int) (g half b record : Int) (at' n o : Nat) (bs : List Int) : Prop where
  new : ∀ i, i < o → sct S' half at' i = b20 g b record i n ++ partLd bs i
  old : ∀ k, (k < 1 + half * 1024 + at' ∨ 1 + half * 1024 + at' + o ≤ k) → S' k = S k
theorem Parts.same {S S' : Int → List Int} {g half b record : Int} {at' n o : Nat} {bs : List Int} (h : Parts S S' g half b record at' n o bs) : ∀ i, o ≤ i → sct S' half at' i = sct S half at' i := fun i hi => h.old _ (.inr (by omega))
theorem Parts.nums {S S' : Int → List Int} {g half b record : Int} {at' n o : Nat} {bs : List Int} (h : Parts S S' g half b record at' n o bs) (hg : 0 ≤ g ∧ g < 4294967296) (hb : 0 ≤ b ∧ b < 4294967296) (hr : 0 ≤ record ∧ record < 4294967296) (ho : o ≤ n) (hn : n < 4294967296) (k : Int) :
    S' k = S k ∨ num4 (S' k) 0 = g ∧ num4 (S' k) 1 = b ∧ num4 (S' k) 2 = record ∧ 1 + half * 1024 + at' ≤ k ∧ k < 1 + half * 1024 + at' + o := by
  by_cases hk : k < 1 + half * 1024 + at' ∨ 1 + half * 1024 + at' + o ≤ k
  · exact .inl (h.old k hk)
  · obtain ⟨i, hi⟩ : ∃ i : Nat, k = 1 + half * 1024 + at' + i := ⟨(k - (1 + half * 1024 + at')).toNat, by omega⟩
    have e := h.new i (by omega)
    unfold sct at e
    obtain ⟨i0, i1, i2, i3, i4⟩ := nums_b20 g b record (i : Int) n (partLd bs i) hg hb hr (by omega) (by omega)
    rw [hi, e]
    exact .inr ⟨i0, i1, i2, by omega, by omega⟩
theorem parts_sec {x : Img} {record : Int} {at' n o : Nat} {bs : List Int} {L : List (Int × List Int)} (hg : 0 ≤ x.gen ∧ x.gen < 4294967296) (hb : 0 ≤ x.boot ∧ x.boot < 4294967296) (hr : 0 ≤ record ∧ record < 4294967296) :
    Parts (secOf L) (secOf (L ++ (List.range o).map (fun i => padW (partW x record at' n bs i)))) x.gen x.half x.boot record at' n o bs := by
  constructor
  · intro i hi
    unfold sct
    rw [sec_parts, if_pos (by omega)]
    have e : (1 + x.half * 1024 + (at' : Int) + i - (1 + x.half * 1024 + at')).toNat = i := by omega
    rw [e]
    show b20 (u32 x.gen) (u32 x.boot) (u32 record) i n ++ partLd bs i = _
    unfold u32
    rw [Int.emod_eq_of_lt hg.1 hg.2, Int.emod_eq_of_lt hb.1 hb.2, Int.emod_eq_of_lt hr.1 hr.2]
  · intro k hk
    rw [sec_parts, if_neg (by omega)]
/-- A blank disk: nothing but what a first snapshot left. -/
def Blank0 (S : Int → List Int) : Prop := S 0 = zeros ∧ ∀ k, k ≠ 0 → num4 (S k) 0 ≤ 1 ∧ num4 (S k) 1 ≤ 1 ∧ (num4 (S k) 0 = 1 → num4 (S k) 2 ≤ 1)
/-- A disk with records. -/
structure Wet (S : Int → List Int) (g half b : Int) (recs : List (List Int)) (used : Nat) : Prop where
  g1 : 1 ≤ g
  h : 0 ≤ half ∧ half ≤ 1
  b1 : 1 ≤ b
  sec : S 0 = padB (bytes0 g half b)
  boots : ∀ k, k ≠ 0 → num4 (S k) 1 ≤ b
  cur : ∀ j : Nat, j < 1024 → num4 (S (1 + half * 1024 + j)) 0 ≤ g
  oth : ∀ j : Nat, j < 1024 → num4 (S (1 + (1 - half) * 1024 + j)) 0 ≤ g + 1
  most : used ≤ 1024
  chain : ∃ last, last ≤ b ∧ Chain S g half b 1 0 [] last used recs ∧ recAt S g half b last recs.length used = none
/-- No old part can be taken for one that this boot writes. -/
structure Clean (S : Int → List Int) (g half b : Int) (n used : Nat) : Prop where
  one : ∀ j : Nat, j < 1024 → used ≤ j → ¬ (num4 (S (1 + half * 1024 + j)) 0 = g ∧ num4 (S (1 + half * 1024 + j)) 1 = b ∧ (n : Int) < num4 (S (1 + half * 1024 + j)) 2)
  two : ∀ j : Nat, j < 1024 → ¬ (num4 (S (1 + (1 - half) * 1024 + j)) 0 = g + 1 ∧ num4 (S (1 + (1 - half) * 1024 + j)) 1 = b ∧ 1 < num4 (S (1 + (1 - half) * 1024 + j)) 2)
theorem Wet.count {S : Int → List Int} {g half b : Int} {recs : List (List Int)} {used : Nat} (h : Wet S g half b recs used) : recs.length ≤ used := by
  obtain ⟨last, hl, hc, hn⟩ := h.chain
  have := hc.le
  simp only [List.length_nil] at this
  omega
theorem wet_image {D : DS} {g half b : Int} {recs : List (List Int)} {used : Nat} (hd : D.down = false) (h : Wet (secOf D.L) g half b recs used) (hg : g ≤ 1000000) (hb : b ≤ 1000) : imageOf D = (⟨g, half, b, recs⟩, used, 0) := by
  have g1 := h.g1
  have hh := h.h
  have b1 := h.b1
  obtain ⟨n1, n2, n3⟩ := first_nums g half b (by omega) (by omega) (by omega)
  obtain ⟨last, hl, hc, hn⟩ := h.chain
  have e : b % 4294967296 = b := by omega
  unfold imageOf
  rw [if_neg (by simp [hd])]
  unfold imageS
  dsimp only
  rw [h.sec, n1, n2, n3, if_neg (by omega), if_neg (by omega), e, scan_chain hc hn (by omega) 1025 (by omega)]
theorem blank_image {D : DS} (hd : D.down = false) (h : Blank0 (secOf D.L)) : imageOf D = (Img.zero, 0, 0) := by
  unfold imageOf
  rw [if_neg (by simp [hd])]
  unfold imageS
  rw [h.1]
  rw [if_pos (by decide +kernel)]
theorem recAt_back {S S' : Int → List Int} {g half most most' last : Int} {k used : Nat} (h : recAt S g half most last k used = none) (he : ∀ i, used + i < 1024 → sct S' half used i = sct S half used i) (hm : used < 1024 → num4 (sct S half used 0) 1 ≤ most) : recAt S' g half most' last k used = none :=
  recAt_none fun n boot r hr => by
    have hf := recAt_facts hr
    have hp := recAt_parts hr
    have e0 := he 0 (by omega)
    have hb : boot ≤ most := by rw [← hp.1, e0]; exact hm hf.1
    have := recAt_local hr (S' := S) (most' := most) (fun i hi => (he i (hp.2.2 i hi).1).symm) hb
    rw [h] at this
    cases this
theorem wet_open {S S' : Int → List Int} {g half b : Int} {recs : List (List Int)} {used : Nat} (h : Wet S g half b recs used) (h0 : S' 0 = padB (bytes0 g half (b + 1))) (hs : ∀ k, k ≠ 0 → S' k = S k) : Wet S' g half (b + 1) recs used ∧ Clean S' g half (b + 1) recs.length used := by
  have hh := h.h
  have hk : ∀ j : Nat, S' (1 + half * 1024 + j) = S (1 + half * 1024 + j) := fun j => hs _ (by omega)
  have hk' : ∀ j : Nat, S' (1 + (1 - half) * 1024 + j) = S (1 + (1 - half) * 1024 + j) := fun j => hs _ (by omega)
  obtain ⟨last, hl, hc, hn⟩ := h.chain
  refine ⟨⟨h.g1, h.h, by have := h.b1; omega, h0, fun k hk0 => by rw [hs k hk0]; have := h.boots k hk0; omega, fun j hj => by rw [hk]; exact h.cur j hj, fun j hj => by rw [hk']; exact h.oth j hj, h.most, last, by omega, hc.near (fun j _ _ => hk j) (by omega), recAt_back hn (fun i hi => hs _ (by omega)) (fun _ => h.boots _ (by omega))⟩, ⟨fun j hj hu hx => ?_, fun j hj hx => ?_⟩⟩
  · rw [hk] at hx; have := h.boots (1 + half * 1024 + j) (by omega); omega
  · rw [hk'] at hx; have := h.boots (1 + (1 - half) * 1024 + j) (by omega); omega
/-- An append under way. -/
theorem Wet.part {S S' : Int → List Int} {g half b : Int} {recs : List (List Int)} {used n o : Nat} {bs : List Int} (h : Wet S g half b recs used) (hc : Clean S g half b recs.length used) (hP : Parts S S' g half b (recs.length + 1) used n o bs) (ho : o < n) (hu : used + n ≤ 1024) (hg : g ≤ 1000000) (hb : b ≤ 1000) : Wet S' g half b recs used := by
  have hh := h.h
  have g1 := h.g1
  have b1 := h.b1
  have hcn := h.count
  obtain ⟨last, hl, hch, hn⟩ := h.chain
  have hN := hP.nums (by omega) (by omega) (by omega) (by omega) (by omega)
  refine ⟨h.g1, h.h, h.b1, (hP.old 0 (.inl (by omega))).trans h.sec, fun k hk => ?_, fun j hj => ?_, fun j hj => ?_, h.most, last, hl, hch.near (fun j _ hj => hP.old _ (.inl (by omega))) hl, part_none ho hn hP.new hP.same hc.one (by omega) (by omega) (by omega) (by omega)⟩
  · have := h.boots k hk; rcases hN k with e | e; · rw [e]; exact this
    · omega
  · have := h.cur j hj; rcases hN (1 + half * 1024 + j) with e | e; · rw [e]; exact this
    · omega
  · have := h.oth j hj; rcases hN (1 + (1 - half) * 1024 + j) with e | e; · rw [e]; exact this
    · omega
/-- An append, whole. -/
theorem Wet.whole {S S' : Int → List Int} {g half b : Int} {recs : List (List Int)} {used n : Nat} {bs : List Int} (h : Wet S g half b recs used) (hc : Clean S g half b recs.length used) (hP : Parts S S' g half b (recs.length + 1) used n n bs) (hl : bs.length ≤ 32768) (hn : n = (partsN bs.length).toNat) (hu : used + n ≤ 1024) (hg : g ≤ 1000000) (hb : b ≤ 1000) :
    Wet S' g half b (recs ++ [bs]) (used + n) ∧ Clean S' g half b (recs ++ [bs]).length (used + n) := by
  have hh := h.h
  have g1 := h.g1
  have b1 := h.b1
  have hcn := h.count
  obtain ⟨last, hla, hch, hno⟩ := h.chain
  have hN := hP.nums (by omega) (by omega) (by omega) (by omega) (by omega)
  have hone : ∀ j : Nat, j < 1024 → used + n ≤ j → S' (1 + half * 1024 + j) = S (1 + half * 1024 + j) := fun j _ hj => hP.old _ (.inr (by omega))
  have hoth : ∀ j : Nat, j < 1024 → S' (1 + (1 - half) * 1024 + j) = S (1 + (1 - half) * 1024 + j) := fun j hj => hP.old _ (by omega)
  have e1 : (recs ++ [bs]).length = recs.length + 1 := by simp
  refine ⟨⟨h.g1, h.h, h.b1, (hP.old 0 (.inl (by omega))).trans h.sec, fun k hk => ?_, fun j hj => ?_, fun j hj => ?_, hu, b, Int.le_refl _, (hch.near (fun j _ hj => hP.old _ (.inl (by omega))) hla).snoc (part_some hl hn hu hla hP.new (by omega) (by omega) (by omega)), recAt_none fun n' boot r hr => ?_⟩, ⟨fun j hj hu' hx => ?_, fun j hj hx => ?_⟩⟩
  · have := h.boots k hk; rcases hN k with e | e; · rw [e]; exact this
    · omega
  · have := h.cur j hj; rcases hN (1 + half * 1024 + j) with e | e; · rw [e]; exact this
    · omega
  · rw [hoth j hj]; exact h.oth j hj
  · have hf := recAt_facts hr
    obtain ⟨q, q0, q1, q2, _⟩ := (recAt_parts hr).2.2 0 (by omega)
    have e : sct S' half (used + n) 0 = S (1 + half * 1024 + ((used + n : Nat) : Int)) := by
      rw [← hone (used + n) (by omega) (Nat.le_refl _)]
      unfold sct
      congr 1
      omega
    rw [e] at q0 q1 q2
    exact hc.one (used + n) (by omega) (by omega) ⟨by omega, by omega, by omega⟩
  · rw [hone j hj hu'] at hx
    exact hc.one j hj (by omega) ⟨hx.1, hx.2.1, by omega⟩
  · rw [hoth j hj] at hx
    exact hc.two j hj hx
/-- A snapshot under way. -/
theorem Wet.snap {S S' : Int → List Int} {g half b : Int} {recs : List (List Int)} {used n o : Nat} {bs : List Int} (h : Wet S g half b recs used) (hP : Parts S S' (g + 1) (1 - half) b 1 0 n o bs) (ho : o ≤ n) (hu : n ≤ 1024) (hg : g ≤ 1000000) (hb : b ≤ 1000) : Wet S' g half b recs used := by
  have hh := h.h
  have g1 := h.g1
  have b1 := h.b1
  obtain ⟨last, hl, hch, hn⟩ := h.chain
  have hN := hP.nums (by omega) (by omega) (by omega) (by omega) (by omega)
  have hcur : ∀ j : Nat, j < 1024 → S' (1 + half * 1024 + j) = S (1 + half * 1024 + j) := fun j hj => hP.old _ (by omega)
  have hm := h.most
  refine ⟨h.g1, h.h, h.b1, (hP.old 0 (.inl (by omega))).trans h.sec, fun k hk => ?_, fun j hj => ?_, fun j hj => ?_, h.most, last, hl, hch.near (fun j _ hj => hcur j (by omega)) hl, recAt_back hn (fun i hi => hP.old _ (by omega)) (fun _ => h.boots _ (by omega))⟩
  · have := h.boots k hk; rcases hN k with e | e; · rw [e]; exact this
    · omega
  · rw [hcur j hj]; exact h.cur j hj
  · have := h.oth j hj; rcases hN (1 + (1 - half) * 1024 + j) with e | e; · rw [e]; exact this
    · omega
/-- A snapshot, whole. -/
theorem wet_fresh {S S' S'' : Int → List Int} {g half b : Int} {n : Nat} {bs : List Int} (hP : Parts S S' g half b 1 0 n n bs) (h0 : S'' 0 = padB (bytes0 g half b)) (hs : ∀ k, k ≠ 0 → S'' k = S' k) (hl : bs.length ≤ 32768) (hn : n = (partsN bs.length).toNat)
    (hg : 1 ≤ g ∧ g ≤ 1000001) (hh : 0 ≤ half ∧ half ≤ 1) (hb : 1 ≤ b ∧ b ≤ 1000) (hbo : ∀ k, k ≠ 0 → num4 (S k) 1 ≤ b) (hcu : ∀ j : Nat, j < 1024 → num4 (S (1 + half * 1024 + j)) 0 ≤ g ∧ ¬ (num4 (S (1 + half * 1024 + j)) 0 = g ∧ num4 (S (1 + half * 1024 + j)) 1 = b ∧ 1 < num4 (S (1 + half * 1024 + j)) 2))
    (hot : ∀ j : Nat, j < 1024 → num4 (S (1 + (1 - half) * 1024 + j)) 0 ≤ g) : Wet S'' g half b [bs] n ∧ Clean S'' g half b 1 n := by
  have hp := partsN_range hl
  have hN := hP.nums (by omega) (by omega) (by omega) (by omega) (by omega)
  have hnew : ∀ i, i < n → sct S'' half 0 i = b20 g b (((0 : Nat) : Int) + 1) i n ++ partLd bs i := fun i hi => (hs _ (by omega)).trans (hP.new i hi)
  have hone : ∀ j : Nat, j < 1024 → n ≤ j → S'' (1 + half * 1024 + j) = S (1 + half * 1024 + j) := fun j _ hj => (hs _ (by omega)).trans (hP.old _ (.inr (by omega)))
  have hoth : ∀ j : Nat, j < 1024 → S'' (1 + (1 - half) * 1024 + j) = S (1 + (1 - half) * 1024 + j) := fun j hj => (hs _ (by omega)).trans (hP.old _ (by omega))
  have hr : recAt S'' g half b 1 0 0 = some (n, b, bs) := part_some hl hn (by omega) hb.1 hnew (by omega) (by omega) (by omega)
  have hch : Chain S'' g half b 1 0 [] b (0 + n) ([] ++ [bs]) := .step hr (.refl _ _ _)
  rw [Nat.zero_add, List.nil_append] at hch
  refine ⟨⟨hg.1, hh, hb.1, h0, fun k hk => ?_, fun j hj => ?_, fun j hj => ?_, by omega, b, Int.le_refl _, hch, recAt_none fun n' boot r hr' => ?_⟩, ⟨fun j hj hu' hx => ?_, fun j hj hx => ?_⟩⟩
  · rw [hs k hk]; have := hbo k hk; rcases hN k with e | e; · rw [e]; exact this
    · omega
  · rw [hs _ (by omega)]; have := (hcu j hj).1; rcases hN (1 + half * 1024 + j) with e | e; · rw [e]; exact this
    · omega
  · rw [hoth j hj]; have := hot j hj; omega
  · have hf := recAt_facts hr'
    obtain ⟨q, q0, q1, q2, _⟩ := (recAt_parts hr').2.2 0 (by omega)
    have e : sct S'' half n 0 = S (1 + half * 1024 + (n : Int)) := by
      rw [← hone n (by omega) (Nat.le_refl _)]
      unfold sct
      congr 1
      omega
    rw [e] at q0 q1 q2
    have e1 : ((([bs] : List (List Int)).length : Nat) : Int) = 1 := rfl
    rw [e1] at q2
    exact (hcu n (by omega)).2 ⟨by omega, by omega, by omega⟩
  · rw [hone j hj hu'] at hx
    exact (hcu j hj).2 ⟨hx.1, hx.2.1, by have := hx.2.2; omega⟩
  · rw [hoth j hj] at hx
    have := hot j hj
    omega
end Go.Proofs.Ytipijkpjmpejlaa
