import Derived.Test.YtipijkpjmpejlaaPgU
/- The plain law of PagesAgain: opening changes nothing that is told but the boot. -/
set_option linter.unusedVariables false
set_option linter.unusedSimpArgs false
namespace Go.Proofs.Ytipijkpjmpejlaa
open Go.RowKit
theorem numTo_append (a b : List Int) (k : Nat) : ∀ j, k + j ≤ a.length → numTo (a ++ b) k j = numTo a k j
  | 0, _ => rfl
  | j + 1, h => by
    simp only [numTo]
    rw [numTo_append a b k j (by omega), List.getD_eq_getElem?_getD, List.getD_eq_getElem?_getD, List.getElem?_append_left (by omega)]
theorem num4_b20 (a b c d e : Int) (l : List Int) (h : 0 ≤ b ∧ b < 4294967296) : num4 (b20 a b c d e ++ l) 1 = b := by
  unfold num4
  rw [numTo_append _ _ _ _ (by simp [b20, be4])]
  simp only [numTo, b20, be4, List.cons_append, List.nil_append, List.getD_cons_succ, List.getD_cons_zero, Nat.reduceMul, Nat.reduceAdd]
  omega
theorem padB_full {l : List Int} (h : l.length = 64) : padB l = l := by simp [padB, h]
def padW (y : Int × List Int) : Int × List Int := (y.1, padB y.2)
theorem run_ok : ∀ (l : List (Int × List Int)) (D : DS), D.down = false → D.armed = false → (∀ y ∈ l, 0 ≤ y.1 ∧ y.1 < 2049 ∧ y.2.length ≤ 64) → D.run l = (⟨D.L ++ l.map padW, false, false, D.left - l.length⟩, 0)
  | [], D, h1, h2, _ => by cases D; simp_all [DS.run]
  | y :: l, D, h1, h2, h3 => by
    have hy := h3 y (by simp)
    have he : D.err y.1 y.2 = 0 := by
      unfold DS.err
      rw [if_neg (by simp [h1]), if_neg (by omega), if_neg (by simp [h2])]
    have hw : D.write y.1 y.2 = ⟨D.L ++ [padW y], false, D.armed, D.left - 1⟩ := by
      unfold DS.write
      rw [if_neg (by simp [h1]), if_neg (by omega), if_neg (by simp [h2])]
      rfl
    unfold DS.run
    rw [if_pos he, hw, run_ok l _ rfl (by simpa using h2) (fun z hz => h3 z (by simp [hz]))]
    simp
    omega
/-- Sectors but the first bear the first boot. -/
def Boot1 (L : List (Int × List Int)) : Prop := ∀ k, k ≠ 0 → num4 (secOf L k) 1 ≤ 1
theorem boot1_append : ∀ (l : List (Int × List Int)) (L : List (Int × List Int)), Boot1 L → (∀ y ∈ l, y.1 ≠ 0 → num4 y.2 1 ≤ 1) → Boot1 (L ++ l)
  | [], L, h, _ => by simpa using h
  | y :: l, L, h, hl => by
    have := boot1_append l (L ++ [y]) (fun k hk => by
      rw [secOf_snoc y.1 y.2 L k]
      split
      · rename_i e; exact hl y (by simp) (by rw [← e]; exact hk)
      · exact h k hk) (fun z hz => hl z (by simp [hz]))
    simpa using this
theorem sec0_append : ∀ (l : List (Int × List Int)) (L : List (Int × List Int)), (∀ y ∈ l, y.1 ≠ 0) → secOf (L ++ l) 0 = secOf L 0
  | [], L, _ => by simp
  | y :: l, L, hl => by
    have := sec0_append l (L ++ [y]) (fun z hz => hl z (by simp [hz]))
    rw [secOf_snoc y.1 y.2 L 0, if_neg (fun e => hl y (by simp) e.symm)] at this
    simpa using this
theorem partWs_mem {x : Img} {record : Int} {at' : Nat} {b : List Int} {y : Int × List Int} (hl : b.length ≤ 32768) (hh : 0 ≤ x.half ∧ x.half ≤ 1) (hu : (at' : Int) + partsN b.length ≤ 1024) (hy : y ∈ partWs x record at' b) :
    ∃ i, i < (partsN b.length).toNat ∧ y = partW x record at' (partsN b.length).toNat b i ∧ 1 ≤ y.1 ∧ y.1 < 2049 ∧ y.2.length = 64 := by
  obtain ⟨i, hi, rfl⟩ := List.mem_map.1 hy
  have hi := List.mem_range.1 hi
  have := partsN_range hl
  refine ⟨i, hi, rfl, ?_, ?_, ?_⟩
  · show 1 ≤ 1 + x.half * 1024 + at' + i; omega
  · show 1 + x.half * 1024 + (at' : Int) + i < 2049; omega
  · show (b20 _ _ _ _ _ ++ partLd b i).length = 64
    rw [List.length_append, partLd_len]; rfl
/-- Pages and their disk, of the first boot. -/
structure Sync (N : Int) (D : DS) (P : PS) : Prop where
  dead : P.dead = false
  fit : P.img.Fit P.used
  down : D.down = false
  armed : D.armed = false
  boot : Boot1 D.L
  sec : (P.img.gen = 0 ∧ secOf D.L 0 = zeros) ∨ (1 ≤ P.img.gen ∧ P.img.gen ≤ N ∧ P.img.boot = 1 ∧ secOf D.L 0 = padB (bytes0 P.img.gen P.img.half 1))
/-- What an act makes. -/
def actOf (D : DS) (P : PS) (x : Act') : DS × PS × Int := if x.kind = 1 ∨ P.img.gen = 0 then snapOf D P x.b else appendOf D P x.b
theorem Sync.mono {N M : Int} {D : DS} {P : PS} (h : Sync N D P) (hn : N ≤ M) : Sync M D P := ⟨h.dead, h.fit, h.down, h.armed, h.boot, h.sec.imp id fun ⟨h1, h2, h3⟩ => ⟨h1, by omega, h3⟩⟩
theorem boot1_parts {x : Img} {record : Int} {at' : Nat} {b : List Int} (hb : x.boot = 1) (hl : b.length ≤ 32768) (hh : 0 ≤ x.half ∧ x.half ≤ 1) (hu : (at' : Int) + partsN b.length ≤ 1024) : ∀ y ∈ (partWs x record at' b).map padW, y.1 ≠ 0 ∧ num4 y.2 1 ≤ 1 := by
  intro y hy
  obtain ⟨z, hz, rfl⟩ := List.mem_map.1 hy
  obtain ⟨i, hi, rfl, h1, h2, h3⟩ := partWs_mem hl hh hu hz
  refine ⟨by intro e; have e' : (partW x record at' (partsN b.length).toNat b i).1 = 0 := e; omega, ?_⟩
  show num4 (padB (partW x record at' (partsN b.length).toNat b i).2) 1 ≤ 1
  rw [padB_full h3]
  show num4 (b20 (u32 x.gen) (u32 x.boot) (u32 record) i _ ++ partLd b i) 1 ≤ 1
  rw [num4_b20 _ _ _ _ _ _ (by unfold u32; omega), hb]
  decide
/-- What a snapshot comes to, where nothing fails. -/
theorem snap_eq {D : DS} {P : PS} {b : List Int} (hd : P.dead = false) (h1 : D.down = false) (h2 : D.armed = false) (hh : 0 ≤ P.img.half ∧ P.img.half ≤ 1) (hl : b.length ≤ 32768) :
    snapOf D P b = (⟨D.L ++ (partWs (snapImg P.img) 1 0 b ++ [(0, (snapImg P.img).first)]).map padW, false, false, D.left - (partWs (snapImg P.img) 1 0 b ++ [(0, (snapImg P.img).first)]).length⟩, ⟨{ snapImg P.img with recs := (snapImg P.img).recs ++ [b] }, 0 + (partsN b.length).toNat, P.dead⟩, 0) := by
  have hn := partsN_range hl
  unfold snapOf
  rw [if_neg (by simp [hd]), if_neg (by omega)]
  unfold writeOf
  rw [run_ok _ D h1 h2 (fun y hy => ?_)]
  · rfl
  · rcases List.mem_append.1 hy with h | h
    · obtain ⟨i, hi, rfl, h3, h4, h5⟩ := partWs_mem hl (snapImg_half _ hh) (by simp; omega) h
      exact ⟨by omega, h4, by omega⟩
    · simp at h; subst h
      exact ⟨by show (0 : Int) ≤ 0; omega, by show (0 : Int) < 2049; omega, by show (bytes0 _ _ _).length ≤ 64; rw [bytes0_len]; omega⟩
theorem append_eq {D : DS} {P : PS} {b : List Int} (hd : P.dead = false) (h1 : D.down = false) (h2 : D.armed = false) (hh : 0 ≤ P.img.half ∧ P.img.half ≤ 1) (hg : P.img.gen ≠ 0) (hl : b.length ≤ 32768) (hu : (P.used : Int) + partsN b.length ≤ 1024) :
    appendOf D P b = (⟨D.L ++ (partWs P.img (P.img.recs.length + 1) P.used b).map padW, false, false, D.left - (partWs P.img (P.img.recs.length + 1) P.used b).length⟩, ⟨{ P.img with recs := P.img.recs ++ [b] }, P.used + (partsN b.length).toNat, P.dead⟩, 0) := by
  unfold appendOf
  rw [if_neg (by simp [hd]), if_neg hg, if_neg (by omega), if_neg (by omega)]
  unfold writeOf
  rw [List.append_nil, run_ok _ D h1 h2 (fun y hy => ?_)]
  · rfl
  · obtain ⟨i, hi, rfl, h3, h4, h5⟩ := partWs_mem hl hh hu hy
    exact ⟨by omega, h4, by omega⟩
theorem append_no {D : DS} {P : PS} {b : List Int} (h : ¬ (P.dead = false ∧ P.img.gen ≠ 0 ∧ b.length ≤ 32768 ∧ (P.used : Int) + partsN b.length ≤ 1024)) : (appendOf D P b).1 = D ∧ (appendOf D P b).2.1 = P := by
  unfold appendOf
  split
  · exact ⟨rfl, rfl⟩
  · rename_i h1
    split
    · exact ⟨rfl, rfl⟩
    · rename_i h2
      split
      · exact ⟨rfl, rfl⟩
      · rename_i h3
        split
        · exact ⟨rfl, rfl⟩
        · rename_i h4
          exact absurd ⟨by simpa using h1, h2, by omega, by omega⟩ h
theorem snap_sync {N : Int} {D : DS} {P : PS} {b : List Int} (h : Sync N D P) (h0 : 0 ≤ N) (hN : N ≤ 1000000) (hb : Bytes b) : Sync (N + 1) (snapOf D P b).1 (snapOf D P b).2.1 := by
  by_cases hl : b.length ≤ 32768
  · have hf := snap_fit h.fit D hb
    have hn := partsN_range hl
    have hg : (snapImg P.img).gen = P.img.gen + 1 ∧ (snapImg P.img).boot = 1 := by
      unfold snapImg
      rcases h.sec with ⟨e, _⟩ | ⟨g1, g2, g3, _⟩
      · rw [if_pos e]
        exact ⟨by show wrap64 (P.img.gen + 1) = _; rw [e]; exact IntWalk.wrap64_in _ (by omega), rfl⟩
      · rw [if_neg (by omega)]
        exact ⟨IntWalk.wrap64_in _ (by omega), g3⟩
    have hge : 0 ≤ P.img.gen ∧ P.img.gen ≤ N := by rcases h.sec with ⟨e, _⟩ | ⟨g1, g2, _⟩ <;> omega
    have hu : ((0 : Nat) : Int) + partsN b.length ≤ 1024 := by simp; omega
    have hp := boot1_parts (record := 1) (at' := 0) hg.2 hl (snapImg_half _ h.fit.half) hu
    rw [snap_eq h.dead h.down h.armed h.fit.half hl] at hf ⊢
    refine ⟨h.dead, hf, rfl, rfl, ?_, .inr ⟨by show 1 ≤ (snapImg P.img).gen; omega, by show (snapImg P.img).gen ≤ N + 1; omega, hg.2, ?_⟩⟩
    · refine boot1_append _ _ h.boot (fun y hy hy0 => ?_)
      rw [List.map_append] at hy
      rcases List.mem_append.1 hy with h1 | h1
      · exact (hp y h1).2
      · simp at h1; subst h1; exact absurd rfl hy0
    · show secOf (D.L ++ (partWs (snapImg P.img) 1 0 b ++ [(0, (snapImg P.img).first)]).map padW) 0 = padB (bytes0 (snapImg P.img).gen (snapImg P.img).half 1)
      rw [List.map_append, ← List.append_assoc]
      show secOf (_ ++ [(0, padB (snapImg P.img).first)]) 0 = _
      rw [secOf_snoc, if_pos rfl, ← hg.2]
      rfl
  · have : snapOf D P b = (D, P, 3) := by unfold snapOf; rw [if_neg (by simp [h.dead]), if_pos (by omega)]
    rw [this]
    exact h.mono (by omega)
theorem append_sync {N : Int} {D : DS} {P : PS} {b : List Int} (h : Sync N D P) (hb : Bytes b) : Sync N (appendOf D P b).1 (appendOf D P b).2.1 := by
  by_cases hc : P.dead = false ∧ P.img.gen ≠ 0 ∧ b.length ≤ 32768 ∧ (P.used : Int) + partsN b.length ≤ 1024
  · obtain ⟨hd, hg, hl, hu⟩ := hc
    have hf := append_fit h.fit D hb
    rcases h.sec with ⟨e, _⟩ | ⟨g1, g2, g3, g4⟩
    · exact absurd e hg
    have hp := boot1_parts (record := P.img.recs.length + 1) g3 hl h.fit.half hu
    rw [append_eq hd h.down h.armed h.fit.half hg hl hu] at hf ⊢
    refine ⟨hd, hf, rfl, rfl, boot1_append _ _ h.boot (fun y hy _ => (hp y hy).2), .inr ⟨g1, g2, g3, ?_⟩⟩
    show secOf (D.L ++ (partWs P.img (P.img.recs.length + 1) P.used b).map padW) 0 = _
    rw [sec0_append _ _ (fun y hy => (hp y hy).1)]
    exact g4
  · obtain ⟨e1, e2⟩ := append_no (D := D) hc
    rw [e1, e2]
    exact h
theorem act_sync {N : Int} {D : DS} {P : PS} {x : Act'} (h : Sync N D P) (h0 : 0 ≤ N) (hN : N ≤ 1000000) (hb : Bytes x.b) : Sync (N + 1) (actOf D P x).1 (actOf D P x).2.1 := by
  unfold actOf
  split
  · exact snap_sync h h0 hN hb
  · exact (append_sync h hb).mono (by omega)
theorem act_room {D : DS} {P : PS} {x : Act'} {k : Nat} (h : D.Room (k + 1024)) : (actOf D P x).1.Room k := by
  unfold actOf
  split
  · exact snap_room h
  · exact append_room h
/-! ### Looking and opening -/
structure Good (D : DS) (g h b : Int) : Prop where
  down : D.down = false
  armed : D.armed = false
  boot : Boot1 D.L
  sec : (g = 0 ∧ secOf D.L 0 = zeros) ∨ (1 ≤ g ∧ g ≤ 1000000000 ∧ 0 ≤ h ∧ h ≤ 1 ∧ 1 ≤ b ∧ b ≤ 1000 ∧ secOf D.L 0 = padB (bytes0 g h b))
theorem Sync.good {N : Int} {D : DS} {P : PS} (h : Sync N D P) (hN : N ≤ 1000000) : Good D P.img.gen P.img.half 1 := ⟨h.down, h.armed, h.boot, h.sec.imp id fun ⟨h1, h2, h3, h4⟩ => ⟨h1, by omega, h.fit.half.1, h.fit.half.2, by omega, by omega, h4⟩⟩
theorem first_nums (g h b : Int) (hg : -9223372036854775808 ≤ g ∧ g ≤ 9223372036854775807) (hh : -9223372036854775808 ≤ h ∧ h ≤ 9223372036854775807) (hb : -9223372036854775808 ≤ b ∧ b ≤ 9223372036854775807) :
    num8 (padB (bytes0 g h b)) 0 = g ∧ num8 (padB (bytes0 g h b)) 8 = h ∧ num8 (padB (bytes0 g h b)) 16 = b := by
  obtain ⟨z, hz⟩ : ∃ z, padB (bytes0 g h b) = be8 g ++ be8 h ++ be8 b ++ z := ⟨_, rfl⟩
  rw [hz]
  refine ⟨?_, ?_, ?_⟩
  · have := num8_be8 g hg.1 hg.2 [] (be8 h ++ be8 b ++ z)
    simpa using this
  · have := num8_be8 h hh.1 hh.2 (be8 g) (be8 b ++ z)
    simpa [be8_len] using this
  · have := num8_be8 b hb.1 hb.2 (be8 g ++ be8 h) z
    simpa [be8_len] using this
theorem look_blank {D : DS} {g h b : Int} (hG : Good D g h b) (hg : g = 0) : imageOf D = (Img.zero, 0, 0) := by
  rcases hG.sec with ⟨_, h0⟩ | ⟨g1, _⟩
  · unfold imageOf
    rw [if_neg (by simp [hG.down])]
    unfold imageS
    rw [h0]
    rw [if_pos (by decide +kernel)]
  · omega
theorem look_good {D : DS} {g h b : Int} (hG : Good D g h b) (hg : g ≠ 0) : imageOf D = (⟨g, h, b, (scan (secOf D.L) g h (b % 4294967296) 1025 1 0 []).1⟩, (scan (secOf D.L) g h (b % 4294967296) 1025 1 0 []).2, 0) := by
  rcases hG.sec with ⟨e, _⟩ | ⟨g1, g2, g3, g4, g5, g6, h0⟩
  · exact absurd e hg
  · obtain ⟨n1, n2, n3⟩ := first_nums g h b (by omega) (by omega) (by omega)
    unfold imageOf
    rw [if_neg (by simp [hG.down])]
    unfold imageS
    dsimp only
    rw [h0, n1, n2, n3, if_neg (by omega), if_neg (by omega)]
theorem sct_same {S S' : Int → List Int} (h : ∀ k, k ≠ 0 → S k = S' k) {half : Int} (hh : 0 ≤ half) (used i : Nat) : sct S half used i = sct S' half used i := h _ (by omega)
theorem recAt_same {S S' : Int → List Int} (h : ∀ k, k ≠ 0 → S k = S' k) (hb : ∀ k, k ≠ 0 → num4 (S k) 1 ≤ 1) {half : Int} (hh : 0 ≤ half) (g last m m' : Int) (hm : 1 ≤ m) (hm' : 1 ≤ m') (k used : Nat) : recAt S g half m last k used = recAt S' g half m' last k used := by
  have e : ∀ used i, sct S half used i = sct S' half used i := fun used i => sct_same h hh used i
  have el : ∀ used n, loads S half used n = loads S' half used n := fun used n => by unfold loads; simp only [e]
  have ep : ∀ boot n k used i, partOk S g half boot n k used i = partOk S' g half boot n k used i := fun boot n k used i => by unfold partOk; rw [e]
  have h1 : num4 (sct S half used 0) 1 ≤ 1 := hb _ (by omega)
  unfold recAt
  dsimp only
  simp only [el, ep]
  rw [← e used 0]
  have hcond : (1024 ≤ used ∨ num4 (sct S half used 0) 1 < last ∨ m < num4 (sct S half used 0) 1 ∨ num4 (sct S half used 0) 4 < 1 ∨ 745 < num4 (sct S half used 0) 4) ↔ (1024 ≤ used ∨ num4 (sct S half used 0) 1 < last ∨ m' < num4 (sct S half used 0) 1 ∨ num4 (sct S half used 0) 4 < 1 ∨ 745 < num4 (sct S half used 0) 4) := by omega
  simp only [hcond]
theorem scan_same {S S' : Int → List Int} (h : ∀ k, k ≠ 0 → S k = S' k) (hb : ∀ k, k ≠ 0 → num4 (S k) 1 ≤ 1) {half : Int} (hh : 0 ≤ half) (g m m' : Int) (hm : 1 ≤ m) (hm' : 1 ≤ m') : ∀ (f : Nat) (last : Int) (used : Nat) (rs : List (List Int)), scan S g half m f last used rs = scan S' g half m' f last used rs
  | 0, _, _, _ => rfl
  | f + 1, last, used, rs => by
    unfold scan
    rw [recAt_same h hb hh g last m m' hm hm' rs.length used]
    split
    · rfl
    · exact scan_same h hb hh g m m' hm hm' f _ _ _
/-- A disk that is opened. -/
theorem open_good {D : DS} {g h b : Int} (hG : Good D g h b) (hg : g ≠ 0) (hb : b < 1000) : ∃ D' P', openOf D = (D', some P', 0) ∧ P'.img.gen = g ∧ Good D' g h (b + 1) ∧ (imageOf D').1 = { (imageOf D).1 with boot := b + 1 } ∧ (imageOf D').2.2 = 0 ∧ D' = D.write 0 (bytes0 g h (b + 1)) := by
  rcases hG.sec with ⟨e, _⟩ | ⟨g1, g2, g3, g4, g5, g6, h0⟩
  · exact absurd e hg
  · have hi := look_good hG hg
    have hw : D.write 0 (bytes0 g h (b + 1)) = ⟨D.L ++ [(0, padB (bytes0 g h (b + 1)))], false, D.armed, D.left - 1⟩ := by
      unfold DS.write
      rw [if_neg (by simp [hG.down]), if_neg (by rw [bytes0_len]; omega), if_neg (by simp [hG.armed])]
    have he : D.err 0 (bytes0 g h (b + 1)) = 0 := by
      unfold DS.err
      rw [if_neg (by simp [hG.down]), if_neg (by rw [bytes0_len]; omega), if_neg (by simp [hG.armed])]
    have hs : ∀ k, k ≠ 0 → secOf (D.L ++ [(0, padB (bytes0 g h (b + 1)))]) k = secOf D.L k := fun k hk => by rw [secOf_snoc, if_neg hk]
    have hG' : Good (D.write 0 (bytes0 g h (b + 1))) g h (b + 1) := by
      rw [hw]
      refine ⟨rfl, hG.armed, fun k hk => by rw [hs k hk]; exact hG.boot k hk, .inr ⟨g1, g2, g3, g4, by omega, by omega, ?_⟩⟩
      show secOf (D.L ++ [(0, padB (bytes0 g h (b + 1)))]) 0 = _
      rw [secOf_snoc, if_pos rfl]
    have hi' := look_good hG' hg
    have hsc := scan_same (S := secOf (D.write 0 (bytes0 g h (b + 1))).L) (S' := secOf D.L) (fun k hk => by rw [hw]; exact hs k hk) hG'.boot g3 g ((b + 1) % 4294967296) (b % 4294967296) (by omega) (by omega) 1025 1 0 []
    have hn : (⟨g, h, b, (scan (secOf D.L) g h (b % 4294967296) 1025 1 0 []).1⟩ : Img).next = ⟨g, h, b + 1, (scan (secOf D.L) g h (b % 4294967296) 1025 1 0 []).1⟩ := by
      unfold Img.next
      rw [IntWalk.wrap64_in _ (by show -9223372036854775808 ≤ b + 1 ∧ b + 1 ≤ 9223372036854775807; omega)]
    refine ⟨_, ⟨⟨g, h, b + 1, (scan (secOf D.L) g h (b % 4294967296) 1025 1 0 []).1⟩, (scan (secOf D.L) g h (b % 4294967296) 1025 1 0 []).2, false⟩, ?_, rfl, hG', ?_, ?_, rfl⟩
    · unfold openOf
      rw [hi]
      dsimp only
      rw [hn]
      rw [if_neg (by simp), if_neg hg]
      show (if D.err 0 (bytes0 g h (b + 1)) = 0 then _ else _) = _
      rw [if_pos he]
      rfl
    · rw [hi', hi, hsc]
    · rw [hi']
end Go.Proofs.Ytipijkpjmpejlaa
