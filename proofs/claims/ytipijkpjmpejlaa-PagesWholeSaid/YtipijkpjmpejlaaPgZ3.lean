import Derived.Test.YtipijkpjmpejlaaPgZ2
/- The plain law of PagesWhole, last part. -/
set_option linter.unusedVariables false
set_option linter.unusedSimpArgs false
namespace Go.Proofs.Ytipijkpjmpejlaa
open Go.RowKit
theorem append_err {D : DS} {P : PS} {b : List Int} (h : ¬ (P.dead = false ∧ P.img.gen ≠ 0 ∧ b.length ≤ 32768 ∧ (P.used : Int) + partsN b.length ≤ 1024)) : ∃ e, e ≠ 0 ∧ appendOf D P b = (D, P, e) := by
  unfold appendOf
  split
  · exact ⟨5, by decide, rfl⟩
  · rename_i h1
    split
    · exact ⟨170, by decide, rfl⟩
    · rename_i h2
      split
      · exact ⟨3, by decide, rfl⟩
      · rename_i h3
        split
        · exact ⟨20, by decide, rfl⟩
        · rename_i h4
          exact absurd ⟨by simpa using h1, h2, by omega, by omega⟩ h
theorem append_held {B N : Int} {D : DS} {P : PS} {b : List Int} (h : Held B N D P) (hB : 1 ≤ B ∧ B ≤ 1000) (hN : 0 ≤ N ∧ N ≤ 1000000) (hb : Bytes b) :
    ∃ ws, (appendOf D P b).1.L = D.L ++ ws ∧ Held B N (appendOf D P b).1 (appendOf D P b).2.1 ∧ (∀ o, o < ws.length → Told B N (secOf (D.L ++ ws.take o)) P.img.recs) ∧ (appendOf D P b).2.1.img.recs = (if (appendOf D P b).2.2 = 0 then P.img.recs ++ [b] else P.img.recs) := by
  by_cases hc : P.dead = false ∧ P.img.gen ≠ 0 ∧ b.length ≤ 32768 ∧ (P.used : Int) + partsN b.length ≤ 1024
  · obtain ⟨hd, hg, hl, hu⟩ := hc
    have hf := append_fit h.fit D hb
    have hn := partsN_range hl
    rcases h.st with ⟨e, _⟩ | ⟨g1, b1, hw, hcl⟩
    · exact absurd e hg
    have gw := hw.g1
    have hh := hw.h
    have bw := hw.b1
    have hcn := hw.count
    have hm := hw.most
    have hP : ∀ o, Parts (secOf D.L) _ P.img.gen P.img.half P.img.boot (P.img.recs.length + 1) P.used (partsN b.length).toNat o b := fun o => parts_sec (x := P.img) (record := P.img.recs.length + 1) (at' := P.used) (n := (partsN b.length).toNat) (o := o) (bs := b) (L := D.L) (by omega) (by omega) (by omega)
    rw [append_eq hd h.down h.armed h.fit.half hg hl hu] at hf ⊢
    refine ⟨_, rfl, ⟨hd, hf, rfl, rfl, .inr ⟨g1, b1, ?_⟩⟩, fun o ho => ?_, rfl⟩
    · show Wet (secOf (D.L ++ (partWs P.img (P.img.recs.length + 1) P.used b).map padW)) P.img.gen P.img.half P.img.boot (P.img.recs ++ [b]) (P.used + (partsN b.length).toNat) ∧ Clean (secOf (D.L ++ (partWs P.img (P.img.recs.length + 1) P.used b).map padW)) P.img.gen P.img.half P.img.boot (P.img.recs ++ [b]).length (P.used + (partsN b.length).toNat)
      rw [all_parts]
      exact hw.whole hcl (hP _) hl rfl (by omega) (by omega) (by omega)
    · have ho' : o < (partsN b.length).toNat := by simpa [partWs] using ho
      have ht := take_parts P.img (P.img.recs.length + 1) P.used b [] o (by omega)
      rw [List.append_nil] at ht
      rw [ht]
      exact .inr ⟨_, _, _, _, g1, b1, hw.part hcl (hP o) ho' (by omega) (by omega) (by omega)⟩
  · obtain ⟨e, he, ha⟩ := append_err (D := D) hc
    rw [ha]
    exact ⟨[], by simp, h, fun o ho => by simp at ho, by rw [if_neg he]⟩
/-- An opening. -/
theorem told_open {B N : Int} {D : DS} {rs : List (List Int)} (hd : D.down = false) (ha : D.armed = false) (hy : D.Byt) (h : Told B N (secOf D.L) rs) (hB : 1 ≤ B ∧ B < 1000) (hN : N ≤ 1000000) :
    ∃ D' P x x', openOf D = (D', some P, 0) ∧ Held (B + 1) N D' P ∧ P.img.recs = rs ∧ P.img.gen = x.gen ∧ lookOf D = (x, 0) ∧ lookOf D' = (x', 0) ∧ x.recs = rs ∧ x'.recs = rs ∧ x'.gen = x.gen ∧ (x.gen ≠ 0 → x'.boot = x.boot + 1 ∧ 1 ≤ x.boot ∧ x.boot ≤ 1000) ∧ (D' = D ∨ ∃ bs, D' = D.write 0 bs) := by
  rcases h with ⟨hb, rfl⟩ | ⟨g, half, b, used, hg, hb, hw⟩
  · have hi := blank_image hd hb
    have hl : lookOf D = (Img.zero, 0) := by unfold lookOf; rw [hi]
    refine ⟨D, ⟨Img.zero, 0, false⟩, Img.zero, Img.zero, ?_, ⟨rfl, Img.zero_fit, hd, ha, .inl ⟨rfl, hb, rfl⟩⟩, rfl, rfl, hl, hl, rfl, rfl, rfl, fun h => absurd rfl h, .inl rfl⟩
    unfold openOf
    rw [hi]
    rfl
  · have gw := hw.g1
    have hh := hw.h
    have bw := hw.b1
    have hi := wet_image hd hw (by omega) (by omega)
    have hf := imageOf_fit hy
    rw [hi] at hf
    have hwr : D.write 0 (bytes0 g half (b + 1)) = ⟨D.L ++ [(0, padB (bytes0 g half (b + 1)))], false, D.armed, D.left - 1⟩ := by
      unfold DS.write
      rw [if_neg (by simp [hd]), if_neg (by rw [bytes0_len]; omega), if_neg (by simp [ha])]
    have he : D.err 0 (bytes0 g half (b + 1)) = 0 := by
      unfold DS.err
      rw [if_neg (by simp [hd]), if_neg (by rw [bytes0_len]; omega), if_neg (by simp [ha])]
    have hn : (⟨g, half, b, rs⟩ : Img).next = ⟨g, half, b + 1, rs⟩ := by
      unfold Img.next
      rw [IntWalk.wrap64_in _ (by show -9223372036854775808 ≤ b + 1 ∧ b + 1 ≤ 9223372036854775807; omega)]
    have ho := wet_open (S' := secOf (D.write 0 (bytes0 g half (b + 1))).L) hw (by rw [hwr]; show secOf (D.L ++ [(0, _)]) 0 = _; rw [secOf_snoc, if_pos rfl]) (fun k hk => by rw [hwr]; show secOf (D.L ++ [(0, _)]) k = _; rw [secOf_snoc, if_neg hk])
    have hi' := wet_image (D := D.write 0 (bytes0 g half (b + 1))) (by rw [hwr]) ho.1 (by omega) (by omega)
    refine ⟨D.write 0 (bytes0 g half (b + 1)), ⟨⟨g, half, b + 1, rs⟩, used, false⟩, ⟨g, half, b, rs⟩, ⟨g, half, b + 1, rs⟩, ?_, ⟨rfl, ⟨hf.most, hf.count, hf.recs, hf.half⟩, by rw [hwr], by rw [hwr]; exact ha, .inr ⟨hg, by show b + 1 ≤ B + 1; omega, ho.1, ho.2⟩⟩, rfl, rfl, by unfold lookOf; rw [hi], by unfold lookOf; rw [hi'], rfl, rfl, rfl, fun _ => ⟨rfl, bw, by show b ≤ 1000; omega⟩, .inr ⟨_, rfl⟩⟩
    unfold openOf
    rw [hi]
    dsimp only
    rw [hn, if_neg (by simp), if_neg (by omega)]
    show (if D.err 0 (bytes0 g half (b + 1)) = 0 then _ else _) = _
    rw [if_pos he]
    rfl
/-- What an act makes, and what a cut inside of it tells. -/
theorem act_held {B N : Int} {D : DS} {P : PS} {x : Act'} (h : Held B N D P) (hB : 1 ≤ B ∧ B ≤ 1000) (hN : 0 ≤ N ∧ N ≤ 1000000) (hb : Bytes x.b) :
    ∃ ws, (actOf D P x).1.L = D.L ++ ws ∧ Held B (N + 1) (actOf D P x).1 (actOf D P x).2.1 ∧ (∀ o, o < ws.length → Told B N (secOf (D.L ++ ws.take o)) P.img.recs) ∧ (actOf D P x).2.1.img.recs = (if (actOf D P x).2.2 = 0 then (if x.kind = 1 ∨ P.img.gen = 0 then [x.b] else P.img.recs ++ [x.b]) else P.img.recs) := by
  unfold actOf
  by_cases hk : x.kind = 1 ∨ P.img.gen = 0
  · simp only [if_pos hk]
    exact snap_held h hB hN hb
  · simp only [if_neg hk]
    obtain ⟨ws, h1, h2, h3, h4⟩ := append_held h hB hN hb
    exact ⟨ws, h1, h2.mono (by omega), h3, h4⟩
end Go.Proofs.Ytipijkpjmpejlaa
