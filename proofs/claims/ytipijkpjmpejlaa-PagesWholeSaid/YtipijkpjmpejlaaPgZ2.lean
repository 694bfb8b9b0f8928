import Derived.Test.YtipijkpjmpejlaaPgZ
/- The plain law of PagesWhole, third part: acts and openings. -/
set_option linter.unusedVariables false
set_option linter.unusedSimpArgs false
namespace Go.Proofs.Ytipijkpjmpejlaa
open Go.RowKit
/-- What sectors tell: these records. -/
def Told (B N : Int) (S : Int → List Int) (rs : List (List Int)) : Prop := (Blank0 S ∧ rs = []) ∨ ∃ g half b used, g ≤ N ∧ b ≤ B ∧ Wet S g half b rs used
structure Held (B N : Int) (D : DS) (P : PS) : Prop where
  dead : P.dead = false
  fit : P.img.Fit P.used
  down : D.down = false
  armed : D.armed = false
  st : (P.img.gen = 0 ∧ Blank0 (secOf D.L) ∧ P.img.recs = []) ∨ (P.img.gen ≤ N ∧ P.img.boot ≤ B ∧ Wet (secOf D.L) P.img.gen P.img.half P.img.boot P.img.recs P.used ∧ Clean (secOf D.L) P.img.gen P.img.half P.img.boot P.img.recs.length P.used)
theorem Held.told {B N : Int} {D : DS} {P : PS} (h : Held B N D P) : Told B N (secOf D.L) P.img.recs := by
  rcases h.st with ⟨_, h1, h2⟩ | ⟨h1, h2, h3, _⟩
  · exact .inl ⟨h1, h2⟩
  · exact .inr ⟨_, _, _, _, h1, h2, h3⟩
theorem Held.mono {B N M : Int} {D : DS} {P : PS} (h : Held B N D P) (hn : N ≤ M) : Held B M D P := ⟨h.dead, h.fit, h.down, h.armed, h.st.imp id fun ⟨h1, h2⟩ => ⟨by omega, h2⟩⟩
theorem Told.mono {B N M : Int} {S : Int → List Int} {rs : List (List Int)} (h : Told B N S rs) (hn : N ≤ M) : Told B M S rs := h.imp id fun ⟨g, half, b, used, h1, h2⟩ => ⟨g, half, b, used, by omega, h2⟩
theorem take_parts (x : Img) (record : Int) (at' : Nat) (b : List Int) (l : List (Int × List Int)) (o : Nat) (ho : o ≤ (partsN b.length).toNat) : ((partWs x record at' b ++ l).map padW).take o = (List.range o).map (fun i => padW (partW x record at' (partsN b.length).toNat b i)) := by
  unfold partWs
  rw [List.map_append, List.map_map, List.take_append_of_le_length (by simp; omega), ← List.map_take, List.take_range, Nat.min_eq_left ho]
  rfl
theorem all_parts (x : Img) (record : Int) (at' : Nat) (b : List Int) : (partWs x record at' b).map padW = (List.range (partsN b.length).toNat).map (fun i => padW (partW x record at' (partsN b.length).toNat b i)) := by
  unfold partWs
  rw [List.map_map]
  rfl
theorem snap_held {B N : Int} {D : DS} {P : PS} {b : List Int} (h : Held B N D P) (hB : 1 ≤ B ∧ B ≤ 1000) (hN : 0 ≤ N ∧ N ≤ 1000000) (hb : Bytes b) :
    ∃ ws, (snapOf D P b).1.L = D.L ++ ws ∧ Held B (N + 1) (snapOf D P b).1 (snapOf D P b).2.1 ∧ (∀ o, o < ws.length → Told B N (secOf (D.L ++ ws.take o)) P.img.recs) ∧ (snapOf D P b).2.1.img.recs = (if (snapOf D P b).2.2 = 0 then [b] else P.img.recs) := by
  by_cases hl : b.length ≤ 32768
  · have hf := snap_fit h.fit D hb
    have hn := partsN_range hl
    have hxr := snapImg_recs P.img
    rw [snap_eq h.dead h.down h.armed h.fit.half hl] at hf ⊢
    obtain ⟨x, hx⟩ : ∃ x, snapImg P.img = x := ⟨_, rfl⟩
    have hxv : (P.img.gen = 0 → x.gen = 1 ∧ x.half = 0 ∧ x.boot = 1) ∧ (P.img.gen ≠ 0 → x.gen = P.img.gen + 1 ∧ x.half = 1 - P.img.half ∧ x.boot = P.img.boot) := by
      rw [← hx]
      unfold snapImg
      constructor
      · intro e
        rw [if_pos e, e]
        exact ⟨IntWalk.wrap64_in _ (by omega), rfl, rfl⟩
      · intro e
        rw [if_neg e]
        refine ⟨IntWalk.wrap64_in _ ?_, rfl, rfl⟩
        rcases h.st with ⟨e1, _⟩ | ⟨g1, _, hw, _⟩
        · exact absurd e1 e
        · have := hw.g1; omega
    rw [hx] at hf hxr ⊢
    clear hx
    have hS : ∀ k, secOf (D.L ++ (partWs x 1 0 b ++ [(0, x.first)]).map padW) k = if k = 0 then padB (bytes0 x.gen x.half x.boot) else secOf (D.L ++ (List.range (partsN b.length).toNat).map (fun i => padW (partW x 1 0 (partsN b.length).toNat b i))) k := fun k => by
      rw [List.map_append, ← List.append_assoc, all_parts]
      show secOf (_ ++ [(0, padB x.first)]) k = _
      rw [secOf_snoc]
      rfl
    refine ⟨_, rfl, ⟨h.dead, hf, rfl, rfl, .inr ?_⟩, fun o ho => ?_, ?_⟩
    · rcases h.st with ⟨g0, hbl, hr0⟩ | ⟨g1, b1, hw, hc⟩
      · obtain ⟨v1, v2, v3⟩ := hxv.1 g0
        have hP := parts_sec (x := x) (record := 1) (at' := 0) (n := (partsN b.length).toNat) (o := (partsN b.length).toNat) (bs := b) (L := D.L) (by omega) (by omega) (by omega)
        have hfr := wet_fresh hP (S'' := secOf (D.L ++ (partWs x 1 0 b ++ [(0, x.first)]).map padW)) (by rw [hS, if_pos rfl]) (fun k hk => by rw [hS, if_neg hk]) hl rfl (by omega) (by omega) (by omega) (fun k hk => by have := (hbl.2 k hk).2.1; omega)
          (fun j hj => by have := hbl.2 (1 + x.half * 1024 + j) (by omega); exact ⟨by omega, fun hh => by have := this.2.2 (by omega); omega⟩) (fun j hj => by have := hbl.2 (1 + (1 - x.half) * 1024 + j) (by omega); omega)
        refine ⟨by show x.gen ≤ N + 1; omega, by show x.boot ≤ B; omega, ?_⟩
        show Wet _ x.gen x.half x.boot (x.recs ++ [b]) (0 + (partsN b.length).toNat) ∧ Clean _ x.gen x.half x.boot (x.recs ++ [b]).length (0 + (partsN b.length).toNat)
        rw [hxr, Nat.zero_add]
        exact hfr
      · have gw := hw.g1
        have hh := hw.h
        have bw := hw.b1
        obtain ⟨v1, v2, v3⟩ := hxv.2 (by omega)
        have hP := parts_sec (x := x) (record := 1) (at' := 0) (n := (partsN b.length).toNat) (o := (partsN b.length).toNat) (bs := b) (L := D.L) (by omega) (by omega) (by omega)
        have e1 : 1 - (1 - P.img.half) = P.img.half := by omega
        have hfr := wet_fresh hP (S'' := secOf (D.L ++ (partWs x 1 0 b ++ [(0, x.first)]).map padW)) (by rw [hS, if_pos rfl]) (fun k hk => by rw [hS, if_neg hk]) hl rfl (by omega) (by omega) (by omega) (fun k hk => by have := hw.boots k hk; omega)
          (fun j hj => by have h1 := hw.oth j hj; have h2 := hc.two j hj; rw [v1, v2, v3]; exact ⟨h1, h2⟩) (fun j hj => by have := hw.cur j hj; rw [v1, v2, e1]; omega)
        refine ⟨by show x.gen ≤ N + 1; omega, by show x.boot ≤ B; omega, ?_⟩
        show Wet _ x.gen x.half x.boot (x.recs ++ [b]) (0 + (partsN b.length).toNat) ∧ Clean _ x.gen x.half x.boot (x.recs ++ [b]).length (0 + (partsN b.length).toNat)
        rw [hxr, Nat.zero_add]
        exact hfr
    · have ho' : o ≤ (partsN b.length).toNat := by simp [partWs] at ho; omega
      rw [take_parts _ _ _ _ _ _ ho']
      rcases h.st with ⟨g0, hbl, hr0⟩ | ⟨g1, b1, hw, hc⟩
      · obtain ⟨v1, v2, v3⟩ := hxv.1 g0
        have hP := parts_sec (x := x) (record := 1) (at' := 0) (n := (partsN b.length).toNat) (o := o) (bs := b) (L := D.L) (by omega) (by omega) (by omega)
        refine .inl ⟨⟨(hP.old 0 (.inl (by omega))).trans hbl.1, fun k hk => ?_⟩, hr0⟩
        rcases hP.nums (by omega) (by omega) (by omega) ho' (by omega) k with e | ⟨e0, e1, e2, _⟩
        · rw [e]; exact hbl.2 k hk
        · exact ⟨by omega, by omega, fun _ => by omega⟩
      · have gw := hw.g1
        have hh := hw.h
        have bw := hw.b1
        obtain ⟨v1, v2, v3⟩ := hxv.2 (by omega)
        have hP := parts_sec (x := x) (record := 1) (at' := 0) (n := (partsN b.length).toNat) (o := o) (bs := b) (L := D.L) (by omega) (by omega) (by omega)
        rw [v1, v2, v3] at hP
        exact .inr ⟨_, _, _, _, g1, b1, hw.snap hP ho' (by omega) (by omega) (by omega)⟩
    · show x.recs ++ [b] = _
      rw [hxr]
      rfl
  · have : snapOf D P b = (D, P, 3) := by unfold snapOf; rw [if_neg (by simp [h.dead]), if_pos (by omega)]
    rw [this]
    exact ⟨[], by simp, h.mono (by omega), fun o ho => by simp at ho, rfl⟩
end Go.Proofs.Ytipijkpjmpejlaa
