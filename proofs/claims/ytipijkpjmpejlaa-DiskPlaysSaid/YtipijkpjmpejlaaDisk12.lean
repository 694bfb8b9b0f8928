import Derived.Test.YtipijkpjmpejlaaDisk10
/- The contracts of the reference's disk: write, arm, up. -/
import Derived.Test.YtipijkpjmpejlaaDisk11
/- The contracts of the reference's disk, on: a write that may be, read. -/
set_option linter.unusedVariables false
set_option linter.unusedSimpArgs false
namespace Go.Proofs.Ytipijkpjmpejlaa
open Go.RowKit
theorem infoPutR : (Try.prog.info? 134).map (fun i => (i.zero, i.size, i.bytes)) = some (some (.agg #[.int .i64 0, .slice none 0 0]), 2, 32) := by kernel_rfl
theorem buildPutR (n : Int) (g c d : Nat) (w : World) : (Instr.build 134 #[(0, .int .i64 n), (1, .slice (some ⟨g, 0, none⟩) c d)]).run Try.prog w = .ok (.agg #[.int .i64 n, .slice (some ⟨g, 0, none⟩) c d]) w := by kernel_rfl
theorem RDiskA.apart {w : World} {r : Nat} {v : Value} {L : List (Int × List Int)} {bv : List Value} {dead armed : Bool} {left : Int} (h : RDiskA w r v L bv dead armed left) : ∀ k, v.ownBlock = some k → k ≠ r ∧ k < w.heap.size := by
  intro k hk
  rcases h.log.2 with ⟨rfl, _⟩ | ⟨g, cap, cur, rfl, _, hh, _⟩
  · cases hk
  · cases hk
    refine ⟨fun e => ?_, lt_of_block hh⟩
    subst e
    rw [h.blk] at hh
    injection hh with hh
    injection hh with _ ht
    exact absurd ht (by decide)
set_option maxHeartbeats 4000000 in
set_option maxRecDepth 100000 in
theorem rwrite_ok (r : Nat) (v : Value) (L : List (Int × List Int)) (bv : List Value) (armed : Bool) (left n : Int) (A : Option Addr) (bs : List Int) (cap : Nat) (w : World) (hD : RDiskA w r v L bv false armed left) (h1 : 0 ≤ n) (h2 : n < 2049) (h3 : bs.length ≤ 64)
    (ha : armed = true → left ≠ 0) (hl1 : -1125899906842624 ≤ left) (hl2 : left ≤ 1125899906842624) (hB : BytesAt w A bs) (hBp : 0 < bs.length → ∀ ad, A = some ad → ad.block ≠ r) (hL : L.length < 1048576) :
    Calls Try.prog 33 #[.pointer (some ⟨r, 0, none⟩), .int .i64 n, .slice A bs.length cap] w fun e w' => e = .returned (.int .i64 0) ∧ ∃ v', (∃ bv', RDiskA w' r v' (L ++ [(n, padB bs)]) bv' false armed (if armed = true then left - 1 else left)) ∧ Chg (r :: v.ownBlock.toList) w w' ∧ (v'.ownBlock = v.ownBlock ∨ ∃ b, v'.ownBlock = some b ∧ w.heap.size ≤ b) := by
  obtain ⟨ip, hi, hz0, hz1, hz2⟩ := info_parts infoU8
  have HI := Lib.hid (And.intro hi (And.intro hz0 (And.intro hz1 hz2)))
  obtain ⟨ir, ji, jz0, jz1, jz2⟩ := info_parts infoPutR
  have jzs : (Value.agg #[.int .i64 0, .slice none 0 0]).cells.size = ir.size := by rw [jz1]; kernel_rfl
  have HJ := Lib.hid (And.intro ji (And.intro jz0 (And.intro jz1 (And.intro jz2 jzs))))
  have c1 := hD.c1
  have c2 := hD.c2
  have c3 := hD.c3
  have f3 := hD.fr 3
  have hp := lt_of_block hD.blk
  have hap := hD.apart
  have HAP := Lib.hid hap
  have HD := Lib.hid hD
  have HB := Lib.hid hB
  clear hD hB hap hi hz0 hz1 hz2 ji jz0 jz1 jz2 jzs
  have g1 : decide (n < 0) = false := by simp; omega
  have g2 : decide (2049 ≤ n) = false := by simp; omega
  have g3 : decide (64 < bs.length) = false := by simp; omega
  have hlb : (u8s bs).length = bs.length := by simp [u8s]
  have HLB := Lib.hid hlb
  clear hlb
  obtain ⟨l', hl'⟩ : ∃ l' : Int, l' = (if armed = true then left - 1 else left) := ⟨_, rfl⟩
  rw [← hl']
  have HL' := Lib.hid hl'
  clear hl'
  have hfin : ∀ X gw A' c', X.heap[r]? = some (.cells #[.slice A' (L.length + 1) c', .bool false, .bool armed, .int .i64 l'] 62 (0, 0)) → X.ownsRow 0 134 2 (.slice A' (L.length + 1) c') (L.length + 1) (rcells L bv ++ [.int .i64 n, .slice (some ⟨gw, 0, none⟩) 64 64]) → X.heap[gw]? = some (.cells (u8s (padB bs)).toArray 5 (0, 0)) → Chg (r :: v.ownBlock.toList) w X → ((Value.slice A' (L.length + 1) c').ownBlock = v.ownBlock ∨ ∃ b, (Value.slice A' (L.length + 1) c').ownBlock = some b ∧ w.heap.size ≤ b) →
      ∃ v' bv', RDiskA X r v' (L ++ [(n, padB bs)]) bv' false armed l' ∧ Chg (r :: v.ownBlock.toList) w X ∧ (v'.ownBlock = v.ownBlock ∨ ∃ b, v'.ownBlock = some b ∧ w.heap.size ≤ b) := by
    intro X gw A' c' hb ho hg hC hat
    refine ⟨_, bv ++ [.slice (some ⟨gw, 0, none⟩) 64 64], ⟨hb, ?_, ?_, ?_, ?_⟩, hC, hat⟩
    · rw [rcells_snoc _ _ _ _ HD.out.bvl, List.length_append, List.length_singleton]; exact ho
    · intro x hx
      rcases List.mem_append.1 hx with h | h
      · exact HD.out.len x h
      · simp at h; subst h; exact padB_len bs h3
    · simp [HD.out.bvl]
    · intro i x u hx hu
      by_cases hi : i < L.length
      · rw [List.getElem?_append_left hi] at hx
        rw [List.getElem?_append_left (by rw [HD.out.bvl]; exact hi)] at hu
        obtain ⟨g, c, e, hh⟩ := HD.out.byt i x u hx hu
        exact ⟨g, c, e, hC.at hh (HD.out.typed.1 _ _ _ _ hh (by decide))⟩
      · rw [List.getElem?_append_right (by omega)] at hx
        rw [List.getElem?_append_right (by rw [HD.out.bvl]; omega), HD.out.bvl] at hu
        have h0 : i - L.length = 0 := by
          have := (List.getElem?_eq_some_iff.1 hx).1; simp at this; exact this
        rw [h0] at hx hu
        simp at hx hu
        subst hx hu
        exact ⟨gw, 64, rfl, hg⟩
  have HF := Lib.hid hfin
  clear hfin
  have hgr : ∀ b : Bool, armed = b → (b = true → (left == 0) = false) := by
    intro b e hb; subst e
    simpa using ha hb
  clear ha
  cases armed
  all_goals
    have g4 := hgr _ rfl
    simp only [forall_const, Bool.false_eq_true, false_implies] at g4
    clear hgr
    go_enter Try.func33, Try.ntmps33
    go_wp2_with (first
      | (refine wpList_world (fun W => W.heap.size = w.heap.size ∧ Chg [r] w W ∧ W.heap[r]? = some (.cells #[v, .bool false, .bool false, .int .i64 l'] 62 (0, 0))) ⟨by first | rfl | exact setCell_size _ _ _, by first | exact Chg.refl _ _ | exact (Chg.refl _ _).setCell _ _ (by simp), ?_⟩ ?_
         · have hh := HL'.out; simp at hh; subst hh; first | exact HD.out.blk | exact heap_setCell_same w r 3 _ _ _ HD.out.blk
         rintro W ⟨hw1, hw2, hw3⟩
         refine wpList_make_full _ rfl (.const (.int .i64 64)) (.const (.int .i64 64)) 49 rfl W.heap.size 5 ip _ 1 Try.underlying49 HI.out.1 HI.out.2.1 HI.out.2.2.1 .i64 .i64 64 64 64 rfl rfl rfl rfl (by rw [HI.out.2.2.2]; omega) (by unfold maxLen; omega) (Nat.le_refl _) ?_
         rintro W2 hown hg
         rw [made64] at hown
         have hW := own_full hown
         rw [hw1] at hW
         have hg2 : Chg [] W W2 := Chg.grown (Chg.refl _ _) hg (by simp)
         have HW := Lib.hid (And.intro hW.1 (And.intro (hw2.trans (hg2.mono (by simp))) (And.intro hg2 (And.intro hw2 hw3))))
         have HSZ := Lib.hid hw1
         rw [hw1]
         clear hown hg hW hw2 hw3 hg2 hw1)
      | (refine wpList_world (fun W => W.heap.size = w.heap.size ∧ Chg [r] w W ∧ W.heap[r]? = some (.cells #[v, .bool false, .bool true, .int .i64 l'] 62 (0, 0))) ⟨by first | rfl | exact setCell_size _ _ _, by first | exact Chg.refl _ _ | exact (Chg.refl _ _).setCell _ _ (by simp), ?_⟩ ?_
         · have hh := HL'.out; simp at hh; subst hh; first | exact HD.out.blk | exact heap_setCell_same w r 3 _ _ _ HD.out.blk
         rintro W ⟨hw1, hw2, hw3⟩
         refine wpList_make_full _ rfl (.const (.int .i64 64)) (.const (.int .i64 64)) 49 rfl W.heap.size 5 ip _ 1 Try.underlying49 HI.out.1 HI.out.2.1 HI.out.2.2.1 .i64 .i64 64 64 64 rfl rfl rfl rfl (by rw [HI.out.2.2.2]; omega) (by unfold maxLen; omega) (Nat.le_refl _) ?_
         rintro W2 hown hg
         rw [made64] at hown
         have hW := own_full hown
         rw [hw1] at hW
         have hg2 : Chg [] W W2 := Chg.grown (Chg.refl _ _) hg (by simp)
         have HW := Lib.hid (And.intro hW.1 (And.intro (hw2.trans (hg2.mono (by simp))) (And.intro hg2 (And.intro hw2 hw3))))
         have HSZ := Lib.hid hw1
         rw [hw1]
         clear hown hg hW hw2 hw3 hg2 hw1)
      | (refine wpList_copy_splice rfl (.tmp 49) (.tmp 50) 49 49 rfl 5 Try.underlying49 szU8 (some ⟨w.heap.size, 0, none⟩) A 64 64 bs.length cap rfl rfl w.heap.size 0 (u8s zeros) 5 HW.out.1 (u8s bs) (by rw [HLB.out]; exact (Nat.min_eq_left h3).symm)
           (fun h => by rw [HLB.out] at h; obtain ⟨ad, hA, hb, hc⟩ := HB.out h; exact ⟨rfl, ad, hA, fun j u hu => HW.out.2.1.cell (hc j u hu) (by rw [add_block]; simpa using hBp h ad hA)⟩) (by rw [HLB.out]; show 0 + bs.length ≤ 64; omega) (u8s_one bs) W.heap.size W HW.out.2.2.1.below (Nat.le_of_eq HSZ.out) ?_
         intro Y hy1 hy2
         have hyb := hy1.out
         rw [splice_zeros bs h3] at hyb
         have hWY := Chg.of_below hy2
         have d0 : Y.cell? ⟨r, 0, none⟩ = some v := by simp [World.cell?, hWY.at HW.out.2.2.2.2 (by simp)]
         have HY := Lib.hid (And.intro hyb (And.intro (HW.out.2.2.2.1.trans (hWY.mono (by simp))) (hWY.at HW.out.2.2.2.2 (by simp))))
         clear hy1 hy2 hyb hWY)
      | (refine wpList_build rfl 134 #[(0, .tmp 57), (1, .tmp 58)] rfl #[(0, .int .i64 n), (1, .slice (some ⟨w.heap.size, 0, none⟩) 64 64)] rfl _ (buildPutR n _ _ _) ?_)
      | (refine wpList_append_own_at _ rfl (.tmp 56) (.tmp 60) 60 rfl 0 134 ir _ 2 32 Try.underlying60 HJ.out.1 HJ.out.2.1 HJ.out.2.2.1 HJ.out.2.2.2.1 rfl (by omega) v L.length _ rfl
           ((own_kept HD.out.log HY.out.2.1 (fun k hk => by simpa using (HAP.out k hk).1)).alloc _) ⟨Y.heap.size, 0, none⟩ 1 1 [.int .i64 n, .slice (some ⟨w.heap.size, 0, none⟩) 64 64] rfl rfl (fun j u hu => by rw [Addr.add_mid]; exact range_all (heap_new Y _ rfl) j u hu) (fun u hu => by simp at hu; rcases hu with rfl | rfl <;> rfl) (by unfold maxLen; omega) (by omega) (Nat.zero_le _) ?_
         intro v' Z hown' hg _ hat
         have hCY : Chg v.ownBlock.toList Y Z := Chg.grown (Chg.alloc (Chg.refl _ _) _) hg (by intro k hk; rw [hk]; simp)
         have hbz := hCY.at HY.out.2.2 (fun hm => (HAP.out r (by simpa using hm)).1 rfl)
         have hgz := hCY.at HY.out.1 (fun hm => by have := (HAP.out _ (by simpa using hm)).2; omega)
         have e0 : Z.frozen? ⟨r, 0, none⟩ = false := by simp [World.frozen?, hbz]
         have z0 : Z.cell? ⟨r, 0, none⟩ = some v := by simp [World.cell?, hbz]
         obtain ⟨A', c', rfl⟩ := own_slice hown'
         have HZ := Lib.hid (And.intro hown' (And.intro hat (And.intro hCY (And.intro hbz hgz))))
         clear hown' hg hat hCY hbz hgz d0)
      | fail)
    go_ret
    have hpo : ∀ k, (Value.slice A' (L.length + 1) c').ownBlock = some k → k ≠ r := by
      intro k hk e
      subst e
      rcases HZ.out.2.1 with h | h
      · rw [h] at hk; exact (HAP.out k hk).1 rfl
      · rw [h] at hk; simp at hk; have := HY.out.2.1.size; omega
    have hCs : Chg [r] Z (Z.setCell ⟨r, 0, none⟩ (.slice A' (L.length + 1) c')) := (Chg.refl _ _).setCell _ _ (by simp)
    obtain ⟨v', bv', q1, q2, q3⟩ := HF.out _ w.heap.size A' c' (heap_setCell_same Z r 0 _ _ _ HZ.out.2.2.2.1) (own_kept HZ.out.1 hCs (fun k hk => by simpa using hpo k hk)) (hCs.at HZ.out.2.2.2.2 (by simp; omega))
      (((HY.out.2.1.mono (by simp)).trans (HZ.out.2.2.1.mono (by simp; intro i h; exact .inl (.inr h)))).trans (hCs.mono (by simp)))
      (by
        rcases HZ.out.2.1 with h | h
        · exact .inl h
        · exact .inr ⟨_, h, by simp; have := HY.out.2.1.size; omega⟩)
    exact ⟨rfl, v', ⟨bv', q1⟩, q2, q3⟩
end Go.Proofs.Ytipijkpjmpejlaa
