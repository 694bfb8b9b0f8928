import Derived.Test.YtipijkpjmpejlaaDisk
/- The contracts of the program's disk, on: write, read, cut, arm, up, down. -/
set_option linter.unusedVariables false
set_option linter.unusedSimpArgs false
namespace Go.Proofs.Ytipijkpjmpejlaa
open Go.RowKit
theorem DiskA.c0 {w : World} {p bm : Nat} {v : Value} {L : List (Int × List Int)} {down armed : Bool} {left : Int} (h : DiskA w p bm v L down armed left) : w.cell? ⟨p, 0, none⟩ = some (.map (some bm)) := by simp [World.cell?, h.blk]
theorem DiskA.c1 {w : World} {p bm : Nat} {v : Value} {L : List (Int × List Int)} {down armed : Bool} {left : Int} (h : DiskA w p bm v L down armed left) : w.cell? ⟨p, 1, none⟩ = some v := by simp [World.cell?, h.blk]
theorem DiskA.c2 {w : World} {p bm : Nat} {v : Value} {L : List (Int × List Int)} {down armed : Bool} {left : Int} (h : DiskA w p bm v L down armed left) : w.cell? ⟨p, 2, none⟩ = some (.bool down) := by simp [World.cell?, h.blk]
theorem DiskA.c3 {w : World} {p bm : Nat} {v : Value} {L : List (Int × List Int)} {down armed : Bool} {left : Int} (h : DiskA w p bm v L down armed left) : w.cell? ⟨p, 3, none⟩ = some (.bool armed) := by simp [World.cell?, h.blk]
theorem DiskA.c4 {w : World} {p bm : Nat} {v : Value} {L : List (Int × List Int)} {down armed : Bool} {left : Int} (h : DiskA w p bm v L down armed left) : w.cell? ⟨p, 4, none⟩ = some (.int .i64 left) := by simp [World.cell?, h.blk]
theorem DiskA.fr {w : World} {p bm : Nat} {v : Value} {L : List (Int × List Int)} {down armed : Bool} {left : Int} (h : DiskA w p bm v L down armed left) (i : Nat) : w.frozen? ⟨p, i, none⟩ = false := by simp [World.frozen?, h.blk]
/-- Its own cells written, the rest stands. -/
theorem DiskA.turn {w w' : World} {p bm : Nat} {v : Value} {L : List (Int × List Int)} {down armed down' armed' : Bool} {left left' : Int} (h : DiskA w p bm v L down armed left) (hc : Chg [p] w w')
    (hb : w'.heap[p]? = some (.cells #[.map (some bm), v, .bool down', .bool armed', .int .i64 left'] 126 (0, 0))) : DiskA w' p bm v L down' armed' left' := by
  obtain ⟨h1, h2⟩ := h.apart
  obtain ⟨m, hm, hv⟩ := h.map
  exact ⟨hb, ⟨m, hm.kept hc (by simpa using fun e => h1 e.symm), hv⟩, own_kept h.log hc (fun k hk => by simpa using (h2 k hk).1), h.len⟩
/-- Bytes that can be read. -/
def BytesAt (w : World) (A : Option Addr) (bs : List Int) : Prop := 0 < bs.length → ∃ ad, A = some ad ∧ ad.block < w.heap.size ∧ ∀ j v, (u8s bs)[j]? = some v → w.cell? (ad.add j) = some v
theorem add_block (a : Addr) (j : Nat) : (a.add j).block = a.block := by unfold Addr.add; split <;> rfl
theorem setCell_size (w : World) (a : Addr) (v : Value) : (w.setCell a v).heap.size = w.heap.size := by simp [World.setCell]
theorem BytesAt.kept {w w' : World} {A : Option Addr} {bs : List Int} (h : BytesAt w A bs) {l : List Nat} (hc : Chg l w w') (hl : ∀ ad, A = some ad → ad.block < w.heap.size → ad.block ∉ l) : BytesAt w' A bs := fun hp => by
  obtain ⟨ad, rfl, hb, hcell⟩ := h hp
  exact ⟨ad, rfl, Nat.lt_of_lt_of_le hb hc.size, fun j v hv => hc.cell (hcell j v hv) (by rw [add_block]; exact hl ad rfl hb)⟩
def padB (bs : List Int) : List Int := bs ++ List.replicate (64 - bs.length) 0
theorem padB_len (bs : List Int) (h : bs.length ≤ 64) : (padB bs).length = 64 := by simp [padB]; omega
theorem splice_pad (n : Int) (bs : List Int) (h : bs.length ≤ 64) : splice (.int .i64 n :: u8s zeros) 1 (u8s bs) = .int .i64 n :: u8s (padB bs) := by
  have hr : (u8s zeros).drop bs.length = u8s (List.replicate (64 - bs.length) 0) := by
    unfold u8s zeros
    rw [← List.map_drop, List.drop_replicate]
  simp only [splice, List.take_succ_cons, List.take_zero, List.singleton_append, List.cons.injEq, true_and]
  rw [show 1 + (u8s bs).length = bs.length + 1 from by simp [u8s]; omega, List.drop_succ_cons, hr]
  simp [padB, u8s]

theorem szU8 : (Try.prog.info? 5).map (·.size) = some 1 := by kernel_rfl
theorem write_nil (n : Int) (A : Option Addr) (len cap : Nat) (w : World) : Calls Try.prog 29 #[.pointer none, .int .i64 n, .slice A len cap] w fun e w' => e = .returned (.int .i64 1) ∧ w = w' := by
  go_enter Try.func29, Try.ntmps29
  go_wp2
  go_ret
  exact ⟨rfl, rfl⟩
theorem write_down (p bm : Nat) (v : Value) (L : List (Int × List Int)) (armed : Bool) (left n : Int) (A : Option Addr) (len cap : Nat) (w : World) (hD : DiskA w p bm v L true armed left) :
    Calls Try.prog 29 #[.pointer (some ⟨p, 0, none⟩), .int .i64 n, .slice A len cap] w fun e w' => e = .returned (.int .i64 5) ∧ w = w' := by
  have c2 := hD.c2
  go_enter Try.func29, Try.ntmps29
  go_wp2
  go_ret
  exact ⟨rfl, rfl⟩
theorem write_arg (p bm : Nat) (v : Value) (L : List (Int × List Int)) (armed : Bool) (left n : Int) (A : Option Addr) (len cap : Nat) (w : World) (hD : DiskA w p bm v L false armed left) (h : n < 0 ∨ 2049 ≤ n ∨ 64 < len) :
    Calls Try.prog 29 #[.pointer (some ⟨p, 0, none⟩), .int .i64 n, .slice A len cap] w fun e w' => e = .returned (.int .i64 2) ∧ w = w' := by
  have c2 := hD.c2
  by_cases h1 : n < 0
  · have g1 : decide (n < 0) = true := by simpa using h1
    go_enter Try.func29, Try.ntmps29
    go_wp2
    go_ret
    exact ⟨rfl, rfl⟩
  · have g1 : decide (n < 0) = false := by simpa using h1
    by_cases h2 : 2049 ≤ n
    · have g2 : decide (2049 ≤ n) = true := by simpa using h2
      go_enter Try.func29, Try.ntmps29
      go_wp2
      go_ret
      exact ⟨rfl, rfl⟩
    · have g2 : decide (2049 ≤ n) = false := by simpa using h2
      have g3 : 64 < len := by omega
      go_enter Try.func29, Try.ntmps29
      go_wp2
      go_ret
      exact ⟨rfl, rfl⟩
theorem write_last (p bm : Nat) (v : Value) (L : List (Int × List Int)) (n : Int) (A : Option Addr) (len cap : Nat) (w : World) (hD : DiskA w p bm v L false true 0) (h1 : 0 ≤ n) (h2 : n < 2049) (h3 : len ≤ 64) :
    Calls Try.prog 29 #[.pointer (some ⟨p, 0, none⟩), .int .i64 n, .slice A len cap] w fun e w' => e = .returned (.int .i64 5) ∧ DiskA w' p bm v L true true 0 ∧ Chg [p] w w' := by
  have c2 := hD.c2
  have c3 := hD.c3
  have c4 := hD.c4
  have f2 := hD.fr 2
  have HD := Lib.hid hD
  clear hD
  have g1 : decide (n < 0) = false := by simp; omega
  have g2 : decide (2049 ≤ n) = false := by simp; omega
  go_enter Try.func29, Try.ntmps29
  go_wp2
  go_ret
  have hC : Chg [p] w (w.setCell ⟨p, 2, none⟩ (.bool true)) := (Chg.refl _ _).setCell _ _ (by simp)
  exact ⟨rfl, HD.out.turn hC (heap_setCell_same w p 2 _ _ _ HD.out.blk), hC⟩
set_option maxHeartbeats 4000000 in
set_option maxRecDepth 100000 in
theorem write_ok (p bm : Nat) (v : Value) (L : List (Int × List Int)) (armed : Bool) (left n : Int) (A : Option Addr) (bs : List Int) (cap : Nat) (w : World) (hD : DiskA w p bm v L false armed left) (h1 : 0 ≤ n) (h2 : n < 2049) (h3 : bs.length ≤ 64)
    (ha : armed = false ∨ left ≠ 0) (hl1 : -1125899906842624 ≤ left) (hl2 : left ≤ 1125899906842624) (hB : BytesAt w A bs) (hBp : 0 < bs.length → ∀ ad, A = some ad → ad.block ≠ p) (hL : L.length < 1048576) :
    Calls Try.prog 29 #[.pointer (some ⟨p, 0, none⟩), .int .i64 n, .slice A bs.length cap] w fun e w' => e = .returned (.int .i64 0) ∧ ∃ v', DiskA w' p bm v' (L ++ [(n, padB bs)]) false armed (left - 1) ∧ Chg (p :: bm :: v.ownBlock.toList) w w' ∧ (v'.ownBlock = v.ownBlock ∨ ∃ b, v'.ownBlock = some b ∧ w.heap.size ≤ b) := by
  have c2 := hD.c2
  have c3 := hD.c3
  have c4 := hD.c4
  have f4 := hD.fr 4
  have hp := lt_of_block hD.blk
  have HD := Lib.hid hD
  have HB := Lib.hid hB
  clear hD hB
  have g1 : decide (n < 0) = false := by simp; omega
  have g2 : decide (2049 ≤ n) = false := by simp; omega
  have hlb : (u8s bs).length = bs.length := by simp [u8s]
  have HLB := Lib.hid hlb
  have hpl : (Value.int .i64 n :: u8s (padB bs)).length = 65 := by simp [u8s, padB_len bs h3]
  have HPL := Lib.hid hpl
  clear hlb hpl
  have hgr : ∀ b : Bool, armed = b → (b = true → (left == 0) = false) := by
    intro b e hb; subst e
    rcases ha with h | h
    · rw [h] at hb; cases hb
    · simpa using h
  have hpos : ∀ X : World, Chg [p] w X → 0 < (u8s bs).length → some (⟨w.heap.size, 1, none⟩ : Addr) = some ⟨w.heap.size, 1, none⟩ ∧ ∃ ad, A = some ad ∧ ∀ j v, (u8s bs)[j]? = some v → X.cell? (ad.add j) = some v := by
    intro X hX h
    rw [HLB.out] at h
    obtain ⟨ad, hA, hb, hc⟩ := HB.out h
    exact ⟨rfl, ad, hA, fun j v hv => hX.cell (hc j v hv) (by rw [add_block]; simpa using hBp h ad hA)⟩
  have HPOS := Lib.hid hpos
  clear hpos
  have hall0 : ((.int .i64 n :: u8s zeros).toArray).all (·.oneCell') = true := by
    rw [Array.all_eq_true_iff_forall_mem]; intro u hu
    rcases List.mem_cons.1 (by simpa using hu) with rfl | hu
    · rfl
    · exact u8s_one zeros u hu
  have HA0 := Lib.hid hall0
  clear hall0 ha
  cases armed
  all_goals
    have g3 := hgr _ rfl
    simp only [forall_const, Bool.false_eq_true, false_implies] at g3
    clear hgr
    go_enter Try.func29, Try.ntmps29
    go_wp2_with (first
      | (refine wpList_build rfl 130 #[(0, .tmp 46)] rfl #[(0, .int .i64 n)] rfl _ (build65 n) ?_)
      | (refine wpList_alloc rfl 130 rfl _ zero65 ?_
         rw [setCell_size]
         refine wpList_world (fun W => W.heap[w.heap.size]? = some (.cells (.int .i64 0 :: u8s zeros).toArray 130 (0, 0)) ∧ Chg [p] w W ∧ W.heap[p]? = some (.cells #[.map (some bm), v, .bool false, .bool _, .int .i64 (left - 1)] 126 (0, 0)) ∧ W.heap.size = w.heap.size + 1) ⟨heap_new _ _ (by rw [setCell_size]), ((Chg.refl _ _).setCell _ _ (by simp)).alloc _, heap_old (heap_setCell_same w p 4 _ _ _ HD.out.blk) _, by simp [setCell_size]⟩ ?_
         rintro W ⟨hw1, hw2, hw3, hw4⟩
         refine wpList_store_row rfl 130 (.tmp 7) (.tmp 47) rfl w.heap.size rfl _ rfl _ _ hw1 szPut rfl HA0.out ?_
         refine wpList_world (fun X => X.heap[w.heap.size]? = some (.cells (.int .i64 n :: u8s zeros).toArray 130 (0, 0)) ∧ Chg [w.heap.size] W X ∧ X.heap.size = w.heap.size + 1) ⟨setRow_heap _ _ _ _ _ _ hw1, setRow_chg _ _ _, by rw [← hw4]; simp [World.setRow]⟩ ?_
         rintro X ⟨hx1, hx2, hx4⟩
         have hx3 := hx2.at hw3 (by simp; omega)
         have HX := Lib.hid (And.intro hx1 (And.intro ((hw2.mono (l' := [p]) (by simp)).andThen hx2 (by simp)) (And.intro hx3 hx4)))
         clear hw1 hw2 hw3 hx1 hx2 hx3 hx4 hw4)
      | (refine wpList_copy_splice rfl (.tmp 49) (.tmp 50) 49 49 rfl 5 Try.underlying49 szU8 (some ⟨w.heap.size, 1, none⟩) A 64 64 bs.length cap rfl rfl w.heap.size 1 (.int .i64 n :: u8s zeros) 130 HX.out.1 (u8s bs) (by rw [HLB.out]; exact (Nat.min_eq_left h3).symm) (fun h => HPOS.out X HX.out.2.1 h) (by rw [HLB.out]; show 1 + bs.length ≤ 65; omega) (u8s_one bs) w.heap.size X (Below.refl _ _) (Nat.le_refl _) ?_
         intro Y hy1 hy2
         have hyb := hy1.out
         rw [splice_pad n bs h3] at hyb
         have hxy : Chg [w.heap.size] X Y := ⟨hy2.os, hy2.tape, hy2.output, hy2.size, fun k hk hn => hy2.block k (by have := HX.out.2.2.2; simp at hn; omega)⟩
         have hwy : Chg [p] w Y := HX.out.2.1.andThen hxy (by simp)
         have HY := Lib.hid (And.intro hyb (And.intro hwy (HD.out.turn hwy (hxy.at HX.out.2.2.1 (by simp; omega)))))
         clear hy1 hy2 hyb hxy hwy)
      | (refine wpList_load_mid rfl 130 (.tmp 7) rfl w.heap.size 0 rfl _ _ (range_all HY.out.1) Try.underlying130 rfl (by rw [HPL.out]; exact szPut) ?_)
      | (refine (puts_any p bm v L _ _ _ n (padB bs) Y HY.out.2.2 (padB_len bs h3) hL).mono ?_
         rintro e Z ⟨rfl, v', hZ1, hZ2, hZ3⟩
         have HZ := Lib.hid (And.intro hZ1 (And.intro hZ2 hZ3))
         clear hZ1 hZ2 hZ3))
    go_ret
    refine ⟨rfl, v', HZ.out.1, (HY.out.2.1.mono (by simp)).trans HZ.out.2.1, ?_⟩
    rcases HZ.out.2.2 with h | ⟨b, hb1, hb2⟩
    · exact .inl h
    · exact .inr ⟨b, hb1, Nat.le_trans HY.out.2.1.size hb2⟩
end Go.Proofs.Ytipijkpjmpejlaa
