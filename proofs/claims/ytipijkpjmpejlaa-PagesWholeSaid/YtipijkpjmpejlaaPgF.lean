import Derived.Test.YtipijkpjmpejlaaPgE
/- The contract of pages.read: a sector's five numbers and its load. -/
set_option linter.unusedVariables false
set_option linter.unusedSimpArgs false
namespace Go.Proofs.Ytipijkpjmpejlaa
open Go.RowKit
def u32s (l : List Int) : List Value := l.map (.int .u32)
/-- The cells of a part. -/
def partC (ns ld : List Int) : List Value := u32s ns ++ u8s ld
def z5 : List Int := [0, 0, 0, 0, 0]
def z44 : List Int := List.replicate 44 0
theorem zeroPart (w : World) : (zeroValue 174).run Try.prog w = .ok (.agg (partC z5 z44).toArray) w := by kernel_rfl
theorem szPart : (Try.prog.info? 174).map (·.size) = some 49 := by kernel_rfl
/-- The k-th number of four bytes. -/
def num4 (bs : List Int) (k : Nat) : Int := numTo bs (4 * k) 4
def nums5 (bs : List Int) : List Int := [num4 bs 0, num4 bs 1, num4 bs 2, num4 bs 3, num4 bs 4]
theorem or8w (v x : Int) (hv : 0 ≤ v) (hv2 : v * 256 < 4294967296) (hx : 0 ≤ x) (hx2 : x < 256) : bits BinOp.or IntKind.u32 (v * 256 % 4294967296) (x % 4294967296) = v * 256 + x := by
  rw [Int.emod_eq_of_lt (by omega) hv2, Int.emod_eq_of_lt hx (by omega)]
  exact bits_join .u32 32 (by decide) wraps_u32 8 (v * 256) x (by omega) (by omega) (by simpa using hv2) hx (by omega) (by omega)
set_option maxRecDepth 10000 in
theorem or4 {bs : List Int} (h : Bytes bs) (k j : Nat) (hj : j < 4) (x : Int) (hx : bs.getD (k + j) 0 = x) : bits BinOp.or IntKind.u32 (numTo bs k j * 256 % 4294967296) (x % 4294967296) = numTo bs k (j + 1) := by
  have h1 := numTo_range h k j
  have h2 := h.at (k + j)
  rw [hx] at h2
  have : (256 : Int) ^ j ≤ 256 ^ 3 := by
    have := Nat.pow_le_pow_right (show 0 < 256 by omega) (show j ≤ 3 by omega)
    exact_mod_cast this
  rw [or8w _ _ h1.1 (by omega) h2.1 h2.2, ← hx]
  rfl
theorem BytesAt.byte {w : World} {ad : Addr} {bs : List Int} (h : BytesAt w (some ad) bs) {q : Nat} (hq : q < bs.length) : w.cell? (ad.add q) = some (.int .u8 (bs.getD q 0)) := by
  obtain ⟨ad', e, _, hb⟩ := h (by omega)
  cases e
  exact hb _ _ (by simp [u8s, List.getD_eq_getElem?_getD, List.getElem?_eq_getElem hq])
theorem part_one (ns ld : List Int) : ((partC ns ld).toArray).all (·.oneCell') = true := by
  rw [Array.all_eq_true_iff_forall_mem]; intro u hu
  simp only [partC, List.mem_toArray, List.mem_append, u32s, u8s, List.mem_map] at hu
  rcases hu with ⟨x, _, rfl⟩ | ⟨x, _, rfl⟩ <;> rfl
set_option maxHeartbeats 8000000 in
set_option maxRecDepth 100000 in
theorem read_part (g o : Nat) (bs : List Int) (c : Nat) (w : World) (hB : BytesAt w (some ⟨g, o, none⟩) bs) (hl : bs.length = 64) (hc : 64 ≤ c) (hby : Bytes bs) :
    Calls Try.prog 113 #[.slice (some ⟨g, o, none⟩) 64 c] w fun e w' => e = .returned (.agg (partC (nums5 bs) (bs.drop 20)).toArray) ∧ Chg [] w w' := by
  have H := Lib.hid (And.intro hB (And.intro hl (And.intro hc hby)))
  have hc' : ((64 : Nat) : Int) ≤ c := by omega
  clear hB hl hby
  go_enter Try.func113, Try.ntmps113
  go_wp2_with (first
    | (refine wpList_alloc rfl 174 rfl _ zeroPart ?_)
    | fail)
  go_loopw [6] (fun iv wr => ∃ i : Nat, i ≤ 5 ∧ iv = .int .i64 i ∧ Hid (Chg [] w wr ∧ wr.heap[w.heap.size]? = some (.cells (partC ((nums5 bs).take i ++ z5.drop i) z44).toArray 174 (0, 0)))) (fun iv _ => 5 - (intOf iv).toNat)
  case atStart => exact ⟨0, Nat.zero_le _, rfl, Lib.hid ⟨(by with_reducible repeat (first | exact Chg.refl _ _ | apply Chg.alloc | apply Chg.drew | apply Chg.drewN | (refine Chg.setCell ?_ _ _ (by simp)))), heap_new _ _ rfl⟩⟩
  case round =>
    obtain ⟨i, hi, rfl, HI⟩ := hrel
    generalize wr = wo at *
    by_cases hlt : i < 5
    · have : i = 0 ∨ i = 1 ∨ i = 2 ∨ i = 3 ∨ i = 4 := by omega
      rcases this with rfl | rfl | rfl | rfl | rfl
      · go_wp2_with fail
        go_loopw [20] (fun jv wr => ∃ j : Nat, j ≤ 4 ∧ jv = .int .i64 j ∧ Hid (Chg [] w wr ∧ wr.heap[w.heap.size]? = some (.cells (partC (((nums5 bs).take 0 ++ z5.drop 0).set 0 (numTo bs 0 j)) z44).toArray 174 (0, 0)))) (fun jv _ => 4 - (intOf jv).toNat)
        case atStart => exact ⟨0, Nat.zero_le _, rfl, Lib.hid ⟨HI.out.1, HI.out.2⟩⟩
        case round =>
          obtain ⟨j, hj, rfl, HJ⟩ := hrel
          by_cases hjl : j < 4
          · obtain ⟨x, hx⟩ : ∃ x, bs.getD (0 + j) 0 = x := ⟨_, rfl⟩
            have hby : wr.cell? ⟨g, o + j, none⟩ = some (.int .u8 x) := by rw [← hx]; rw [Nat.zero_add]; exact (by have := (H.out.1.kept HJ.out.1 (by simp)).byte (q := j) (by have := H.out.2.1; omega); rwa [Addr.add_mid] at this)
            have hce : wr.cell? ⟨w.heap.size, 0, none⟩ = some (.int .u32 (numTo bs 0 j)) := range_all HJ.out.2 0 _ rfl
            have hfr : wr.frozen? ⟨w.heap.size, 0, none⟩ = false := by simp [World.frozen?, HJ.out.2]
            have HO := Lib.hid (or4 H.out.2.2.2 0 j hjl x hx)
            clear hx
            go_wp2_with fail
            go_roundw
            case rel =>
              rw [HO.out]
              exact ⟨j + 1, by omega, by go_num, Lib.hid ⟨Chg.setCell HJ.out.1 _ _ (by simp), heap_setCell_same wr w.heap.size 0 _ _ _ HJ.out.2⟩⟩
            case measure => simp [intOf]; omega
          · obtain rfl : j = 4 := by omega
            go_wp2_with fail
            go_roundw
            case rel => exact ⟨1, by omega, by go_num, Lib.hid ⟨HJ.out.1, HJ.out.2⟩⟩
            case measure => simp [intOf]
      · go_wp2_with fail
        go_loopw [20] (fun jv wr => ∃ j : Nat, j ≤ 4 ∧ jv = .int .i64 j ∧ Hid (Chg [] w wr ∧ wr.heap[w.heap.size]? = some (.cells (partC (((nums5 bs).take 1 ++ z5.drop 1).set 1 (numTo bs 4 j)) z44).toArray 174 (0, 0)))) (fun jv _ => 4 - (intOf jv).toNat)
        case atStart => exact ⟨0, Nat.zero_le _, rfl, Lib.hid ⟨HI.out.1, HI.out.2⟩⟩
        case round =>
          obtain ⟨j, hj, rfl, HJ⟩ := hrel
          by_cases hjl : j < 4
          · obtain ⟨x, hx⟩ : ∃ x, bs.getD (4 + j) 0 = x := ⟨_, rfl⟩
            have hby : wr.cell? ⟨g, o + 4 + j, none⟩ = some (.int .u8 x) := by rw [← hx]; exact (by have := (H.out.1.kept HJ.out.1 (by simp)).byte (q := 4 + j) (by have := H.out.2.1; omega); rwa [Addr.add_mid, ← Nat.add_assoc] at this)
            have hce : wr.cell? ⟨w.heap.size, 1, none⟩ = some (.int .u32 (numTo bs 4 j)) := range_all HJ.out.2 1 _ rfl
            have hfr : wr.frozen? ⟨w.heap.size, 1, none⟩ = false := by simp [World.frozen?, HJ.out.2]
            have HO := Lib.hid (or4 H.out.2.2.2 4 j hjl x hx)
            clear hx
            go_wp2_with fail
            go_roundw
            case rel =>
              rw [HO.out]
              exact ⟨j + 1, by omega, by go_num, Lib.hid ⟨Chg.setCell HJ.out.1 _ _ (by simp), heap_setCell_same wr w.heap.size 1 _ _ _ HJ.out.2⟩⟩
            case measure => simp [intOf]; omega
          · obtain rfl : j = 4 := by omega
            go_wp2_with fail
            go_roundw
            case rel => exact ⟨2, by omega, by go_num, Lib.hid ⟨HJ.out.1, HJ.out.2⟩⟩
            case measure => simp [intOf]
      · go_wp2_with fail
        go_loopw [20] (fun jv wr => ∃ j : Nat, j ≤ 4 ∧ jv = .int .i64 j ∧ Hid (Chg [] w wr ∧ wr.heap[w.heap.size]? = some (.cells (partC (((nums5 bs).take 2 ++ z5.drop 2).set 2 (numTo bs 8 j)) z44).toArray 174 (0, 0)))) (fun jv _ => 4 - (intOf jv).toNat)
        case atStart => exact ⟨0, Nat.zero_le _, rfl, Lib.hid ⟨HI.out.1, HI.out.2⟩⟩
        case round =>
          obtain ⟨j, hj, rfl, HJ⟩ := hrel
          by_cases hjl : j < 4
          · obtain ⟨x, hx⟩ : ∃ x, bs.getD (8 + j) 0 = x := ⟨_, rfl⟩
            have hby : wr.cell? ⟨g, o + 8 + j, none⟩ = some (.int .u8 x) := by rw [← hx]; exact (by have := (H.out.1.kept HJ.out.1 (by simp)).byte (q := 8 + j) (by have := H.out.2.1; omega); rwa [Addr.add_mid, ← Nat.add_assoc] at this)
            have hce : wr.cell? ⟨w.heap.size, 2, none⟩ = some (.int .u32 (numTo bs 8 j)) := range_all HJ.out.2 2 _ rfl
            have hfr : wr.frozen? ⟨w.heap.size, 2, none⟩ = false := by simp [World.frozen?, HJ.out.2]
            have HO := Lib.hid (or4 H.out.2.2.2 8 j hjl x hx)
            clear hx
            go_wp2_with fail
            go_roundw
            case rel =>
              rw [HO.out]
              exact ⟨j + 1, by omega, by go_num, Lib.hid ⟨Chg.setCell HJ.out.1 _ _ (by simp), heap_setCell_same wr w.heap.size 2 _ _ _ HJ.out.2⟩⟩
            case measure => simp [intOf]; omega
          · obtain rfl : j = 4 := by omega
            go_wp2_with fail
            go_roundw
            case rel => exact ⟨3, by omega, by go_num, Lib.hid ⟨HJ.out.1, HJ.out.2⟩⟩
            case measure => simp [intOf]
      · go_wp2_with fail
        go_loopw [20] (fun jv wr => ∃ j : Nat, j ≤ 4 ∧ jv = .int .i64 j ∧ Hid (Chg [] w wr ∧ wr.heap[w.heap.size]? = some (.cells (partC (((nums5 bs).take 3 ++ z5.drop 3).set 3 (numTo bs 12 j)) z44).toArray 174 (0, 0)))) (fun jv _ => 4 - (intOf jv).toNat)
        case atStart => exact ⟨0, Nat.zero_le _, rfl, Lib.hid ⟨HI.out.1, HI.out.2⟩⟩
        case round =>
          obtain ⟨j, hj, rfl, HJ⟩ := hrel
          by_cases hjl : j < 4
          · obtain ⟨x, hx⟩ : ∃ x, bs.getD (12 + j) 0 = x := ⟨_, rfl⟩
            have hby : wr.cell? ⟨g, o + 12 + j, none⟩ = some (.int .u8 x) := by rw [← hx]; exact (by have := (H.out.1.kept HJ.out.1 (by simp)).byte (q := 12 + j) (by have := H.out.2.1; omega); rwa [Addr.add_mid, ← Nat.add_assoc] at this)
            have hce : wr.cell? ⟨w.heap.size, 3, none⟩ = some (.int .u32 (numTo bs 12 j)) := range_all HJ.out.2 3 _ rfl
            have hfr : wr.frozen? ⟨w.heap.size, 3, none⟩ = false := by simp [World.frozen?, HJ.out.2]
            have HO := Lib.hid (or4 H.out.2.2.2 12 j hjl x hx)
            clear hx
            go_wp2_with fail
            go_roundw
            case rel =>
              rw [HO.out]
              exact ⟨j + 1, by omega, by go_num, Lib.hid ⟨Chg.setCell HJ.out.1 _ _ (by simp), heap_setCell_same wr w.heap.size 3 _ _ _ HJ.out.2⟩⟩
            case measure => simp [intOf]; omega
          · obtain rfl : j = 4 := by omega
            go_wp2_with fail
            go_roundw
            case rel => exact ⟨4, by omega, by go_num, Lib.hid ⟨HJ.out.1, HJ.out.2⟩⟩
            case measure => simp [intOf]
      · go_wp2_with fail
        go_loopw [20] (fun jv wr => ∃ j : Nat, j ≤ 4 ∧ jv = .int .i64 j ∧ Hid (Chg [] w wr ∧ wr.heap[w.heap.size]? = some (.cells (partC (((nums5 bs).take 4 ++ z5.drop 4).set 4 (numTo bs 16 j)) z44).toArray 174 (0, 0)))) (fun jv _ => 4 - (intOf jv).toNat)
        case atStart => exact ⟨0, Nat.zero_le _, rfl, Lib.hid ⟨HI.out.1, HI.out.2⟩⟩
        case round =>
          obtain ⟨j, hj, rfl, HJ⟩ := hrel
          by_cases hjl : j < 4
          · obtain ⟨x, hx⟩ : ∃ x, bs.getD (16 + j) 0 = x := ⟨_, rfl⟩
            have hby : wr.cell? ⟨g, o + 16 + j, none⟩ = some (.int .u8 x) := by rw [← hx]; exact (by have := (H.out.1.kept HJ.out.1 (by simp)).byte (q := 16 + j) (by have := H.out.2.1; omega); rwa [Addr.add_mid, ← Nat.add_assoc] at this)
            have hce : wr.cell? ⟨w.heap.size, 4, none⟩ = some (.int .u32 (numTo bs 16 j)) := range_all HJ.out.2 4 _ rfl
            have hfr : wr.frozen? ⟨w.heap.size, 4, none⟩ = false := by simp [World.frozen?, HJ.out.2]
            have HO := Lib.hid (or4 H.out.2.2.2 16 j hjl x hx)
            clear hx
            go_wp2_with fail
            go_roundw
            case rel =>
              rw [HO.out]
              exact ⟨j + 1, by omega, by go_num, Lib.hid ⟨Chg.setCell HJ.out.1 _ _ (by simp), heap_setCell_same wr w.heap.size 4 _ _ _ HJ.out.2⟩⟩
            case measure => simp [intOf]; omega
          · obtain rfl : j = 4 := by omega
            go_wp2_with fail
            go_roundw
            case rel => exact ⟨5, by omega, by go_num, Lib.hid ⟨HJ.out.1, HJ.out.2⟩⟩
            case measure => simp [intOf]
    · obtain rfl : i = 5 := by omega
      go_wp2_with fail
      have hcs : wo.heap[w.heap.size]? = some (.cells (partC (nums5 bs) z44).toArray 174 (0, 0)) := HI.out.2
      have hbd : BytesAt wo.drew (some (⟨g, o + 20, none⟩ : Addr)) (bs.drop 20) := by
        intro h0
        refine ⟨_, rfl, ?_, fun j v hv => ?_⟩
        · obtain ⟨ad', e, hb, _⟩ := H.out.1 (by have := H.out.2.1; omega)
          cases e
          exact Nat.lt_of_lt_of_le hb HI.out.1.size
        · obtain ⟨ad', e, hb, hv2⟩ := (H.out.1.kept (HI.out.1.drew) (by simp)) (by have := H.out.2.1; omega)
          cases e
          rw [Addr.add_mid, Nat.add_assoc, ← Addr.add_mid]
          refine hv2 _ _ ?_
          rw [← hv]
          simp [u8s, List.getElem?_drop]
      have HC := Lib.hid (And.intro hcs (And.intro hbd HI.out.1))
      have hl44 : (u8s (bs.drop 20)).length = 44 := by have := H.out.2.1; simp [u8s, this]
      have HL := Lib.hid hl44
      clear hcs hbd hl44
      refine wp_region_M (fun _ => True) (fun k => k == 4) (fun k => k == 4) (by kernel_rfl) ?_
      ((try dsimp only); (try simp only [Act.put, List.setIfInBounds_toArray, List.set_cons_zero, List.set_cons_succ]))
      refine M_pure (i := 0) (v := ?_) rfl (by kernel_rfl) (by kernel_rfl) (by kernel_rfl) (fun _ _ _ h => h) (by rfl) ?hy ?_; (case hy => (intro w; go_simp; with_reducible rfl)); ((try dsimp only); (try simp only [Act.put, List.setIfInBounds_toArray, List.set_cons_zero, List.set_cons_succ]))
      refine M_pure (i := 1) (v := ?_) rfl (by kernel_rfl) (by kernel_rfl) (by kernel_rfl) (fun _ _ _ h => h) (by rfl) ?hy ?_; (case hy => (intro w; go_simp; with_reducible rfl)); ((try dsimp only); (try simp only [Act.put, List.setIfInBounds_toArray, List.set_cons_zero, List.set_cons_succ]))
      refine M_pure (i := 2) (v := ?_) rfl (by kernel_rfl) (by kernel_rfl) (by kernel_rfl) (fun _ _ _ h => h) (by rfl) ?hy ?_; (case hy => (intro w; go_simp; with_reducible rfl)); ((try dsimp only); (try simp only [Act.put, List.setIfInBounds_toArray, List.set_cons_zero, List.set_cons_succ]))
      refine M_pure (i := 3) (v := ?_) rfl (by kernel_rfl) (by kernel_rfl) (by kernel_rfl) (fun _ _ _ h => h) (by rfl) ?hy ?_; (case hy => (intro w; go_simp; with_reducible rfl)); ((try dsimp only); (try simp only [Act.put, List.setIfInBounds_toArray, List.set_cons_zero, List.set_cons_succ]))
      simp only [if_neg (show ¬ c = 20 by omega)]
      refine M_brk (i := 4) rfl (by kernel_rfl) (by rfl) (by rfl) ?_
      ((try dsimp only [EffQ]); (try simp only [Act.put, List.setIfInBounds_toArray, List.set_cons_zero, List.set_cons_succ]))
      refine wpList_copy_splice rfl (.tmp 38) (.tmp 40) 49 49 rfl 5 Try.underlying49 szU8 (some ⟨w.heap.size, 5, none⟩) (some ⟨g, o + 20, none⟩) 44 44 44 (c - 20) rfl rfl w.heap.size 5 (partC (nums5 bs) z44) 174 HC.out.1 (u8s (bs.drop 20)) (by rw [HL.out]; rfl) (fun h => ⟨rfl, _, rfl, ?c1⟩) ?c2 (u8s_one _) w.heap.size w HC.out.2.2.drew.below (Nat.le_refl _) ?_
      case c1 =>
        obtain ⟨ad', e, _, hv⟩ := HC.out.2.1 (by simpa [u8s] using h)
        cases e
        exact hv
      case c2 => rw [HL.out]; exact (by decide : 5 + 44 ≤ 49)
      intro Y hy1 hy2
      have hyb : Y.heap[w.heap.size]? = some (.cells (partC (nums5 bs) (bs.drop 20)).toArray 174 (0, 0)) := by
        have := hy1.out
        have e : splice (partC (nums5 bs) z44) 5 (u8s (bs.drop 20)) = partC (nums5 bs) (bs.drop 20) := by
          simp only [splice, partC]
          have h1 : (u32s (nums5 bs) ++ u8s z44).drop (5 + (u8s (bs.drop 20)).length) = [] := List.drop_of_length_le (by rw [HL.out]; simp [u32s, nums5, u8s, z44])
          rw [h1, List.take_append_of_le_length (by simp [u32s, nums5]), List.take_of_length_le (by simp [u32s, nums5]), List.append_nil]
        rwa [e] at this
      have hyc : Chg [] w Y := Chg.of_below hy2
      have HY := Lib.hid (And.intro hyb hyc)
      clear hy1 hy2 hyb hyc
      refine wpList_nil ?_
      refine M_done (by kernel_rfl) ?_ _
      have hpl : (partC (nums5 bs) (bs.drop 20)).length = 49 := by have := HL.out; simp [partC, u32s, nums5, this]
      have HP := Lib.hid hpl
      clear hpl
      go_wp2_with (first
        | (refine wpList_load_mid rfl 174 (.tmp 2) rfl w.heap.size 0 rfl _ _ (range_all HY.out.1) Try.underlying174 rfl (by rw [HP.out]; exact szPart) ?_)
        | (refine wpList_store_row rfl 174 (.tmp 2) (.tmp 42) rfl w.heap.size rfl _ rfl _ _ HY.out.1 (by simpa [HP.out] using szPart) rfl ?c3 ?_)
        | fail)
      case c3 => exact part_one _ _
      have hz : (Try.prog.info? 174).map (·.size) = some (partC (nums5 bs) (bs.drop 20)).toArray.size := by simpa [HP.out] using szPart
      exact bodyPost_ret (v := .agg (partC (nums5 bs) (bs.drop 20)).toArray) (results_cell_row rfl _ _ w.heap.size _ _ _ _ (by rfl) (setRow_heap _ _ _ _ _ _ HY.out.1) Try.underlying174 rfl hz) rfl ⟨rfl, HY.out.2.andThen (setRow_chg _ _ _) (by simp)⟩
end Go.Proofs.Ytipijkpjmpejlaa
