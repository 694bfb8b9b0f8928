import Derived.Test.YtipijkpjmpejlaaDisk3
/- The contracts of the program's disk, on: writes, arm, up, down, cut. -/
set_option linter.unusedVariables false
set_option linter.unusedSimpArgs false
namespace Go.Proofs.Ytipijkpjmpejlaa
open Go.RowKit
theorem writes_nil (w : World) : Calls Try.prog 32 #[.pointer none] w fun e w' => e = .returned (.int .i64 0) ∧ w = w' := by
  go_enter Try.func32, Try.ntmps32
  go_wp2
  go_ret
  exact ⟨rfl, rfl⟩
theorem writes_any (p bm : Nat) (v : Value) (L : List (Int × List Int)) (down armed : Bool) (left : Int) (w : World) (hD : DiskA w p bm v L down armed left) :
    Calls Try.prog 32 #[.pointer (some ⟨p, 0, none⟩)] w fun e w' => e = .returned (.int .i64 L.length) ∧ w = w' := by
  obtain ⟨A, c, rfl⟩ := own_slice hD.log
  have c1 := hD.c1
  go_enter Try.func32, Try.ntmps32
  go_wp2
  go_ret
  exact ⟨rfl, rfl⟩
theorem arm_nil (n : Int) (w : World) : Calls Try.prog 36 #[.pointer none, .int .i64 n] w fun e w' => e = .returned (.int .i64 1) ∧ w = w' := by
  go_enter Try.func36, Try.ntmps36
  go_wp2
  go_ret
  exact ⟨rfl, rfl⟩
theorem arm_down (p bm : Nat) (v : Value) (L : List (Int × List Int)) (armed : Bool) (left n : Int) (w : World) (hD : DiskA w p bm v L true armed left) :
    Calls Try.prog 36 #[.pointer (some ⟨p, 0, none⟩), .int .i64 n] w fun e w' => e = .returned (.int .i64 5) ∧ w = w' := by
  have c2 := hD.c2
  go_enter Try.func36, Try.ntmps36
  go_wp2
  go_ret
  exact ⟨rfl, rfl⟩
theorem arm_arg (p bm : Nat) (v : Value) (L : List (Int × List Int)) (armed : Bool) (left n : Int) (w : World) (hD : DiskA w p bm v L false armed left) (h : n < 0 ∨ 1073741824 < n) :
    Calls Try.prog 36 #[.pointer (some ⟨p, 0, none⟩), .int .i64 n] w fun e w' => e = .returned (.int .i64 2) ∧ w = w' := by
  have c2 := hD.c2
  by_cases h1 : n < 0
  · have g1 : decide (n < 0) = true := by simpa using h1
    go_enter Try.func36, Try.ntmps36
    go_wp2
    go_ret
    exact ⟨rfl, rfl⟩
  · have g1 : decide (n < 0) = false := by simpa using h1
    have g2 : decide (1073741824 < n) = true := by simp; omega
    go_enter Try.func36, Try.ntmps36
    go_wp2
    go_ret
    exact ⟨rfl, rfl⟩
theorem arm_ok (p bm : Nat) (v : Value) (L : List (Int × List Int)) (armed : Bool) (left n : Int) (w : World) (hD : DiskA w p bm v L false armed left) (h1 : 0 ≤ n) (h2 : n ≤ 1073741824) :
    Calls Try.prog 36 #[.pointer (some ⟨p, 0, none⟩), .int .i64 n] w fun e w' => e = .returned (.int .i64 0) ∧ DiskA w' p bm v L false true n ∧ Chg [p] w w' := by
  have c2 := hD.c2
  have c3 := hD.c3
  have c4 := hD.c4
  have f3 := hD.fr 3
  have f4 := hD.fr 4
  have HD := Lib.hid hD
  clear hD
  have g1 : decide (n < 0) = false := by simp; omega
  have g2 : decide (1073741824 < n) = false := by simp; omega
  go_enter Try.func36, Try.ntmps36
  go_wp2
  go_ret
  have hC : Chg [p] w ((w.setCell ⟨p, 3, none⟩ (.bool true)).setCell ⟨p, 4, none⟩ (.int .i64 n)) := ((Chg.refl _ _).setCell _ _ (by simp)).setCell _ _ (by simp)
  exact ⟨rfl, HD.out.turn hC (heap_setCell_same _ p 4 _ _ _ (heap_setCell_same w p 3 _ _ _ HD.out.blk)), hC⟩
theorem up_nil (w : World) : Calls Try.prog 38 #[.pointer none] w fun e w' => e = .returned (.int .i64 1) ∧ w = w' := by
  go_enter Try.func38, Try.ntmps38
  go_wp2
  go_ret
  exact ⟨rfl, rfl⟩
theorem up_ok (p bm : Nat) (v : Value) (L : List (Int × List Int)) (down armed : Bool) (left : Int) (w : World) (hD : DiskA w p bm v L down armed left) :
    Calls Try.prog 38 #[.pointer (some ⟨p, 0, none⟩)] w fun e w' => e = .returned (.int .i64 0) ∧ DiskA w' p bm v L false false left ∧ Chg [p] w w' := by
  have c2 := hD.c2
  have c3 := hD.c3
  have f2 := hD.fr 2
  have f3 := hD.fr 3
  have HD := Lib.hid hD
  clear hD
  go_enter Try.func38, Try.ntmps38
  go_wp2
  go_ret
  have hC : Chg [p] w ((w.setCell ⟨p, 2, none⟩ (.bool false)).setCell ⟨p, 3, none⟩ (.bool false)) := ((Chg.refl _ _).setCell _ _ (by simp)).setCell _ _ (by simp)
  exact ⟨rfl, HD.out.turn hC (heap_setCell_same _ p 3 _ _ _ (heap_setCell_same w p 2 _ _ _ HD.out.blk)), hC⟩
theorem down_nil (w : World) : Calls Try.prog 40 #[.pointer none] w fun e w' => e = .returned (.bool false) ∧ w = w' := by
  go_enter Try.func40, Try.ntmps40
  go_wp2
  go_ret
  exact ⟨rfl, rfl⟩
theorem down_any (p bm : Nat) (v : Value) (L : List (Int × List Int)) (down armed : Bool) (left : Int) (w : World) (hD : DiskA w p bm v L down armed left) :
    Calls Try.prog 40 #[.pointer (some ⟨p, 0, none⟩)] w fun e w' => e = .returned (.bool down) ∧ w = w' := by
  have c2 := hD.c2
  go_enter Try.func40, Try.ntmps40
  go_wp2
  go_ret
  exact ⟨rfl, rfl⟩

/-! ### Cut -/
/-- So many writes that can be read off a log. -/
def SrcAt (w : World) (A : Option Addr) (L : List (Int × List Int)) : Prop := ∀ i x, L[i]? = some x → ∃ g, A = some ⟨g, 0, none⟩ ∧ g < w.heap.size ∧ w.rangeAt g (i * 65) (.int .i64 x.1 :: u8s x.2)
set_option maxHeartbeats 1000000 in
set_option maxRecDepth 100000 in
theorem again_any (A : Option Addr) (c : Nat) (L : List (Int × List Int)) (cb q bm : Nat) (w : World) (hS : SrcAt w A L) (hSq : ∀ a, A = some a → a.block ≠ q ∧ a.block ≠ bm) (hLl : ∀ x ∈ L, x.2.length = 64) (hL : L.length < 1048576)
    (hq : DiskA w q bm (.slice none 0 0) [] false false 0) (hc : w.cell? ⟨cb, 0, none⟩ = some (.pointer (some ⟨q, 0, none⟩))) (hcq : cb ≠ q ∧ cb ≠ bm) :
    Calls Try.prog 77 #[.slice A L.length c, .pointer (some ⟨cb, 0, none⟩)] w fun e w' => e = .returned (.tuple #[]) ∧ ∃ v', DiskA w' q bm v' L false false 0 ∧ Chg [q, bm] w w' ∧ ∀ k, v'.ownBlock = some k → w.heap.size ≤ k := by
  have HS := Lib.hid hS
  have HQ := Lib.hid hSq
  have HL := Lib.hid hLl
  have HD := Lib.hid hq
  have HC := Lib.hid hc
  clear hS hSq hLl hq hc
  go_enter Try.func77, Try.ntmps77
  go_wp2
  go_loopw [7] (fun i wr => ∃ (k : Nat) (v' : Value), k ≤ L.length ∧ i = .int .i64 k ∧ Hid (DiskA wr q bm v' (L.take k) false false 0) ∧ Hid (Chg [q, bm] w wr) ∧ Hid (∀ k, v'.ownBlock = some k → w.heap.size ≤ k)) (fun i _ => L.length - (intOf i).toNat)
  case atStart => exact ⟨0, _, Nat.zero_le _, rfl, HD.out, Chg.refl _ _, fun k hk => by cases hk⟩
  case round =>
    obtain ⟨k, v', hk, rfl, HD2, HC2, HO⟩ := hrel
    by_cases hlt : k < L.length
    · obtain ⟨x, hx⟩ : ∃ x, L[k]? = some x := ⟨L[k], List.getElem?_eq_getElem hlt⟩
      obtain ⟨g, rfl, hg, hr⟩ := HS.out k x hx
      have hx64 : x.2.length = 64 := HL.out x (List.mem_of_getElem? hx)
      have HR := Lib.hid (HC2.out.range hr (by simpa using HQ.out _ rfl))
      have HX := Lib.hid hx
      have hcr := HC2.out.cell HC.out (by simpa using hcq)
      clear hr hx
      have hxl : (Value.int .i64 x.1 :: u8s x.2).length = 65 := by simp [u8s, hx64]
      have hs1 : (Try.prog.info? 130).map (·.size) = some (Value.int .i64 x.1 :: u8s x.2).toArray.size := by rw [List.size_toArray, hxl]; exact szPut
      have hs2 : (Value.agg (.int .i64 0 :: u8s zeros).toArray).cells.size = (Value.int .i64 x.1 :: u8s x.2).toArray.size := by
        show (Value.int .i64 0 :: u8s zeros).toArray.size = _
        rw [List.size_toArray, List.size_toArray, hxl]; rfl
      have hall : ((Value.int .i64 x.1 :: u8s x.2).toArray).all (·.oneCell') = true := by
        rw [Array.all_eq_true_iff_forall_mem]; intro u hu
        rcases List.mem_cons.1 (by simpa using hu) with rfl | hu
        · rfl
        · exact u8s_one x.2 u hu
      have HXL := Lib.hid (And.intro hxl (And.intro hs1 (And.intro hs2 hall)))
      clear hxl hs1 hs2 hall
      have htk : (L.take k).length = k := by simp; omega
      have HTK := Lib.hid htk
      clear htk
      go_wp2_with (first
        | (refine wpList_load_mid rfl 130 (.tmp 9) rfl g (k * 65) rfl _ _ HR.out Try.underlying130 rfl (by rw [HXL.out.1]; exact szPut) ?_)
        | (refine wpList_alloc rfl 130 rfl _ zero65 ?_
           refine wpList_store_row rfl 130 (.tmp 4) (.tmp 10) rfl wr.heap.size rfl (Value.int .i64 x.1 :: u8s x.2).toArray rfl _ _ (heap_new _ _ rfl) HXL.out.2.1 HXL.out.2.2.1 HXL.out.2.2.2 ?_
           rw [setRow_new]
           refine wpList_world (fun W => W.heap[wr.heap.size]? = some (.cells (Value.int .i64 x.1 :: u8s x.2).toArray 130 (0, 0)) ∧ Chg [] wr W) ⟨heap_new _ _ rfl, (Chg.refl _ _).alloc _⟩ ?_
           rintro W ⟨hw1, hw2⟩
           have HW := Lib.hid (And.intro hw1 hw2)
           have hcw := hw2.cell hcr (by simp)
           clear hw1 hw2 hcr)
        | (refine wpList_load_mid rfl 130 (.tmp 4) rfl wr.heap.size 0 rfl _ _ (range_all HW.out.1) Try.underlying130 rfl (by rw [HXL.out.1]; exact szPut) ?_)
        | (refine (puts_any q bm v' (L.take k) _ _ _ x.1 x.2 W (HD2.out.kept HW.out.2 (by simp) (by simp) (by simp)) hx64 (by rw [HTK.out]; omega)).mono ?_
           rintro e Z ⟨rfl, v2, hZ1, hZ2, hZ3⟩
           have HZ := Lib.hid (And.intro hZ1 (And.intro hZ2 hZ3))
           clear hZ1 hZ2 hZ3))
      go_roundw
      case rel =>
        refine ⟨k + 1, v2, by omega, by go_num, ?_, ?_, ?_⟩
        · show DiskA Z q bm v2 (L.take (k + 1)) false false 0
          rw [List.take_add_one, HX.out]; exact HZ.out.1
        · refine (HC2.out.trans (HW.out.2.mono (by simp))).andThen HZ.out.2.1 ?_
          intro i hi
          simp only [List.mem_cons, Option.mem_toList] at hi
          rcases hi with h | h | h
          · exact .inl (by simp [h])
          · exact .inl (by simp [h])
          · exact .inr (HO.out i h)
        · intro i hi
          rcases HZ.out.2.2 with h | ⟨b, h, hb⟩
          · exact HO.out i (by rw [← h]; exact hi)
          · rw [h] at hi; cases hi
            exact Nat.le_trans (Nat.le_trans HC2.out.size HW.out.2.size) hb
      case measure => simp [intOf]; omega
    · go_wp2
      refine bodyPost_end (results_none rfl _ _ _) rfl ⟨rfl, v', ?_, HC2.out, HO.out⟩
      have : L.take k = L := List.take_of_length_le (by omega)
      rw [← this]; exact HD2.out
end Go.Proofs.Ytipijkpjmpejlaa
