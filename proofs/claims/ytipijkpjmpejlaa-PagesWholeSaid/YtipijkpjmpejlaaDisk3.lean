import Derived.Test.YtipijkpjmpejlaaDisk2
/- The contracts of the program's disk, on: read, writes, arm, up, down, cut. -/
set_option linter.unusedVariables false
set_option linter.unusedSimpArgs false
namespace Go.Proofs.Ytipijkpjmpejlaa
open Go.RowKit
theorem read_nil (n : Int) (w : World) : Calls Try.prog 30 #[.pointer none, .int .i64 n] w fun e w' => e = .returned (.tuple #[.slice none 0 0, .int .i64 1]) ∧ w = w' := by
  go_enter Try.func30, Try.ntmps30
  go_wp2
  go_ret2
  exact ⟨rfl, rfl⟩
theorem read_down (p bm : Nat) (v : Value) (L : List (Int × List Int)) (armed : Bool) (left n : Int) (w : World) (hD : DiskA w p bm v L true armed left) :
    Calls Try.prog 30 #[.pointer (some ⟨p, 0, none⟩), .int .i64 n] w fun e w' => e = .returned (.tuple #[.slice none 0 0, .int .i64 5]) ∧ w = w' := by
  have c2 := hD.c2
  go_enter Try.func30, Try.ntmps30
  go_wp2
  go_ret2
  exact ⟨rfl, rfl⟩
theorem read_arg (p bm : Nat) (v : Value) (L : List (Int × List Int)) (armed : Bool) (left n : Int) (w : World) (hD : DiskA w p bm v L false armed left) (h : n < 0 ∨ 2049 ≤ n) :
    Calls Try.prog 30 #[.pointer (some ⟨p, 0, none⟩), .int .i64 n] w fun e w' => e = .returned (.tuple #[.slice none 0 0, .int .i64 2]) ∧ w = w' := by
  have c2 := hD.c2
  by_cases h1 : n < 0
  · have g1 : decide (n < 0) = true := by simpa using h1
    go_enter Try.func30, Try.ntmps30
    go_wp2
    go_ret2
    exact ⟨rfl, rfl⟩
  · have g1 : decide (n < 0) = false := by simpa using h1
    have g2 : decide (2049 ≤ n) = true := by simp; omega
    go_enter Try.func30, Try.ntmps30
    go_wp2
    go_ret2
    exact ⟨rfl, rfl⟩
theorem infoU8 : (Try.prog.info? 5).map (fun i => (i.zero, i.size, i.bytes)) = some (some (.int .u8 0), 1, 1) := by kernel_rfl
theorem secOf_len : ∀ (L : List (Int × List Int)) (n : Int), (∀ x ∈ L, x.2.length = 64) → (secOf L n).length = 64
  | [], _, _ => rfl
  | x :: L, n, h => by
    unfold secOf
    split
    · exact secOf_len L n (fun y hy => h y (by simp [hy]))
    · split
      · exact h x (by simp)
      · rfl
set_option maxHeartbeats 1000000 in
set_option maxRecDepth 100000 in
theorem read_ok (p bm : Nat) (v : Value) (L : List (Int × List Int)) (armed : Bool) (left n : Int) (w : World) (hD : DiskA w p bm v L false armed left) (h1 : 0 ≤ n) (h2 : n < 2049) :
    Calls Try.prog 30 #[.pointer (some ⟨p, 0, none⟩), .int .i64 n] w fun e w' => ∃ A c, e = .returned (.tuple #[.slice A 64 c, .int .i64 0]) ∧ w'.ownsRow w.heap.size 5 1 (.slice A 64 c) 64 (u8s (secOf L n)) ∧ Chg [] w w' := by
  obtain ⟨ip, hi, hz0, hz1, hz2⟩ := info_parts infoU8
  have c0 := hD.c0
  have c2 := hD.c2
  obtain ⟨m, hm, hv⟩ := hD.map
  have hvn := hv n
  have hlen := secOf_len L n hD.len
  generalize secOf L n = bs at hvn hlen ⊢
  have hall : ((u8s bs).toArray).all (·.oneCell') = true := by
    rw [Array.all_eq_true_iff_forall_mem]; intro u hu; exact u8s_one bs u (by simpa using hu)
  have hl2 : (u8s bs).length = 64 := by simp [u8s, hlen]
  have hs1 : (Try.prog.info? 128).map (·.size) = some (u8s bs).toArray.size := by rw [List.size_toArray, hl2]; exact szSec
  have hs2 : (Value.agg (u8s zeros).toArray).cells.size = (u8s bs).toArray.size := by show (u8s zeros).toArray.size = _; rw [List.size_toArray, List.size_toArray, hl2]; rfl
  have HS := Lib.hid (And.intro hs1 hs2)
  clear hs1 hs2
  have H1 := Lib.hid (And.intro hi (And.intro hz0 (And.intro hz1 hz2)))
  have H2 := Lib.hid (And.intro hm (And.intro hvn (And.intro hall hl2)))
  clear hi hz0 hz1 hz2 hm hv hvn hall hl2 hD
  have g1 : decide (n < 0) = false := by simp; omega
  have g2 : decide (2049 ≤ n) = false := by simp; omega
  go_enter Try.func30, Try.ntmps30
  go_wp2_with (first
    | (refine wpList_lookup_I (T := 123) (z := .agg (u8s zeros).toArray) rfl (.tmp 23) (.tmp 24) rfl Try.underlying123 Try.underlying3 zero64 H2.out.1 n rfl rfl H2.out.2.1 ?_
       refine wpList_alloc rfl 128 rfl _ zero64 ?_
       refine wpList_store_row rfl 128 (.tmp 6) (.tmp 25) rfl w.heap.size rfl (u8s bs).toArray rfl _ _ (heap_new _ _ rfl) HS.out.1 HS.out.2 H2.out.2.2.1 ?_
       rw [setRow_new]
       refine wpList_world (fun W => W.heap[w.heap.size]? = some (.cells (u8s bs).toArray 128 (0, 0)) ∧ Chg [] w W ∧ W.heap.size = w.heap.size + 1) ⟨heap_new _ _ rfl, (Chg.refl _ _).alloc _, by simp⟩ ?_
       rintro W ⟨hw1, hw2, hw3⟩
       have HW := Lib.hid (And.intro hw1 (And.intro hw2 hw3))
       clear hw1 hw2 hw3)
    | (refine wpList_append_own_at _ rfl (.const (.slice none 0 0)) (.tmp 26) 49 rfl w.heap.size 5 ip _ 1 1 Try.underlying49 H1.out.1 H1.out.2.1 H1.out.2.2.1 H1.out.2.2.2 rfl (by omega) (.slice none 0 0) 0 [] rfl (World.ownsRow_nil _ _ _ _) ⟨w.heap.size, 0, none⟩ 64 64 (u8s bs) rfl (by rw [H2.out.2.2.2]) (fun j u hu => by rw [Addr.add_mid]; exact range_all HW.out.1 j u hu) (u8s_one bs) (by unfold maxLen; omega) (by omega) (by rw [HW.out.2.2]; omega) ?_
       intro v' X hown hg _ _
       have HX := Lib.hid (And.intro hown (Chg.grown HW.out.2.1 hg (by simp [Value.ownBlock])))
       clear hown hg))
  go_ret2
  obtain ⟨A, c, rfl⟩ := own_slice HX.out.1
  exact ⟨A, c, rfl, HX.out.1, HX.out.2⟩
end Go.Proofs.Ytipijkpjmpejlaa
