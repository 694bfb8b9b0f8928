import Derived.Test.YtipijkpjmpejlaaDisk10
/- The contracts of the reference's disk: write, arm, up. -/
import Derived.Test.YtipijkpjmpejlaaDisk12
/- The contracts of the reference's disk, on: read. -/
set_option linter.unusedVariables false
set_option linter.unusedSimpArgs false
namespace Go.Proofs.Ytipijkpjmpejlaa
open Go.RowKit
theorem rcells_at : ∀ (L : List (Int × List Int)) (bv : List Value), bv.length = L.length → ∀ (i : Nat) x u, L[i]? = some x → bv[i]? = some u → (rcells L bv)[i * 2]? = some (.int .i64 x.1) ∧ (rcells L bv)[i * 2 + 1]? = some u
  | [], _, _, i, x, u, hx, _ => by simp at hx
  | y :: L, [], h, _, _, _, _, _ => by simp at h
  | y :: L, z :: bv, h, 0, x, u, hx, hu => by
    simp at hx hu; subst hx hu
    simp [rcells]
  | y :: L, z :: bv, h, i + 1, x, u, hx, hu => by
    have := rcells_at L bv (by simpa using h) i x u (by simpa using hx) (by simpa using hu)
    have e : rcells (y :: L) (z :: bv) = .int .i64 y.1 :: z :: rcells L bv := by simp [rcells]
    rw [e, show (i + 1) * 2 = i * 2 + 1 + 1 from by omega]
    simpa using this
theorem RDiskA.entry {w : World} {r : Nat} {A : Option Addr} {c : Nat} {L : List (Int × List Int)} {bv : List Value} {dead armed : Bool} {left : Int} (h : RDiskA w r (.slice A L.length c) L bv dead armed left) {k : Nat} {x : Int × List Int} (hx : L[k]? = some x) :
    ∃ g gb cb, A = some ⟨g, 0, none⟩ ∧ w.cell? ⟨g, k * 2, none⟩ = some (.int .i64 x.1) ∧ w.cell? ⟨g, k * 2 + 1, none⟩ = some (.slice (some ⟨gb, 0, none⟩) 64 cb) ∧ w.heap[gb]? = some (.cells (u8s x.2).toArray 5 (0, 0)) := by
  have hlt : k < L.length := (List.getElem?_eq_some_iff.1 hx).1
  obtain ⟨u, hu⟩ : ∃ u, bv[k]? = some u := ⟨bv[k]'(by rw [h.bvl]; exact hlt), List.getElem?_eq_getElem _⟩
  obtain ⟨gb, cb, hue, hgb⟩ := h.byt k x u hx hu
  obtain ⟨a1, a2⟩ := rcells_at L bv h.bvl k x u hx hu
  rcases h.log.2 with ⟨h0, h1⟩ | ⟨g, cap, cur, hv, _, hh, hcap, _, hsz, htk⟩
  · omega
  · injection hv with hA _ hc
    subst hA
    rw [← htk] at a1 a2
    refine ⟨g, gb, cb, rfl, ?_, ?_, hgb⟩
    · rw [List.getElem?_take_of_lt (by omega)] at a1
      simpa [World.cell?, hh] using a1
    · rw [List.getElem?_take_of_lt (by omega)] at a2
      rw [← hue]
      simpa [World.cell?, hh] using a2
theorem rread_down (r : Nat) (v : Value) (L : List (Int × List Int)) (bv : List Value) (armed : Bool) (left n : Int) (w : World) (hD : RDiskA w r v L bv true armed left) :
    Calls Try.prog 34 #[.pointer (some ⟨r, 0, none⟩), .int .i64 n] w fun e w' => e = .returned (.tuple #[.slice none 0 0, .int .i64 5]) ∧ w = w' := by
  have c1 := hD.c1
  go_enter Try.func34, Try.ntmps34
  go_wp2
  go_ret2
  exact ⟨rfl, rfl⟩
theorem rread_arg (r : Nat) (v : Value) (L : List (Int × List Int)) (bv : List Value) (armed : Bool) (left n : Int) (w : World) (hD : RDiskA w r v L bv false armed left) (h : n < 0 ∨ 2049 ≤ n) :
    Calls Try.prog 34 #[.pointer (some ⟨r, 0, none⟩), .int .i64 n] w fun e w' => e = .returned (.tuple #[.slice none 0 0, .int .i64 2]) ∧ w = w' := by
  have c1 := hD.c1
  by_cases h1 : n < 0
  · have g1 : decide (n < 0) = true := by simpa using h1
    go_enter Try.func34, Try.ntmps34
    go_wp2
    go_ret2
    exact ⟨rfl, rfl⟩
  · have g1 : decide (n < 0) = false := by simpa using h1
    have g2 : decide (2049 ≤ n) = true := by simp; omega
    go_enter Try.func34, Try.ntmps34
    go_wp2
    go_ret2
    exact ⟨rfl, rfl⟩
theorem splice_all (a b : List Int) (h : b.length = a.length) : splice (u8s a) 0 (u8s b) = u8s b := by
  simp [splice, u8s, h]
set_option maxHeartbeats 4000000 in
set_option maxRecDepth 100000 in
theorem rread_ok (r : Nat) (v : Value) (L : List (Int × List Int)) (bv : List Value) (armed : Bool) (left n : Int) (w : World) (hD : RDiskA w r v L bv false armed left) (h1 : 0 ≤ n) (h2 : n < 2049) (hL : L.length < 1048576) :
    Calls Try.prog 34 #[.pointer (some ⟨r, 0, none⟩), .int .i64 n] w fun e w' => e = .returned (.tuple #[.slice (some ⟨w.heap.size, 0, none⟩) 64 64, .int .i64 0]) ∧ w'.heap[w.heap.size]? = some (.cells (u8s (secOf L n)).toArray 5 (0, 0)) ∧ Chg [] w w' := by
  obtain ⟨ip, hi, hz0, hz1, hz2⟩ := info_parts infoU8
  have HI := Lib.hid (And.intro hi (And.intro hz0 (And.intro hz1 hz2)))
  obtain ⟨A, c, rfl⟩ := own_slice hD.log
  have hr := lt_of_block hD.blk
  have c0 := hD.c0
  have c1 := hD.c1
  have HC0 := Lib.hid c0
  have HD := Lib.hid hD
  clear hD hi hz0 hz1 hz2
  have g1 : decide (n < 0) = false := by simp; omega
  have g2 : decide (2049 ≤ n) = false := by simp; omega
  go_enter Try.func34, Try.ntmps34
  go_wp2_with (refine wpList_make_full _ rfl (.const (.int .i64 64)) (.const (.int .i64 64)) 49 rfl w.heap.size 5 ip _ 1 Try.underlying49 HI.out.1 HI.out.2.1 HI.out.2.2.1 .i64 .i64 64 64 64 rfl rfl rfl rfl (by rw [HI.out.2.2.2]; omega) (by unfold maxLen; omega) (by omega) ?_
               rintro W2 hown hg
               rw [made64] at hown
               have HM := Lib.hid (And.intro (own_full hown).1 (Chg.grown (l := []) (Chg.refl _ _) hg (by simp)))
               clear hown hg c0 c1)
  go_loopw [7] (fun i wr => ∃ (k : Nat), k ≤ L.length ∧ i = .int .i64 k ∧ Hid (wr.heap[w.heap.size]? = some (.cells (u8s (secOf (L.take k) n)).toArray 5 (0, 0))) ∧ Hid (Chg [] w wr)) (fun i _ => L.length - (intOf i).toNat)
  case atStart => exact ⟨0, Nat.zero_le _, rfl, HM.out.1, HM.out.2⟩
  case round =>
    obtain ⟨k, hk, rfl, HB, HC⟩ := hrel
    have d0 := HC.out.cell HC0.out (by simp)
    by_cases hlt : k < L.length
    · obtain ⟨x, hx⟩ : ∃ x, L[k]? = some x := ⟨L[k], List.getElem?_eq_getElem hlt⟩
      obtain ⟨g, gb, cb, rfl, e0, e1, e2⟩ := HD.out.entry hx
      have e0' := HC.out.cell e0 (by simp)
      have e1' := HC.out.cell e1 (by simp)
      have HE := Lib.hid (And.intro (HC.out.at e2 (by simp)) (lt_of_block e2))
      have hx64 : x.2.length = 64 := HD.out.len x (List.mem_of_getElem? hx)
      have htk : L.take (k + 1) = L.take k ++ [(x.1, x.2)] := by rw [List.take_add_one, hx]; rfl
      have HTK := Lib.hid htk
      have hsl : (secOf (L.take k) n).length = 64 := secOf_len _ _ (fun y hy => HD.out.len y (List.mem_of_mem_take hy))
      have HSL := Lib.hid hsl
      clear hx e0 e1 e2 htk hsl
      by_cases hn : x.1 = n
      · have g3 : (x.1 == n) = true := by simpa using hn
        have HN := Lib.hid hn
        clear hn
        go_wp2_with (refine wpList_copy_splice rfl (.tmp 38) (.tmp 46) 49 49 rfl 5 Try.underlying49 szU8 (some ⟨w.heap.size, 0, none⟩) (some ⟨gb, 0, none⟩) 64 64 64 cb rfl rfl w.heap.size 0 (u8s (secOf (L.take k) n)) 5 HB.out (u8s x.2) (by simp [u8s, hx64])
                       (fun h => ⟨rfl, _, rfl, fun j u hu => by rw [Addr.add_mid]; exact range_all HE.out.1 j u hu⟩) (by simp [u8s, hx64, HSL.out]) (u8s_one _) w.heap.size w HC.out.below (Nat.le_refl _) ?_
                     intro Y hy1 hy2
                     have hyb := hy1.out
                     rw [splice_all _ _ (by rw [hx64, HSL.out])] at hyb
                     have HY := Lib.hid (And.intro hyb (Chg.of_below hy2))
                     clear hy1 hy2 hyb)
        go_roundw
        case rel =>
          refine ⟨k + 1, by omega, by go_num, ?_, HY.out.2⟩
          show Y.heap[w.heap.size]? = _
          rw [HTK.out, secOf_snoc, if_pos HN.out.symm]; exact HY.out.1
        case measure => simp [intOf]; omega
      · have g3 : (x.1 == n) = false := by simpa using hn
        have HN := Lib.hid hn
        clear hn
        go_wp2
        go_roundw
        case rel =>
          refine ⟨k + 1, by omega, by go_num, ?_, HC.out⟩
          show wr.heap[w.heap.size]? = _
          rw [HTK.out, secOf_snoc, if_neg (fun e => HN.out e.symm)]; exact HB.out
        case measure => simp [intOf]; omega
    · go_wp2
      go_ret2
      have : L.take k = L := List.take_of_length_le (by omega)
      rw [← this]
      exact ⟨rfl, HB.out, HC.out⟩
end Go.Proofs.Ytipijkpjmpejlaa
