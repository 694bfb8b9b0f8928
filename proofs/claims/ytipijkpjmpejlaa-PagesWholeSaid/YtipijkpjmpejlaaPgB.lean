import Derived.Test.YtipijkpjmpejlaaPgA
import Derived.Defers
import Derived.Recover
import Derived.Lib.EndianBits
/- The contracts of code.New and of a reader's Number, where eight bytes are left. -/
set_option linter.unusedVariables false
set_option linter.unusedSimpArgs false
namespace Go.Proofs.Ytipijkpjmpejlaa
open Go.RowKit
/-- A reader of bytes, at a place, that did not fail. -/
structure RdrA (w : World) (r : Nat) (A : Option Addr) (c : Nat) (bs : List Int) (at' : Nat) : Prop where
  blk : w.heap[r]? = some (.cells #[.slice A bs.length c, .int .i64 at', .int .i64 (-1)] 189 (0, 0))
  bytes : BytesAt w A bs
  cap : bs.length ≤ c
  most : bs.length ≤ 1000000
  apart : ∀ ad, A = some ad → ad.block ≠ r
theorem RdrA.kept {w w' : World} {r : Nat} {A : Option Addr} {c : Nat} {bs : List Int} {at' : Nat} (h : RdrA w r A c bs at') (hc : Chg [] w w') : RdrA w' r A c bs at' := ⟨hc.at h.blk (by simp), h.bytes.kept hc (by simp), h.cap, h.most, h.apart⟩
set_option maxHeartbeats 4000000 in
set_option maxRecDepth 100000 in
theorem take8_any (w : World) (r : Nat) (A : Option Addr) (c : Nat) (bs : List Int) (at' : Nat) (h : RdrA w r A c bs at') (h8 : at' + 8 ≤ bs.length) :
    Calls Try.prog 133 #[.pointer (some ⟨r, 0, none⟩), .int .i64 8] w fun e w' => ∃ ad, A = some ad ∧ e = .returned (.slice (some (ad.add at')) 8 8) ∧ RdrA w' r A c bs (at' + 8) ∧ Chg [r] w w' := by
  obtain ⟨ad, rfl, hlt, hb⟩ := h.bytes (by omega)
  have c0 : w.cell? ⟨r, 0, none⟩ = some (.slice (some ad) bs.length c) := range_all h.blk 0 _ rfl
  have c1 : w.cell? ⟨r, 1, none⟩ = some (.int .i64 at') := range_all h.blk 1 _ rfl
  have f1 : w.frozen? ⟨r, 1, none⟩ = false := by simp [World.frozen?, h.blk]
  have hbl : bs.length ≤ 1000000 := h.most
  have hcp := h.cap
  have hd : decide ((bs.length : Int) - at' < 8) = false := by simp; omega
  have hblk : ∀ k, ((w.drewN k).setCell ⟨r, 1, none⟩ (.int .i64 (at' + 8))).heap[r]? = some (.cells #[.slice (some ad) bs.length c, .int .i64 ((at' + 8 : Nat) : Int), .int .i64 (-1)] 189 (0, 0)) := fun k => heap_setCell_same (w.drewN k) r 1 _ _ _ (by simpa using h.blk)
  have H := Lib.hid (And.intro h (And.intro hblk hcp))
  clear h hblk hcp
  go_enter Try.func133, Try.ntmps133
  go_wp2_with fail
  go_quiet (fail)
  go_wp2_with fail
  obtain ⟨X, hX⟩ : ∃ X, X = (w.drewN nq).setCell ⟨r, 1, none⟩ (.int .i64 (at' + 8)) := ⟨_, rfl⟩
  rw [← hX]
  have hb2 := H.out.2.1 nq
  rw [← hX] at hb2
  have hc : Chg [r] w X := by rw [hX]; exact Chg.setCell ((Chg.refl [r] w).drewN nq) _ _ (by simp)
  have d0 : X.cell? ⟨r, 0, none⟩ = some (.slice (some ad) bs.length c) := range_all hb2 0 _ rfl
  have d1 : X.cell? ⟨r, 1, none⟩ = some (.int .i64 ((at' + 8 : Nat) : Int)) := range_all hb2 1 _ rfl
  have HX := Lib.hid (And.intro hb2 (And.intro hc (Nat.le_refl c)))
  have hcp := H.out.2.2
  clear hX hb2 hc c0 c1 f1
  have hwr : IntKind.i64.wrap (at' : Int) = at' := IntWalk.i64_in _ (by omega)
  have e1 : ((at' : Int) + 8).toNat = at' + 8 := by omega
  refine wp_region_M (fun _ => True) (fun _ => false) (fun _ => false) (by kernel_rfl) ?_
  ((try dsimp only); (try simp only [Act.put, List.setIfInBounds_toArray, List.set_cons_zero, List.set_cons_succ]))
  refine M_pure (i := 0) (v := ?_) rfl (by kernel_rfl) (by kernel_rfl) (by kernel_rfl) (fun _ _ _ h => h) (by rfl) ?hy ?_; (case hy => (intro w; go_simp; with_reducible rfl)); ((try dsimp only); (try simp only [Act.put, List.setIfInBounds_toArray, List.set_cons_zero, List.set_cons_succ]))
  refine M_pure (i := 1) (v := ?_) rfl (by kernel_rfl) (by kernel_rfl) (by kernel_rfl) (fun _ _ _ h => h) (by rfl) ?hy ?_; (case hy => (intro w; go_simp; with_reducible rfl)); ((try dsimp only); (try simp only [Act.put, List.setIfInBounds_toArray, List.set_cons_zero, List.set_cons_succ]))
  refine M_pure (i := 2) (v := ?_) rfl (by kernel_rfl) (by kernel_rfl) (by kernel_rfl) (fun _ _ _ h => h) (by rfl) ?hy ?_; (case hy => (intro w; go_simp; with_reducible rfl)); ((try dsimp only); (try simp only [Act.put, List.setIfInBounds_toArray, List.set_cons_zero, List.set_cons_succ]))
  refine M_take (i := 3) (v := ?_) rfl (by kernel_rfl) (by kernel_rfl) (by kernel_rfl) (by kernel_rfl) (fun _ _ _ h => h) (by rfl) ?hy ?_; (case hy => (go_simp; with_reducible rfl)); ((try dsimp only); (try simp only [Act.put, List.setIfInBounds_toArray, List.set_cons_zero, List.set_cons_succ]))
  refine M_pure (i := 4) (v := ?_) rfl (by kernel_rfl) (by kernel_rfl) (by kernel_rfl) (fun _ _ _ h => h) (by rfl) ?hy ?_; (case hy => (intro w; go_simp; with_reducible rfl)); ((try dsimp only); (try simp only [Act.put, List.setIfInBounds_toArray, List.set_cons_zero, List.set_cons_succ]))
  refine M_pure (i := 5) (v := ?_) rfl (by kernel_rfl) (by kernel_rfl) (by kernel_rfl) (fun _ _ _ h => h) (by rfl) ?hy ?_; (case hy => (intro w; go_simp; with_reducible rfl)); ((try dsimp only); (try simp only [Act.put, List.setIfInBounds_toArray, List.set_cons_zero, List.set_cons_succ]))
  refine M_pure (i := 6) (v := ?_) rfl (by kernel_rfl) (by kernel_rfl) (by kernel_rfl) (fun _ _ _ h => h) (by rfl) ?hy ?_; (case hy => (intro w; go_simp; with_reducible rfl)); ((try dsimp only); (try simp only [Act.put, List.setIfInBounds_toArray, List.set_cons_zero, List.set_cons_succ]))
  refine M_take (i := 7) (v := ?_) rfl (by kernel_rfl) (by kernel_rfl) (by kernel_rfl) (by kernel_rfl) (fun _ _ _ h => h) (by rfl) ?hy ?_; (case hy => (go_simp; with_reducible rfl)); ((try dsimp only); (try simp only [Act.put, List.setIfInBounds_toArray, List.set_cons_zero, List.set_cons_succ]))
  refine M_pure (i := 8) (v := ?_) rfl (by kernel_rfl) (by kernel_rfl) (by kernel_rfl) (fun _ _ _ h => h) (by rfl) ?hy ?_; (case hy => (intro w; go_simp; with_reducible rfl)); ((try dsimp only); (try simp only [Act.put, List.setIfInBounds_toArray, List.set_cons_zero, List.set_cons_succ]))
  refine M_pure (i := 9) (v := ?_) rfl (by kernel_rfl) (by kernel_rfl) (by kernel_rfl) (fun _ _ _ h => h) (by rfl) ?hy ?_; (case hy => (intro w; go_simp; with_reducible rfl)); ((try dsimp only); (try simp only [Act.put, List.setIfInBounds_toArray, List.set_cons_zero, List.set_cons_succ]))
  refine M_pure (i := 10) (v := ?_) rfl (by kernel_rfl) (by kernel_rfl) (by kernel_rfl) (fun _ _ _ h => h) (by rfl) ?hy ?_; (case hy => (intro w; go_simp; with_reducible rfl)); ((try dsimp only); (try simp only [Act.put, List.setIfInBounds_toArray, List.set_cons_zero, List.set_cons_succ]))
  refine M_pure (i := 11) (v := ?_) rfl (by kernel_rfl) (by kernel_rfl) (by kernel_rfl) (fun _ _ _ h => h) (by rfl) ?hy ?_; (case hy => (intro w; go_simp; with_reducible rfl)); ((try dsimp only); (try simp only [Act.put, List.setIfInBounds_toArray, List.set_cons_zero, List.set_cons_succ]))
  refine M_pure (i := 12) (v := ?_) rfl (by kernel_rfl) (by kernel_rfl) (by kernel_rfl) (fun _ _ _ h => h) (by rfl) ?hy ?_; (case hy => (intro w; go_simp; with_reducible rfl)); ((try dsimp only); (try simp only [Act.put, List.setIfInBounds_toArray, List.set_cons_zero, List.set_cons_succ]))
  refine M_take (i := 13) (v := ?_) rfl (by kernel_rfl) (by kernel_rfl) (by kernel_rfl) (by kernel_rfl) (fun _ _ _ h => h) (by rfl) ?hy ?_; (case hy => (go_simp; with_reducible rfl)); ((try dsimp only); (try simp only [Act.put, List.setIfInBounds_toArray, List.set_cons_zero, List.set_cons_succ]))
  refine M_pure (i := 14) (v := ?_) rfl (by kernel_rfl) (by kernel_rfl) (by kernel_rfl) (fun _ _ _ h => h) (by rfl) ?hy ?_; (case hy => (intro w; go_simp; with_reducible rfl)); ((try dsimp only); (try simp only [Act.put, List.setIfInBounds_toArray, List.set_cons_zero, List.set_cons_succ]))
  refine M_pure (i := 15) (v := ?_) rfl (by kernel_rfl) (by kernel_rfl) (by kernel_rfl) (fun _ _ _ h => h) (by rfl) ?hy ?_; (case hy => (intro w; go_simp; with_reducible rfl)); ((try dsimp only); (try simp only [Act.put, List.setIfInBounds_toArray, List.set_cons_zero, List.set_cons_succ]))
  refine M_pure (i := 16) (v := ?_) rfl (by kernel_rfl) (by kernel_rfl) (by kernel_rfl) (fun _ _ _ h => h) (by rfl) ?hy ?_; (case hy => (intro w; go_simp; with_reducible rfl)); ((try dsimp only); (try simp only [Act.put, List.setIfInBounds_toArray, List.set_cons_zero, List.set_cons_succ]))
  refine M_take (i := 17) (v := ?_) rfl (by kernel_rfl) (by kernel_rfl) (by kernel_rfl) (by kernel_rfl) (fun _ _ _ h => h) (by rfl) ?hy ?_; (case hy => (go_simp; with_reducible rfl)); ((try dsimp only); (try simp only [Act.put, List.setIfInBounds_toArray, List.set_cons_zero, List.set_cons_succ]))
  refine M_pure (i := 18) (v := .slice (some (ad.add at')) 8 8) rfl (by kernel_rfl) (by kernel_rfl) (by kernel_rfl) (fun _ _ _ h => h) (by rfl) ?hy ?_
  case hy =>
    intro w
    go_simp
    rw [if_pos (by omega), if_pos (by omega)]
  ((try dsimp only); (try simp only [Act.put, List.setIfInBounds_toArray, List.set_cons_zero, List.set_cons_succ]))
  refine M_pure (i := 19) (v := ?_) rfl (by kernel_rfl) (by kernel_rfl) (by kernel_rfl) (fun _ _ _ h => h) (by rfl) ?hy ?_; (case hy => (intro w; go_simp; with_reducible rfl)); ((try dsimp only); (try simp only [Act.put, List.setIfInBounds_toArray, List.set_cons_zero, List.set_cons_succ]))
  refine M_done (by kernel_rfl) ?_ _
  go_wp2_with fail
  go_ret
  exact ⟨ad, rfl, rfl, ⟨HX.out.1, H.out.1.bytes.kept (l := [r]) HX.out.2.1.drew (fun a e _ => by cases e; simpa using H.out.1.apart ad rfl), H.out.1.cap, H.out.1.most, H.out.1.apart⟩, HX.out.2.1.drew⟩
/-- Bytes. -/
def Bytes (bs : List Int) : Prop := ∀ x ∈ bs, 0 ≤ x ∧ x < 256
/-- A number so far: the first j bytes from k on. -/
def numTo (bs : List Int) (k : Nat) : Nat → Int
  | 0 => 0
  | j + 1 => numTo bs k j * 256 + bs.getD (k + j) 0
def num8 (bs : List Int) (k : Nat) : Int := wrap64 (numTo bs k 8)
theorem Bytes.at {bs : List Int} (h : Bytes bs) (k : Nat) : 0 ≤ bs.getD k 0 ∧ bs.getD k 0 < 256 := by
  rcases Nat.lt_or_ge k bs.length with hk | hk
  · rw [List.getD_eq_getElem?_getD, List.getElem?_eq_getElem hk]; exact h _ (List.getElem_mem _)
  · rw [List.getD_eq_getElem?_getD, List.getElem?_eq_none (by omega)]; simp
theorem numTo_range {bs : List Int} (h : Bytes bs) (k : Nat) : ∀ j, 0 ≤ numTo bs k j ∧ numTo bs k j < 256 ^ j
  | 0 => by simp [numTo]
  | j + 1 => by
    obtain ⟨h1, h2⟩ := numTo_range h k j
    obtain ⟨h3, h4⟩ := h.at (k + j)
    simp only [numTo, Int.pow_succ]
    omega
theorem or8 (v x : Int) (hv : 0 ≤ v) (hv2 : v * 256 < 18446744073709551616) (hx : 0 ≤ x) (hx2 : x < 256) : bits BinOp.or IntKind.u64 (IntKind.u64.wrap (v * 256)) (IntKind.u64.wrap x) = v * 256 + x := by
  rw [wraps_u64 _ (by omega) (by simpa using hv2), wraps_u64 _ hx (by omega)]
  exact bits_join .u64 64 (by decide) wraps_u64 8 (v * 256) x (by omega) (by omega) (by simpa using hv2) hx (by omega) (by omega)
set_option maxHeartbeats 4000000 in
set_option maxRecDepth 100000 in
theorem number8_any (w : World) (r : Nat) (A : Option Addr) (c : Nat) (bs : List Int) (at' : Nat) (h : RdrA w r A c bs at') (h8 : at' + 8 ≤ bs.length) (hby : Bytes bs) :
    Calls Try.prog 128 #[.pointer (some ⟨r, 0, none⟩)] w fun e w' => e = .returned (.int .i64 (num8 bs at')) ∧ RdrA w' r A c bs (at' + 8) ∧ Chg [r] w w' := by
  have HT := Lib.hid (take8_any w r A c bs at' h h8)
  have HB := Lib.hid (And.intro hby h8)
  clear h h8 hby
  go_enter Try.func128, Try.ntmps128
  go_wp2_with (go_at_call 133; refine HT.out.mono ?_; rintro e X ⟨ad, rfl, rfl, hR, hc⟩; have HX := Lib.hid (And.intro hR hc); clear hR hc)
  go_loop [3, 9] (fun v i => ∃ j : Nat, j ≤ 8 ∧ i = .int .i64 j ∧ v = .int .u64 (numTo bs at' j)) (fun _ i => 8 - (intOf i).toNat)
  case atStart => exact ⟨0, Nat.zero_le _, rfl, rfl⟩
  case round =>
    obtain ⟨j, hj, rfl, rfl⟩ := hrel
    by_cases hlt : j < 8
    · have hjl : at' + j < bs.length := by have := HB.out.2; omega
      obtain ⟨x, hx⟩ : ∃ x, bs.getD (at' + j) 0 = x := ⟨_, rfl⟩
      have hc : X.cell? ((ad.add at').add j) = some (.int .u8 x) := by
        obtain ⟨ad', e, _, hb⟩ := HX.out.1.bytes (by omega)
        cases e
        rw [Addr.add_add]
        exact hb _ _ (by rw [← hx]; simp [u8s, List.getD_eq_getElem?_getD, List.getElem?_eq_getElem hjl])
      have hxr := HB.out.1.at (at' + j)
      rw [hx] at hxr
      have hn := numTo_range HB.out.1 at' j
      have hs : numTo bs at' (j + 1) = numTo bs at' j * 256 + x := by rw [← hx]; rfl
      have hlt2 : numTo bs at' j * 256 < 18446744073709551616 := by
        have : (256 : Int) ^ j ≤ 256 ^ 7 := by
          have := Nat.pow_le_pow_right (show 0 < 256 by omega) (show j ≤ 7 by omega)
          exact_mod_cast this
        omega
      have ho := or8 _ x hn.1 hlt2 hxr.1 hxr.2
      have HS := Lib.hid (And.intro hs ho)
      clear hs ho hx hxr hn hlt2 hjl
      go_wp2_with fail
      go_round
      case rel => exact ⟨j + 1, by omega, by go_num, by rw [HS.out.1, HS.out.2]⟩
      case measure => simp [intOf]; omega
    · obtain rfl : j = 8 := by omega
      go_wp2
      go_ret
      exact ⟨rfl, HX.out.1, HX.out.2⟩
end Go.Proofs.Ytipijkpjmpejlaa
