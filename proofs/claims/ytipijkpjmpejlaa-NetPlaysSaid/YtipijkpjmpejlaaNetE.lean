import Derived.Test.YtipijkpjmpejlaaNetP
/- The contract of slices.Delete of one message. -/
set_option linter.unusedVariables false
set_option linter.unusedSimpArgs false
namespace Go.Proofs.Ytipijkpjmpejlaa
open Go.RowKit
theorem zMK_one : ∀ u ∈ (Value.agg #[.int .i8 0, .int .i64 0, .int .i64 0, .int .i64 0, .int .i64 0, .int .i64 0, .int .i64 0, .int .i64 0, .int .i64 0, .int .i64 0, .int .i64 0, .slice none 0 0, .int .i64 0, .int .i64 0, .string ⟨#[]⟩, .slice none 0 0, .bool false]).cells.toList, u.oneCell' = true := by
  show ∀ u ∈ (#[.int .i8 0, .int .i64 0, .int .i64 0, .int .i64 0, .int .i64 0, .int .i64 0, .int .i64 0, .int .i64 0, .int .i64 0, .int .i64 0, .int .i64 0, .slice none 0 0, .int .i64 0, .int .i64 0, .string ⟨#[]⟩, .slice none 0 0, .bool false] : Array Value).toList, u.oneCell' = true
  simp [Value.oneCell']
theorem zeroCells_one (z : Array Value) (n : Nat) (h : ∀ u ∈ z.toList, u.oneCell' = true) : ∀ u ∈ (Builtin.zeroCells z n).toList, u.oneCell' = true := by
  intro u hu
  simp only [Builtin.zeroCells, Array.toList_map, List.mem_map, Array.toList_range, List.mem_range] at hu
  obtain ⟨k, hk, rfl⟩ := hu
  have h0 : 0 < z.size := by
    rcases Nat.eq_zero_or_pos z.size with e | e
    · rw [e] at hk; simp at hk
    · exact e
  have hlt : k % z.size < z.size := Nat.mod_lt _ h0
  rw [getElem!_pos z _ hlt]
  exact h _ (by simp)
set_option maxHeartbeats 4000000 in
set_option maxRecDepth 100000 in
theorem delete_any (w : World) (b cb n i : Nat) (css : List (List Value)) (h : RowR w 17 139 0 (.slice (some ⟨b, 0, none⟩) n cb) css) (hn : css.length = n) (hi : i < n) (hn2 : n ≤ 1024) (h1 : ∀ u ∈ css.flatten, u.oneCell' = true) :
    Calls Try.prog 80 #[.slice (some ⟨b, 0, none⟩) n cb, .int .i64 i, .int .i64 (i + 1)] w fun e w' => e = .returned (.slice (some ⟨b, 0, none⟩) (n - 1) cb) ∧ RowR w' 17 139 0 (.slice (some ⟨b, 0, none⟩) (n - 1) cb) (css.eraseIdx i) ∧ Chg [b] w w' := by
  obtain ⟨p, rfl⟩ : ∃ p, n = p + 1 := ⟨n - 1, by omega⟩
  obtain ⟨g, c, C, hv, _, hb, hj1, hj2, hj3, hj4, hrg⟩ := h.block (by omega)
  injection hv with hv1 hv2 hv3
  injection hv1 with hv1
  injection hv1 with hv1 _ _
  subst hv1 hv3
  have hncb : p + 1 ≤ cb := by omega
  have hicb : i ≤ cb := by omega
  have hile : i ≤ p := by omega
  have hi0 : (0 : Int) ≤ (i : Int) + 1 := by omega
  have hi1 : (i : Int) + 1 ≤ ((p + 1 : Nat) : Int) := by omega
  obtain ⟨pt, hpt⟩ : ∃ pt : Addr, (if cb = i + 1 then (some ⟨b, 0, none⟩ : Option Addr) else some ⟨b, (i + 1) * 17, none⟩) = some pt := by split <;> exact ⟨_, rfl⟩
  have HH := Lib.hid (And.intro h (And.intro h1 (And.intro hn (And.intro hb (And.intro hj3 hj4)))))
  clear h h1 hn hv2 hj1 hj2 hj3 hj4 hrg hb
  have hw : wrap64 ((i : Int) + 1) = i + 1 := by
    rw [IntWalk.wrap64_in] <;> omega
  obtain ⟨ip, hip⟩ : ∃ ip, Try.prog.info? 139 = some ip := by
    have h := infoMK
    cases hh : Try.prog.info? 139 with
    | none => rw [hh] at h; cases h
    | some ip => exact ⟨ip, rfl⟩
  have hz17 : ip.size = 17 := by have h := infoMK; rw [hip] at h; simp at h; exact h.1
  have hfl : (css.drop (i + 1)).flatten.length = (p - i) * 17 := by
    rw [flatN (n := 17) _ (fun cs hcs => HH.out.1.len cs (List.mem_of_mem_drop hcs)), List.length_drop, HH.out.2.2.1, Nat.add_sub_add_right]
  have hone : ∀ u ∈ (css.drop (i + 1)).flatten, u.oneCell' = true := fun u hu => by
    obtain ⟨cs, h1, h2⟩ := List.mem_flatten.1 hu
    exact HH.out.2.1 u (List.mem_flatten.2 ⟨cs, List.mem_of_mem_drop h1, h2⟩)
  have HPT := Lib.hid hpt
  have HF := Lib.hid (And.intro hip (And.intro hz17 (And.intro hfl hone)))
  clear hip hz17 hfl hone
  go_enter Try.func80, Try.ntmps80
  go_wp2_with fail
  refine wp_region_M (fun _ => True) (fun k => [6].contains k) (fun k => [6].contains k) (by kernel_rfl) ?_
  ((try dsimp only); (try simp only [Act.put, List.setIfInBounds_toArray, List.set_cons_zero, List.set_cons_succ]))
  refine M_pure (i := 0) (v := ?_) rfl (by kernel_rfl) (by kernel_rfl) (by kernel_rfl) (fun _ _ _ h => h) (by rfl) ?hy ?_; (case hy => (intro w; go_simp; with_reducible rfl)); ((try dsimp only); (try simp only [Act.put, List.setIfInBounds_toArray, List.set_cons_zero, List.set_cons_succ]))
  refine M_pure (i := 1) (v := ?_) rfl (by kernel_rfl) (by kernel_rfl) (by kernel_rfl) (fun _ _ _ h => h) (by rfl) ?hy ?_; (case hy => (intro w; go_simp; with_reducible rfl)); ((try dsimp only); (try simp only [Act.put, List.setIfInBounds_toArray, List.set_cons_zero, List.set_cons_succ]))
  refine M_pure (i := 2) (v := ?_) rfl (by kernel_rfl) (by kernel_rfl) (by kernel_rfl) (fun _ _ _ h => h) (by rfl) ?hy ?_; (case hy => (intro w; go_simp; with_reducible rfl)); ((try dsimp only); (try simp only [Act.put, List.setIfInBounds_toArray, List.set_cons_zero, List.set_cons_succ]))
  refine M_pure (i := 3) (v := ?_) rfl (by kernel_rfl) (by kernel_rfl) (by kernel_rfl) (fun _ _ _ h => h) (by rfl) ?hy ?_; (case hy => (intro w; go_simp; with_reducible rfl)); ((try dsimp only); (try simp only [Act.put, List.setIfInBounds_toArray, List.set_cons_zero, List.set_cons_succ]))
  refine M_pure (i := 4) (v := ?_) rfl (by kernel_rfl) (by kernel_rfl) (by kernel_rfl) (fun _ _ _ h => h) (by rfl) ?hy ?_; (case hy => (intro w; go_simp; with_reducible rfl)); ((try dsimp only); (try simp only [Act.put, List.setIfInBounds_toArray, List.set_cons_zero, List.set_cons_succ]))
  refine M_pure (i := 5) (v := ?_) rfl (by kernel_rfl) (by kernel_rfl) (by kernel_rfl) (fun _ _ _ h => h) (by rfl) ?hy ?_; (case hy => (intro w; go_simp; with_reducible rfl)); ((try dsimp only); (try simp only [Act.put, List.setIfInBounds_toArray, List.set_cons_zero, List.set_cons_succ]))
  refine M_brk (i := 6) rfl (by kernel_rfl) (by rfl) (by rfl) ?_
  refine wpList_append_room rfl (.tmp 22) (.tmp 25) 135 rfl 139 ip Try.underlying135 HF.out.1 b i cb C HH.out.2.2.2.1 rfl pt (p - i) (cb - (i + 1)) (css.drop (i + 1)).flatten rfl (by rw [HF.out.2.1]; exact HF.out.2.2.1) ?cells HF.out.2.2.2 (by omega) ?fit ?_
  case cells =>
    intro j u hj
    have hjl := (List.getElem?_eq_some_iff.1 hj).1
    rw [HF.out.2.2.1] at hjl
    have hne : ¬ cb = i + 1 := by
      intro e
      have : p - i = 0 := by omega
      rw [this] at hjl; omega
    have hp := HPT.out
    rw [if_neg hne] at hp
    injection hp with hp
    subst hp
    rw [Addr.add_mid]
    show w.cell? _ = _
    simp only [World.cell?, HH.out.2.2.2.1]
    have hd : (css.flatten)[(i + 1) * 17 + j]? = some u := by
      have e : (css.take (i + 1)).flatten.length = (i + 1) * 17 := by
        rw [flatN (n := 17) _ (fun cs hcs => HH.out.1.len cs (List.mem_of_mem_take hcs)), List.length_take, HH.out.2.2.1]
        congr 1; omega
      conv => lhs; rw [← List.take_append_drop (i + 1) css]
      rw [List.flatten_append, List.getElem?_append_right (by omega), e, Nat.add_sub_cancel_left]
      exact hj
    rw [← HH.out.2.2.2.2.2, List.getElem?_take] at hd
    split at hd
    · simpa using hd
    · cases hd
  case fit => rw [HF.out.2.1, HF.out.2.2.1, HH.out.2.2.2.2.1, ← Nat.add_mul]; exact Nat.mul_le_mul_right _ (by omega)
  have hlen : (css.take i).flatten.length = i * 17 := by
    rw [flatN (n := 17) _ (fun cs hcs => HH.out.1.len cs (List.mem_of_mem_take hcs)), List.length_take, HH.out.2.2.1]
    congr 1; omega
  obtain ⟨C1, hC1e⟩ : ∃ C1 : Array Value, C1 = (C.toList.take (i * ip.size) ++ (css.drop (i + 1)).flatten ++ C.toList.drop (i * ip.size + (css.drop (i + 1)).flatten.length)).toArray := ⟨_, rfl⟩
  rw [← hC1e]
  rw [HF.out.2.1, HF.out.2.2.1] at hC1e
  have hCsz := HH.out.2.2.2.2.1
  have hCl : C.toList.length = cb * 17 := by simpa using hCsz
  have hm : i * 17 + (p - i) * 17 = p * 17 := by rw [← Nat.add_mul]; congr 1; omega
  have hp17 : p * 17 + 17 ≤ cb * 17 := by omega
  have hC1s : C1.size = cb * 17 := by
    rw [hC1e]; simp only [List.size_toArray, List.length_append, List.length_take, List.length_drop, HF.out.2.2.1, hCl]; omega
  have hC1t : C1.toList.take (p * 17) = (css.eraseIdx i).flatten := by
    rw [hC1e, List.eraseIdx_eq_take_drop_succ, List.flatten_append]
    have e1 : C.toList.take (i * 17) = (css.take i).flatten := by
      have := HH.out.2.2.2.2.2
      rw [HH.out.2.2.1] at this
      have e2 : C.toList.take (i * 17) = (C.toList.take ((p + 1) * 17)).take (i * 17) := by
        rw [List.take_take, Nat.min_eq_left (by omega)]
      rw [e2, this]
      conv => lhs; rw [← List.take_append_drop i css]
      rw [List.flatten_append, ← hlen, List.take_left]
    rw [e1]
    show List.take (p * 17) ((css.take i).flatten ++ (css.drop (i + 1)).flatten ++ _) = _
    have e3 : ((css.take i).flatten ++ (css.drop (i + 1)).flatten).length = p * 17 := by
      rw [List.length_append, hlen, HF.out.2.2.1, hm]
    rw [← e3, List.take_left]
  obtain ⟨Z, hZe⟩ : ∃ Z, Z = w.drew.setRow b C1 := ⟨_, rfl⟩
  rw [← hZe]
  have hZb : Z.heap[b]? = some (.cells C1 139 (0, 0)) := by rw [hZe]; exact setRow_heap _ _ _ _ _ _ HH.out.2.2.2.1
  have hwZ : Chg [b] w Z := by rw [hZe]; exact ((Chg.refl [b] w).drew).trans (setRow_chg _ _ _)
  rw [show i + (p - i) = p from by omega]
  have HZ := Lib.hid (And.intro hC1s (And.intro hC1t (And.intro hZb (And.intro hwZ hp17))))
  clear hC1s hC1t hZb hwZ hZe hC1e hCsz hCl hm hp17 hlen
  have hncp : ¬ cb = p := by omega
  have hpcb : p ≤ cb := by omega
  obtain ⟨C2, hC2s, hC2t, hcl⟩ : ∃ C2 : Array Value, C2.size = cb * 17 ∧ C2.toList.take (p * 17) = (css.eraseIdx i).flatten ∧ (Builtin.clear_ #[135] 0 #[.slice (some ⟨b, p * 17, none⟩) 1 (cb - p)]).run Try.prog Z = .ok (.tuple #[]) (Z.setRow b C2) := by
    have hsz1 := HZ.out.1
    have hs17 := HZ.out.2.2.2.2
    have hzs : (Builtin.zeroCells (Value.agg #[.int .i8 0, .int .i64 0, .int .i64 0, .int .i64 0, .int .i64 0, .int .i64 0, .int .i64 0, .int .i64 0, .int .i64 0, .int .i64 0, .int .i64 0, .slice none 0 0, .int .i64 0, .int .i64 0, .string ⟨#[]⟩, .slice none 0 0, .bool false]).cells 1).toList.length = 17 := by rw [Array.length_toList, size_zeroCells]; rfl
    have hz : (Value.agg #[.int .i8 0, .int .i64 0, .int .i64 0, .int .i64 0, .int .i64 0, .int .i64 0, .int .i64 0, .int .i64 0, .int .i64 0, .int .i64 0, .int .i64 0, .slice none 0 0, .int .i64 0, .int .i64 0, .string ⟨#[]⟩, .slice none 0 0, .bool false]).cells.size = 17 := rfl
    refine ⟨_, ?_, ?_, run_clear_row Z 135 139 0 _ Try.underlying135 Try.zeroValue139 b (p * 17) 1 (cb - p) C1 HZ.out.2.2.1 (by rw [hz]; omega) (zeroCells_one _ _ zMK_one) (by omega)⟩
    · simp only [List.size_toArray, List.length_append, List.length_take, List.length_drop, hzs, hz, Array.length_toList, hsz1]; omega
    · rw [← HZ.out.2.1]
      show List.take (p * 17) (List.take (p * 17) C1.toList ++ _ ++ _) = _
      rw [List.append_assoc, List.take_append_of_le_length (by simp; omega), List.take_take, Nat.min_self]
  have hYb : (Z.setRow b C2).heap[b]? = some (.cells C2 139 (0, 0)) := setRow_heap _ _ _ _ _ _ HZ.out.2.2.1
  have hwY : Chg [b] w (Z.setRow b C2) := HZ.out.2.2.2.1.trans (setRow_chg _ _ _)
  obtain ⟨Y, hYe⟩ : ∃ Y, Y = Z.setRow b C2 := ⟨_, rfl⟩
  rw [← hYe] at hcl hYb hwY
  have HY := Lib.hid (And.intro hC2s (And.intro hC2t (And.intro hYb hwY)))
  have HCL := Lib.hid hcl
  clear hC2s hC2t hYb hwY hYe hcl
  refine wpList_nil ?_
  ((try dsimp only [EffQ]); (try simp only [Act.put, List.setIfInBounds_toArray, List.set_cons_zero, List.set_cons_succ]))
  refine M_pure (i := 7) (v := ?_) rfl (by kernel_rfl) (by kernel_rfl) (by kernel_rfl) (fun _ _ _ h => h) (by rfl) ?hy ?_; (case hy => (intro w; go_simp; with_reducible rfl)); ((try dsimp only); (try simp only [Act.put, List.setIfInBounds_toArray, List.set_cons_zero, List.set_cons_succ]))
  refine M_done (by kernel_rfl) ?_ _
  go_wp2_with fail
  rw [HCL.out]
  go_wp2
  go_ret
  have hel : (css.eraseIdx i).length = p := by
    rw [List.length_eraseIdx, if_pos (by rw [HH.out.2.2.1]; omega), HH.out.2.2.1]; rfl
  have hln : ∀ cs ∈ css.eraseIdx i, cs.length = 17 := fun cs hcs => HH.out.1.len cs (List.mem_of_mem_eraseIdx hcs)
  have hcm : cb ≤ maxLen := by
    obtain ⟨g, c, C', hv, _, _, _, hm, _⟩ := HH.out.1.block (by rw [HH.out.2.2.1]; omega)
    injection hv with _ _ hv
    subst hv
    exact hm
  refine ⟨rfl, ⟨⟨flatN _ hln, .inr ⟨b, cb, C2, by rw [hel]; rfl, Nat.zero_le _, HY.out.2.2.1, by omega, hcm, HY.out.1, ?_⟩⟩, hln⟩, HY.out.2.2.2⟩
  rw [hel]; exact HY.out.2.1
end Go.Proofs.Ytipijkpjmpejlaa
