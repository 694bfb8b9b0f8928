import Derived.Test.YtipijkpjmpejlaaPhA
/- Equal records, where the bytes are left alone. -/
set_option linter.unusedVariables false
set_option linter.unusedSimpArgs false
namespace Go.Proofs.Ytipijkpjmpejlaa
open Go.RowKit
set_option maxHeartbeats 4000000 in
set_option maxRecDepth 100000 in
theorem records_k (w0 w : World) (b1 b2 : Nat) (va vb : Value) (rs : List (List Int)) (ha : RecsK w0 w b1 va rs) (hb : RecsK w0 w b2 vb rs) (hl : rs.length ≤ 100000) : Calls Try.prog 62 #[va, vb] w fun e w' => e = .returned (.bool true) ∧ Chg [] w w' := by
  obtain ⟨A1, c1, rfl⟩ := ha.slice
  obtain ⟨A2, c2, rfl⟩ := hb.slice
  have H := Lib.hid (And.intro ha hb)
  have e0 : ((rs.length : Int) != rs.length) = false := by simp
  clear ha hb
  go_enter Try.func62, Try.ntmps62
  go_wp2_with fail
  go_loopw [13] (fun iv wr => ∃ i : Nat, i ≤ rs.length ∧ iv = .int .i64 i ∧ Hid (Chg [] w wr)) (fun iv _ => rs.length - (intOf iv).toNat)
  case atStart => exact ⟨0, Nat.zero_le _, rfl, Lib.hid (Chg.refl _ _)⟩
  case round =>
    obtain ⟨i, hi, rfl, HI⟩ := hrel
    by_cases hlt : i < rs.length
    · obtain ⟨g1, h1, hA1, hc1, hr1⟩ := (H.out.1.kept0 HI.out).at hlt
      obtain ⟨g2, h2, hA2, hc2, hr2⟩ := (H.out.2.kept0 HI.out).at hlt
      subst hA1 hA2
      obtain ⟨B1, d1, rfl, hb1, hn1⟩ := hr1.kept (T := []) (ChgT.of_nil (Chg.refl [] wr).drew) (by simp)
      obtain ⟨B2, d2, rfl, hb2, hn2⟩ := hr2.kept (T := []) (ChgT.of_nil (Chg.refl [] wr).drew) (by simp)
      have k1 := conv_bytes hb1.1 hn1
      have k2 := conv_bytes hb2.1 hn2
      obtain ⟨rb, hrb⟩ : ∃ rb, rb = rs.getD i [] := ⟨_, rfl⟩
      rw [← hrb] at hc1 hc2 k1 k2
      have hSd : wr.drew.cell? ⟨g1, i, none⟩ = some (.slice B1 rb.length d1) ∧ wr.drew.cell? ⟨g2, i, none⟩ = some (.slice B2 rb.length d2) ∧ (convert 49 9 (.slice B1 rb.length d1)).run Try.prog wr.drew = .ok (.string (strOfNums rb)) wr.drew ∧ (convert 49 9 (.slice B2 rb.length d2)).run Try.prog wr.drew = .ok (.string (strOfNums rb)) wr.drew := ⟨hc1, hc2, k1, k2⟩
      have HSD := Lib.hid hSd
      clear hc1 hc2 k1 k2 hr1 hr2 hrb hSd hb1 hb2 hn1 hn2
      go_wp2_with fail
      refine wp_region_M (fun W => W.cell? ⟨g1, i, none⟩ = some (.slice B1 rb.length d1) ∧ W.cell? ⟨g2, i, none⟩ = some (.slice B2 rb.length d2) ∧ (convert 49 9 (.slice B1 rb.length d1)).run Try.prog W = .ok (.string (strOfNums rb)) W ∧ (convert 49 9 (.slice B2 rb.length d2)).run Try.prog W = .ok (.string (strOfNums rb)) W) (fun _ => false) (fun _ => false) (by kernel_rfl) ?_
      have hSd := HSD.out
      ((try dsimp only); (try simp only [Act.put, List.setIfInBounds_toArray, List.set_cons_zero, List.set_cons_succ]))
      refine M_pure (i := 0) (v := ?_) rfl (by kernel_rfl) (by kernel_rfl) (by kernel_rfl) (fun _ _ _ h => h) (by rfl) ?hy ?_; (case hy => (intro w; go_simp; with_reducible rfl)); ((try dsimp only); (try simp only [Act.put, List.setIfInBounds_toArray, List.set_cons_zero, List.set_cons_succ]))
      refine M_pure (i := 1) (v := ?_) rfl (by kernel_rfl) (by kernel_rfl) (by kernel_rfl) (fun _ _ _ h => h) (by rfl) ?hy ?_; (case hy => (intro w; go_simp; with_reducible rfl)); ((try dsimp only); (try simp only [Act.put, List.setIfInBounds_toArray, List.set_cons_zero, List.set_cons_succ]))
      refine M_pure (i := 2) (v := ?_) rfl (by kernel_rfl) (by kernel_rfl) (by kernel_rfl) (fun _ _ _ h => h) (by rfl) ?hy ?_; (case hy => (intro w; go_simp; with_reducible rfl)); ((try dsimp only); (try simp only [Act.put, List.setIfInBounds_toArray, List.set_cons_zero, List.set_cons_succ]))
      refine M_semi (i := 3) (v := ?_) rfl (by kernel_rfl) (by kernel_rfl) (by kernel_rfl) (by kernel_rfl) (fun _ _ _ h => h) (by rfl) hSd ?hy ?_; (case hy => (intro w hS; go_simp; with_reducible rfl)); ((try dsimp only); (try simp only [Act.put, List.setIfInBounds_toArray, List.set_cons_zero, List.set_cons_succ]))
      refine M_semi (i := 4) (v := ?_) rfl (by kernel_rfl) (by kernel_rfl) (by kernel_rfl) (by kernel_rfl) (fun _ _ _ h => h) (by rfl) hSd ?hy ?_; (case hy => (intro w hS; go_simp; with_reducible rfl)); ((try dsimp only); (try simp only [Act.put, List.setIfInBounds_toArray, List.set_cons_zero, List.set_cons_succ]))
      refine M_pure (i := 5) (v := ?_) rfl (by kernel_rfl) (by kernel_rfl) (by kernel_rfl) (fun _ _ _ h => h) (by rfl) ?hy ?_; (case hy => (intro w; go_simp; with_reducible rfl)); ((try dsimp only); (try simp only [Act.put, List.setIfInBounds_toArray, List.set_cons_zero, List.set_cons_succ]))
      refine M_pure (i := 6) (v := ?_) rfl (by kernel_rfl) (by kernel_rfl) (by kernel_rfl) (fun _ _ _ h => h) (by rfl) ?hy ?_; (case hy => (intro w; go_simp; with_reducible rfl)); ((try dsimp only); (try simp only [Act.put, List.setIfInBounds_toArray, List.set_cons_zero, List.set_cons_succ]))
      refine M_pure (i := 7) (v := ?_) rfl (by kernel_rfl) (by kernel_rfl) (by kernel_rfl) (fun _ _ _ h => h) (by rfl) ?hy ?_; (case hy => (intro w; go_simp; with_reducible rfl)); ((try dsimp only); (try simp only [Act.put, List.setIfInBounds_toArray, List.set_cons_zero, List.set_cons_succ]))
      refine M_semi (i := 8) (v := ?_) rfl (by kernel_rfl) (by kernel_rfl) (by kernel_rfl) (by kernel_rfl) (fun _ _ _ h => h) (by rfl) hSd ?hy ?_; (case hy => (intro w hS; go_simp; with_reducible rfl)); ((try dsimp only); (try simp only [Act.put, List.setIfInBounds_toArray, List.set_cons_zero, List.set_cons_succ]))
      refine M_semi (i := 9) (v := ?_) rfl (by kernel_rfl) (by kernel_rfl) (by kernel_rfl) (by kernel_rfl) (fun _ _ _ h => h) (by rfl) hSd ?hy ?_; (case hy => (intro w hS; go_simp; with_reducible rfl)); ((try dsimp only); (try simp only [Act.put, List.setIfInBounds_toArray, List.set_cons_zero, List.set_cons_succ]))
      refine M_pure (i := 10) (v := ?_) rfl (by kernel_rfl) (by kernel_rfl) (by kernel_rfl) (fun _ _ _ h => h) (by rfl) ?hy ?_; (case hy => (intro w; go_simp; with_reducible rfl)); ((try dsimp only); (try simp only [Act.put, List.setIfInBounds_toArray, List.set_cons_zero, List.set_cons_succ]))
      refine M_done (by kernel_rfl) ?_ _
      clear hSd
      go_wp2_with fail
      go_roundw
      case rel => exact ⟨i + 1, by omega, by go_num, Lib.hid HI.out.drew⟩
      case measure => simp [intOf]; omega
    · obtain rfl : i = rs.length := by omega
      go_wp2_with fail
      go_ret
      exact ⟨rfl, HI.out⟩
end Go.Proofs.Ytipijkpjmpejlaa
