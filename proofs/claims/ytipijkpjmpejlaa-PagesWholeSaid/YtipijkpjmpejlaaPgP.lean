import Derived.Test.YtipijkpjmpejlaaPgO
/- The contracts of the two closures that write: a part's, and sector 0's. -/
set_option linter.unusedVariables false
set_option linter.unusedSimpArgs false
namespace Go.Proofs.Ytipijkpjmpejlaa
open Go.RowKit
theorem b20_bytes {a b c d e : Int} (ha : 0 ≤ a ∧ a < 4294967296) (hb : 0 ≤ b ∧ b < 4294967296) (hc : 0 ≤ c ∧ c < 4294967296) (hd : 0 ≤ d ∧ d < 4294967296) (he : 0 ≤ e ∧ e < 4294967296) : Bytes (b20 a b c d e) := fun x hx => by
  simp only [b20, be4, List.mem_append, List.mem_cons, List.not_mem_nil, or_false] at hx
  omega
theorem block1 {w : World} {b : Nat} {v : Value} {t : TypeId} (h : w.heap[b]? = some (.cells #[v] t (0, 0))) : w.cell? ⟨b, 0, none⟩ = some v := range_all (cs := [v]) h 0 _ rfl
set_option maxHeartbeats 4000000 in
set_option maxRecDepth 100000 in
theorem step1_any (w0 w : World) (p q bp bx ba bi bs : Nat) (D : DS) (P : PS) (xg xh xb : Int) (xv : Value) (at' i : Nat) (a b c d e : Int) (ld : List Int) (hD : DiskI w0 w p D) (hr : D.Room 1) (hP : PagesI w0 w q p P)
    (h1 : w.heap[bp]? = some (.cells #[.pointer (some ⟨q, 0, none⟩)] 91 (0, 0))) (h2 : w.heap[bx]? = some (.cells #[.int .i64 xg, .int .i64 xh, .int .i64 xb, xv] 98 (0, 0))) (h3 : w.heap[ba]? = some (.cells #[.int .i64 at'] 3 (0, 0))) (h4 : w.heap[bi]? = some (.cells #[.int .i64 i] 3 (0, 0))) (h5 : w.heap[bs]? = some (.cells (partC [a, b, c, d, e] ld).toArray 174 (0, 0)))
    (hl : ld.length = 44) (hlb : Bytes ld) (ha : 0 ≤ a ∧ a < 4294967296) (hb : 0 ≤ b ∧ b < 4294967296) (hc : 0 ≤ c ∧ c < 4294967296) (hd : 0 ≤ d ∧ d < 4294967296) (he : 0 ≤ e ∧ e < 4294967296) (hh0 : 0 ≤ xh) (hh1 : xh ≤ 1) (hat : at' ≤ 1024) (hi : i ≤ 1024) :
    Calls Try.prog 115 #[.pointer (some ⟨bp, 0, none⟩), .pointer (some ⟨bx, 0, none⟩), .pointer (some ⟨ba, 0, none⟩), .pointer (some ⟨bi, 0, none⟩), .pointer (some ⟨bs, 0, none⟩)] w fun e' w' => e' = .returned (.int .i64 (D.err (1 + xh * 1024 + at' + i) (b20 a b c d e ++ ld))) ∧ DiskI w0 w' p (D.write (1 + xh * 1024 + at' + i) (b20 a b c d e ++ ld)) ∧ ChgT w0 TD w w' := by
  obtain ⟨pv, hpb, _⟩ := hP
  have c1 := block1 h1
  have c2 := (cell7 hpb).1
  have c3 := (cell4 h2).2.1
  have c4 := block1 h3
  have c5 := block1 h4
  have hpw : p < w.heap.size := by obtain ⟨bm, v, hA, _⟩ := hD; exact lt_of_block hA.blk
  have HB := Lib.hid (fun X (hX : Chg [] w X) => bytes_any a b c d e ld bs X (hX.at h5 (by simp)) hl ha hb hc hd he)
  have hby : Bytes (b20 a b c d e ++ ld) := fun x hx => by
    rcases List.mem_append.1 hx with h | h
    · exact b20_bytes ha hb hc hd he x h
    · exact hlb x h
  have hbl : (b20 a b c d e ++ ld).length = 64 := by simp [b20, be4, hl]
  obtain ⟨bts, hbts⟩ : ∃ bts, bts = b20 a b c d e ++ ld := ⟨_, rfl⟩
  rw [← hbts] at hby hbl HB ⊢
  have HD := Lib.hid (And.intro hD (And.intro hr (And.intro hby (And.intro hbl hpw))))
  clear hD hr hpb h1 h2 h3 h4 h5 hl hlb ha hb hc hd he hby hbl hbts hpw
  have w1 : IntKind.i64.wrap (xh * 1024) = xh * 1024 := IntWalk.i64_in _ (by omega)
  have w2 : IntKind.i64.wrap (1 + xh * 1024) = 1 + xh * 1024 := IntWalk.i64_in _ (by omega)
  have w3 : IntKind.i64.wrap (1 + xh * 1024 + at') = 1 + xh * 1024 + at' := IntWalk.i64_in _ (by omega)
  have w4 : IntKind.i64.wrap (1 + xh * 1024 + at' + i) = 1 + xh * 1024 + at' + i := IntWalk.i64_in _ (by omega)
  go_enter Try.func115, Try.ntmps115
  go_wp2_with fail
  have hS : w.cell? ⟨bp, 0, none⟩ = some (.pointer (some ⟨q, 0, none⟩)) ∧ w.cell? ⟨q, 0, none⟩ = some (.pointer (some ⟨p, 0, none⟩)) ∧ w.cell? ⟨bx, 1, none⟩ = some (.int .i64 xh) ∧ w.cell? ⟨ba, 0, none⟩ = some (.int .i64 at') ∧ w.cell? ⟨bi, 0, none⟩ = some (.int .i64 i) := ⟨c1, c2, c3, c4, c5⟩
  refine wp_region_M (fun W => W.cell? ⟨bp, 0, none⟩ = some (.pointer (some ⟨q, 0, none⟩)) ∧ W.cell? ⟨q, 0, none⟩ = some (.pointer (some ⟨p, 0, none⟩)) ∧ W.cell? ⟨bx, 1, none⟩ = some (.int .i64 xh) ∧ W.cell? ⟨ba, 0, none⟩ = some (.int .i64 at') ∧ W.cell? ⟨bi, 0, none⟩ = some (.int .i64 i)) (fun k => [12, 13].contains k) (fun k => [13].contains k) (by kernel_rfl) ?_
  ((try dsimp only); (try simp only [Act.put, List.setIfInBounds_toArray, List.set_cons_zero, List.set_cons_succ]))
  refine M_semi (i := 0) (v := ?_) rfl (by kernel_rfl) (by kernel_rfl) (by kernel_rfl) (by kernel_rfl) (fun _ _ _ h => h) (by rfl) hS ?hy ?_; (case hy => (intro w hS; go_simp; with_reducible rfl)); ((try dsimp only); (try simp only [Act.put, List.setIfInBounds_toArray, List.set_cons_zero, List.set_cons_succ]))
  refine M_pure (i := 1) (v := ?_) rfl (by kernel_rfl) (by kernel_rfl) (by kernel_rfl) (fun _ _ _ h => h) (by rfl) ?hy ?_; (case hy => (intro w; go_simp; with_reducible rfl)); ((try dsimp only); (try simp only [Act.put, List.setIfInBounds_toArray, List.set_cons_zero, List.set_cons_succ]))
  refine M_pure (i := 2) (v := ?_) rfl (by kernel_rfl) (by kernel_rfl) (by kernel_rfl) (fun _ _ _ h => h) (by rfl) ?hy ?_; (case hy => (intro w; go_simp; with_reducible rfl)); ((try dsimp only); (try simp only [Act.put, List.setIfInBounds_toArray, List.set_cons_zero, List.set_cons_succ]))
  refine M_semi (i := 3) (v := ?_) rfl (by kernel_rfl) (by kernel_rfl) (by kernel_rfl) (by kernel_rfl) (fun _ _ _ h => h) (by rfl) hS ?hy ?_; (case hy => (intro w hS; go_simp; with_reducible rfl)); ((try dsimp only); (try simp only [Act.put, List.setIfInBounds_toArray, List.set_cons_zero, List.set_cons_succ]))
  refine M_pure (i := 4) (v := ?_) rfl (by kernel_rfl) (by kernel_rfl) (by kernel_rfl) (fun _ _ _ h => h) (by rfl) ?hy ?_; (case hy => (intro w; go_simp; with_reducible rfl)); ((try dsimp only); (try simp only [Act.put, List.setIfInBounds_toArray, List.set_cons_zero, List.set_cons_succ]))
  refine M_semi (i := 5) (v := ?_) rfl (by kernel_rfl) (by kernel_rfl) (by kernel_rfl) (by kernel_rfl) (fun _ _ _ h => h) (by rfl) hS ?hy ?_; (case hy => (intro w hS; go_simp; with_reducible rfl)); ((try dsimp only); (try simp only [Act.put, List.setIfInBounds_toArray, List.set_cons_zero, List.set_cons_succ]))
  refine M_pure (i := 6) (v := ?_) rfl (by kernel_rfl) (by kernel_rfl) (by kernel_rfl) (fun _ _ _ h => h) (by rfl) ?hy ?_; (case hy => (intro w; go_simp; with_reducible rfl)); ((try dsimp only); (try simp only [Act.put, List.setIfInBounds_toArray, List.set_cons_zero, List.set_cons_succ]))
  refine M_pure (i := 7) (v := ?_) rfl (by kernel_rfl) (by kernel_rfl) (by kernel_rfl) (fun _ _ _ h => h) (by rfl) ?hy ?_; (case hy => (intro w; go_simp; with_reducible rfl)); ((try dsimp only); (try simp only [Act.put, List.setIfInBounds_toArray, List.set_cons_zero, List.set_cons_succ]))
  refine M_semi (i := 8) (v := ?_) rfl (by kernel_rfl) (by kernel_rfl) (by kernel_rfl) (by kernel_rfl) (fun _ _ _ h => h) (by rfl) hS ?hy ?_; (case hy => (intro w hS; go_simp; with_reducible rfl)); ((try dsimp only); (try simp only [Act.put, List.setIfInBounds_toArray, List.set_cons_zero, List.set_cons_succ]))
  refine M_pure (i := 9) (v := ?_) rfl (by kernel_rfl) (by kernel_rfl) (by kernel_rfl) (fun _ _ _ h => h) (by rfl) ?hy ?_; (case hy => (intro w; go_simp; with_reducible rfl)); ((try dsimp only); (try simp only [Act.put, List.setIfInBounds_toArray, List.set_cons_zero, List.set_cons_succ]))
  refine M_semi (i := 10) (v := ?_) rfl (by kernel_rfl) (by kernel_rfl) (by kernel_rfl) (by kernel_rfl) (fun _ _ _ h => h) (by rfl) hS ?hy ?_; (case hy => (intro w hS; go_simp; with_reducible rfl)); ((try dsimp only); (try simp only [Act.put, List.setIfInBounds_toArray, List.set_cons_zero, List.set_cons_succ]))
  refine M_pure (i := 11) (v := ?_) rfl (by kernel_rfl) (by kernel_rfl) (by kernel_rfl) (fun _ _ _ h => h) (by rfl) ?hy ?_; (case hy => (intro w; go_simp; with_reducible rfl)); ((try dsimp only); (try simp only [Act.put, List.setIfInBounds_toArray, List.set_cons_zero, List.set_cons_succ]))
  have HS := Lib.hid hS
  clear hS c1 c2 c3 c4 c5 w1 w2 w3 w4
  refine M_eff (i := 12) rfl (by kernel_rfl) (by rfl) ?_
  go_wp2_with (go_at_call 116; refine (HB.out _ (Chg.refl [] w).drew).mono ?_; rintro e' Y ⟨v1, rfl, hR, hc⟩; obtain ⟨A1, c1, rfl⟩ := hR.slice; have HY := Lib.hid (And.intro hR ((Chg.refl [] w).drew.trans hc)); clear hR hc)
  refine ⟨⟨HY.out.2.cell HS.out.1 (by simp), HY.out.2.cell HS.out.2.1 (by simp), HY.out.2.cell HS.out.2.2.1 (by simp), HY.out.2.cell HS.out.2.2.2.1 (by simp), HY.out.2.cell HS.out.2.2.2.2 (by simp)⟩, ?_⟩
  ((try dsimp only); (try simp only [Act.put, List.setIfInBounds_toArray, List.set_cons_zero, List.set_cons_succ]))
  refine M_brk (i := 13) rfl (by kernel_rfl) (by rfl) (by rfl) ?_
  go_wp2_with (go_at_call 29; refine (write_any w0 p D (1 + xh * 1024 + at' + i) A1 bts c1 Y (HD.out.1.kept0 HY.out.2) (HD.out.2.1) HY.out.1.bytes (fun _ ad ha => by subst ha; have h1 := (HY.out.1.own ad.block rfl).1; have h2 := HD.out.2.2.2.2; intro e; rw [e] at h1; exact absurd h1 (by show ¬ w.heap.size ≤ p; omega)) HD.out.2.2.1).mono ?_; rintro e' V ⟨rfl, hD, hc⟩; have HV := Lib.hid (And.intro hD hc); clear hD hc)
  ((try dsimp only [EffQ]); (try simp only [Act.put, List.setIfInBounds_toArray, List.set_cons_zero, List.set_cons_succ]))
  refine M_pure (i := 14) (v := ?_) rfl (by kernel_rfl) (by kernel_rfl) (by kernel_rfl) (fun _ _ _ h => h) (by rfl) ?hy ?_; (case hy => (intro w; go_simp; with_reducible rfl)); ((try dsimp only); (try simp only [Act.put, List.setIfInBounds_toArray, List.set_cons_zero, List.set_cons_succ]))
  refine M_done (by kernel_rfl) ?_ _
  go_wp2_with fail
  go_ret
  exact ⟨rfl, HV.out.1, (ChgT.of_nil HY.out.2).trans HV.out.2⟩
set_option maxHeartbeats 4000000 in
set_option maxRecDepth 100000 in
theorem step2_any (w0 w : World) (p q bp bx : Nat) (D : DS) (P : PS) (xg xh xb : Int) (A : Option Addr) (n c : Nat) (hD : DiskI w0 w p D) (hr : D.Room 1) (hP : PagesI w0 w q p P)
    (h1 : w.heap[bp]? = some (.cells #[.pointer (some ⟨q, 0, none⟩)] 91 (0, 0))) (h2 : w.heap[bx]? = some (.cells #[.int .i64 xg, .int .i64 xh, .int .i64 xb, .slice A n c] 98 (0, 0))) :
    Calls Try.prog 98 #[.pointer (some ⟨bp, 0, none⟩), .pointer (some ⟨bx, 0, none⟩)] w fun e' w' => e' = .returned (.int .i64 (D.err 0 (bytes0 xg xh xb))) ∧ DiskI w0 w' p (D.write 0 (bytes0 xg xh xb)) ∧ ChgT w0 TD w w' := by
  obtain ⟨pv, hpb, _⟩ := hP
  have c1 := block1 h1
  have c2 := (cell7 hpb).1
  have HD := Lib.hid (And.intro hD (And.intro hr h2))
  clear hD hr hpb h1 h2
  go_enter Try.func98, Try.ntmps98
  go_wp2_with fail
  refine wp_region_M (fun W => True) (fun k => [5].contains k) (fun k => [5].contains k) (by kernel_rfl) ?_
  ((try dsimp only); (try simp only [Act.put, List.setIfInBounds_toArray, List.set_cons_zero, List.set_cons_succ]))
  refine M_take (i := 0) (v := ?_) rfl (by kernel_rfl) (by kernel_rfl) (by kernel_rfl) (by kernel_rfl) (fun _ _ _ h => h) (by rfl) ?hy ?_; (case hy => (go_simp; with_reducible rfl)); ((try dsimp only); (try simp only [Act.put, List.setIfInBounds_toArray, List.set_cons_zero, List.set_cons_succ]))
  refine M_pure (i := 1) (v := ?_) rfl (by kernel_rfl) (by kernel_rfl) (by kernel_rfl) (fun _ _ _ h => h) (by rfl) ?hy ?_; (case hy => (intro w; go_simp; with_reducible rfl)); ((try dsimp only); (try simp only [Act.put, List.setIfInBounds_toArray, List.set_cons_zero, List.set_cons_succ]))
  refine M_pure (i := 2) (v := ?_) rfl (by kernel_rfl) (by kernel_rfl) (by kernel_rfl) (fun _ _ _ h => h) (by rfl) ?hy ?_; (case hy => (intro w; go_simp; with_reducible rfl)); ((try dsimp only); (try simp only [Act.put, List.setIfInBounds_toArray, List.set_cons_zero, List.set_cons_succ]))
  refine M_take (i := 3) (v := ?_) rfl (by kernel_rfl) (by kernel_rfl) (by kernel_rfl) (by kernel_rfl) (fun _ _ _ h => h) (by rfl) ?hy ?_; (case hy => (go_simp; with_reducible rfl)); ((try dsimp only); (try simp only [Act.put, List.setIfInBounds_toArray, List.set_cons_zero, List.set_cons_succ]))
  refine M_take (i := 4) rfl (by kernel_rfl) (by kernel_rfl) (by kernel_rfl) (by kernel_rfl) (fun _ _ _ h => h) (by rfl) (exec_load_mid 98 (.tmp 1) rfl bx 0 rfl _ _ (range_all (cs := [.int .i64 xg, .int .i64 xh, .int .i64 xb, .slice A n c]) (w := w.drew) HD.out.2.2) Try.underlying98 rfl infoImg) ?_; ((try dsimp only); (try simp only [Act.put, List.setIfInBounds_toArray, List.set_cons_zero, List.set_cons_succ]))
  clear c1 c2
  refine M_brk (i := 5) rfl (by kernel_rfl) (by rfl) (by rfl) ?_
  go_wp2_with (go_at_call 96; refine (first_any w0 p D xg xh xb (.slice A n c) w.drew (HD.out.1.kept0 (Chg.refl [] w).drew) HD.out.2.1).mono ?_; rintro e' V ⟨rfl, hD, hc⟩; have HV := Lib.hid (And.intro hD hc); clear hD hc)
  ((try dsimp only [EffQ]); (try simp only [Act.put, List.setIfInBounds_toArray, List.set_cons_zero, List.set_cons_succ]))
  refine M_pure (i := 6) (v := ?_) rfl (by kernel_rfl) (by kernel_rfl) (by kernel_rfl) (fun _ _ _ h => h) (by rfl) ?hy ?_; (case hy => (intro w; go_simp; with_reducible rfl)); ((try dsimp only); (try simp only [Act.put, List.setIfInBounds_toArray, List.set_cons_zero, List.set_cons_succ]))
  refine M_done (by kernel_rfl) ?_ _
  go_wp2_with fail
  go_ret
  exact ⟨rfl, HV.out.1, (ChgT.of_nil (Chg.refl [] w).drew).trans HV.out.2⟩
end Go.Proofs.Ytipijkpjmpejlaa
