import Derived.Test.YtipijkpjmpejlaaPgQ
/- The contracts of (*Pages).Append and (*Pages).Snapshot. -/
set_option linter.unusedVariables false
set_option linter.unusedSimpArgs false
namespace Go.Proofs.Ytipijkpjmpejlaa
open Go.RowKit
def appendOf (D : DS) (P : PS) (b : List Int) : DS × PS × Int :=
  if P.dead = true then (D, P, 5) else if P.img.gen = 0 then (D, P, 170) else if 32768 < b.length then (D, P, 3)
  else if 1024 - P.used < partsN b.length then (D, P, 20) else writeOf D P P.img (P.img.recs.length + 1) P.used b []
/-- The image that a snapshot begins. -/
def snapImg (x : Img) : Img := if x.gen = 0 then ⟨wrap64 (x.gen + 1), 0, 1, []⟩ else ⟨wrap64 (x.gen + 1), 1 - x.half, x.boot, []⟩
def snapOf (D : DS) (P : PS) (b : List Int) : DS × PS × Int :=
  if P.dead = true then (D, P, 5) else if 32768 < b.length then (D, P, 3) else writeOf D P (snapImg P.img) 1 0 b [(0, (snapImg P.img).first)]
theorem append_nil (A : Option Addr) (n c : Nat) (w : World) : Calls Try.prog 60 #[.pointer none, .slice A n c] w fun e w' => e = .returned (.int .i64 1) ∧ w = w' := by
  go_enter Try.func60, Try.ntmps60
  go_wp2
  go_ret
  exact ⟨rfl, rfl⟩
theorem snap_nil (A : Option Addr) (n c : Nat) (w : World) : Calls Try.prog 59 #[.pointer none, .slice A n c] w fun e w' => e = .returned (.int .i64 1) ∧ Chg [] w w' := by
  go_enter Try.func59, Try.ntmps59
  go_wp2
  go_ret
  exact ⟨rfl, (by with_reducible repeat (first | exact Chg.refl _ _ | apply Chg.alloc | apply Chg.drew | apply Chg.drewN | (refine Chg.setCell ?_ _ _ (by simp))))⟩
theorem WritePost.same {w0 w : World} {p q : Nat} {D : DS} {P : PS} {e : Int} (hD : DiskI w0 w p D) (hP : PagesI w0 w q p P) : WritePost w0 p q (D, P, e) w (.returned (.int .i64 e)) w := ⟨rfl, hD, hP, ChgT.refl _ _ _⟩
set_option maxHeartbeats 4000000 in
set_option maxRecDepth 100000 in
theorem append_any (w0 w : World) (p q : Nat) (D : DS) (P : PS) (A : Option Addr) (b : List Int) (c : Nat) (hD : DiskI w0 w p D) (hP : PagesI w0 w q p P) (hf : P.img.Fit P.used) (hB : BytesK w0 w A b) (hBc : A = none → b = [] ∧ c = 0) (hbb : Bytes b) (hr : D.Room 1024) (hl64 : b.length ≤ 1099511627776) :
    Calls Try.prog 60 #[.pointer (some ⟨q, 0, none⟩), .slice A b.length c] w (WritePost w0 p q (appendOf D P b) w) := by
  have hfr := free_any w0 w q p P hP hf.most
  have hbk := blank_any w0 w q p P hP
  obtain ⟨pv, hpb, hpr, hpq⟩ := id hP
  obtain ⟨Ax, cx, rfl⟩ := hpr.slice
  obtain ⟨_, _, _, _, c4, c5, c6, _⟩ := cell7 hpb
  have hu := hf.most
  have hct := hf.count
  have HA := Lib.hid (show appendOf D P b = (if P.dead = true then (D, P, 5) else if P.img.gen = 0 then (D, P, 170) else if 32768 < b.length then (D, P, 3) else if 1024 - P.used < partsN b.length then (D, P, 20) else writeOf D P P.img (P.img.recs.length + 1) P.used b []) from rfl)
  have H := Lib.hid (And.intro hD (And.intro hP (And.intro hf (And.intro hB (And.intro hBc (And.intro hbb (And.intro hr (And.intro hpb hpr))))))))
  have HC := Lib.hid (And.intro hfr hbk)
  clear hD hP hf hB hBc hbb hr hpb hpr hfr hbk
  have hpr' : P.img.gen = 0 ∨ P.img.gen ≠ 0 := by omega
  cases hdd : P.dead with
  | true =>
    have HW := Lib.hid (show appendOf D P b = (D, P, 5) by rw [HA.out, if_pos hdd])
    rw [hdd] at c6
    clear hdd hpr'
    go_enter Try.func60, Try.ntmps60
    go_wp2_with fail
    go_ret
    rw [HW.out]
    exact WritePost.same H.out.1 H.out.2.1
  | false =>
    rw [hdd] at c6
    rcases hpr' with hg | hg
    · have HW := Lib.hid (show appendOf D P b = (D, P, 170) by rw [HA.out, if_neg (by simp [hdd]), if_pos hg])
      have e1 : (P.img.gen == 0) = true := by simpa using hg
      clear hdd hg
      go_enter Try.func60, Try.ntmps60
      go_wp2_with (go_at_call 58; refine HC.out.2.mono ?_; rintro e w' ⟨rfl, rfl⟩)
      go_ret
      rw [HW.out]
      exact WritePost.same H.out.1 H.out.2.1
    · have e1 : (P.img.gen == 0) = false := by simpa using hg
      by_cases hl : 32768 < b.length
      · have HW := Lib.hid (show appendOf D P b = (D, P, 3) by rw [HA.out, if_neg (by simp [hdd]), if_neg hg, if_pos hl])
        clear hdd hg
        go_enter Try.func60, Try.ntmps60
        go_wp2_with (go_at_call 58; refine HC.out.2.mono ?_; rintro e w' ⟨rfl, rfl⟩)
        go_ret
        rw [HW.out]
        exact WritePost.same H.out.1 H.out.2.1
      · obtain ⟨fr, hfre⟩ : ∃ fr, fr = freeOf P := ⟨_, rfl⟩
        have hfv : fr = 1024 - P.used := by rw [hfre]; unfold freeOf; rw [if_neg hg]
        obtain ⟨pn, hpn⟩ : ∃ pn, pn = partsN b.length := ⟨_, rfl⟩
        have hfr := HC.out.1
        rw [← hfre, hfv] at hfr
        have hpa : ∀ W, Calls Try.prog 66 #[.int .i64 b.length] W fun e w' => e = .returned (.int .i64 pn) ∧ W = w' := fun W => by rw [hpn]; exact parts_any _ _
        have HFR := Lib.hid (And.intro hfr hpa)
        clear hfr hpa hfre hfv
        by_cases hfu : 1024 - (P.used : Int) < pn
        · have HW := Lib.hid (show appendOf D P b = (D, P, 20) by rw [HA.out, if_neg (by simp [hdd]), if_neg hg, if_neg hl, if_pos (by rw [← hpn]; exact hfu)])
          clear hdd hg hpn
          go_enter Try.func60, Try.ntmps60
          go_wp2_with (first
            | (go_at_call 58; refine HC.out.2.mono ?_; rintro e w' ⟨rfl, rfl⟩)
            | (go_at_call 66; refine (HFR.out.2 _).mono ?_; rintro e w' ⟨rfl, rfl⟩)
            | (go_at_call 65; refine HFR.out.1.mono ?_; rintro e w' ⟨rfl, rfl⟩))
          go_ret
          rw [HW.out]
          exact WritePost.same H.out.1 H.out.2.1
        · have HW := Lib.hid (show appendOf D P b = writeOf D P P.img (P.img.recs.length + 1) P.used b [] by rw [HA.out, if_neg (by simp [hdd]), if_neg hg, if_neg hl, if_neg (by rw [← hpn]; exact hfu)])
          clear hdd hg hpn
          have wr1 : IntKind.i64.wrap ((P.img.recs.length : Int) + 1) = P.img.recs.length + 1 := IntWalk.i64_in _ (by omega)
          go_enter Try.func60, Try.ntmps60
          go_wp2_with (first
            | (go_at_call 58; refine HC.out.2.mono ?_; rintro e w' ⟨rfl, rfl⟩)
            | (go_at_call 66; refine (HFR.out.2 _).mono ?_; rintro e w' ⟨rfl, rfl⟩)
            | (go_at_call 65; refine HFR.out.1.mono ?_; rintro e w' ⟨rfl, rfl⟩))
          refine wp_region_M (fun _ => True) (fun k => [17].contains k) (fun k => [17].contains k) (by kernel_rfl) ?_
          ((try dsimp only); (try simp only [Act.put, List.setIfInBounds_toArray, List.set_cons_zero, List.set_cons_succ]))
          refine M_pure (i := 0) (v := ?_) rfl (by kernel_rfl) (by kernel_rfl) (by kernel_rfl) (fun _ _ _ h => h) (by rfl) ?hy ?_; (case hy => (intro w; go_simp; with_reducible rfl)); ((try dsimp only); (try simp only [Act.put, List.setIfInBounds_toArray, List.set_cons_zero, List.set_cons_succ]))
          refine M_pure (i := 1) (v := ?_) rfl (by kernel_rfl) (by kernel_rfl) (by kernel_rfl) (fun _ _ _ h => h) (by rfl) ?hy ?_; (case hy => (intro w; go_simp; with_reducible rfl)); ((try dsimp only); (try simp only [Act.put, List.setIfInBounds_toArray, List.set_cons_zero, List.set_cons_succ]))
          refine M_pure (i := 2) (v := ?_) rfl (by kernel_rfl) (by kernel_rfl) (by kernel_rfl) (fun _ _ _ h => h) (by rfl) ?hy ?_; (case hy => (intro w; go_simp; with_reducible rfl)); ((try dsimp only); (try simp only [Act.put, List.setIfInBounds_toArray, List.set_cons_zero, List.set_cons_succ]))
          refine M_pure (i := 3) (v := ?_) rfl (by kernel_rfl) (by kernel_rfl) (by kernel_rfl) (fun _ _ _ h => h) (by rfl) ?hy ?_; (case hy => (intro w; go_simp; with_reducible rfl)); ((try dsimp only); (try simp only [Act.put, List.setIfInBounds_toArray, List.set_cons_zero, List.set_cons_succ]))
          refine M_take (i := 4) rfl (by kernel_rfl) (by kernel_rfl) (by kernel_rfl) (by kernel_rfl) (fun _ _ _ h => h) (by rfl) (exec_load_mid 98 (.tmp 30) rfl q 1 rfl _ _ (range_of_block (cs := [.pointer (some ⟨p, 0, none⟩), .int .i64 P.img.gen, .int .i64 P.img.half, .int .i64 P.img.boot, .slice Ax P.img.recs.length cx, .int .i64 P.used, .bool P.dead]) (show w.drew.heap[q]? = _ from H.out.2.2.2.2.2.2.2.1) 1 4) Try.underlying98 rfl infoImg) ?_; ((try dsimp only); (try simp only [Act.put, List.setIfInBounds_toArray, List.set_cons_zero, List.set_cons_succ]))
          refine M_pure (i := 5) (v := ?_) rfl (by kernel_rfl) (by kernel_rfl) (by kernel_rfl) (fun _ _ _ h => h) (by rfl) ?hy ?_; (case hy => (intro w; go_simp; with_reducible rfl)); ((try dsimp only); (try simp only [Act.put, List.setIfInBounds_toArray, List.set_cons_zero, List.set_cons_succ]))
          refine M_pure (i := 6) (v := ?_) rfl (by kernel_rfl) (by kernel_rfl) (by kernel_rfl) (fun _ _ _ h => h) (by rfl) ?hy ?_; (case hy => (intro w; go_simp; with_reducible rfl)); ((try dsimp only); (try simp only [Act.put, List.setIfInBounds_toArray, List.set_cons_zero, List.set_cons_succ]))
          refine M_pure (i := 7) (v := ?_) rfl (by kernel_rfl) (by kernel_rfl) (by kernel_rfl) (fun _ _ _ h => h) (by rfl) ?hy ?_; (case hy => (intro w; go_simp; with_reducible rfl)); ((try dsimp only); (try simp only [Act.put, List.setIfInBounds_toArray, List.set_cons_zero, List.set_cons_succ]))
          refine M_pure (i := 8) (v := ?_) rfl (by kernel_rfl) (by kernel_rfl) (by kernel_rfl) (fun _ _ _ h => h) (by rfl) ?hy ?_; (case hy => (intro w; go_simp; with_reducible rfl)); ((try dsimp only); (try simp only [Act.put, List.setIfInBounds_toArray, List.set_cons_zero, List.set_cons_succ]))
          refine M_take (i := 9) (v := ?_) rfl (by kernel_rfl) (by kernel_rfl) (by kernel_rfl) (by kernel_rfl) (fun _ _ _ h => h) (by rfl) ?hy ?_; (case hy => (go_simp; with_reducible rfl)); ((try dsimp only); (try simp only [Act.put, List.setIfInBounds_toArray, List.set_cons_zero, List.set_cons_succ]))
          refine M_pure (i := 10) (v := ?_) rfl (by kernel_rfl) (by kernel_rfl) (by kernel_rfl) (fun _ _ _ h => h) (by rfl) ?hy ?_; (case hy => (intro w; go_simp; with_reducible rfl)); ((try dsimp only); (try simp only [Act.put, List.setIfInBounds_toArray, List.set_cons_zero, List.set_cons_succ]))
          refine M_pure (i := 11) (v := ?_) rfl (by kernel_rfl) (by kernel_rfl) (by kernel_rfl) (fun _ _ _ h => h) (by rfl) ?hy ?_; (case hy => (intro w; go_simp; with_reducible rfl)); ((try dsimp only); (try simp only [Act.put, List.setIfInBounds_toArray, List.set_cons_zero, List.set_cons_succ]))
          refine M_pure (i := 12) (v := ?_) rfl (by kernel_rfl) (by kernel_rfl) (by kernel_rfl) (fun _ _ _ h => h) (by rfl) ?hy ?_; (case hy => (intro w; go_simp; with_reducible rfl)); ((try dsimp only); (try simp only [Act.put, List.setIfInBounds_toArray, List.set_cons_zero, List.set_cons_succ]))
          refine M_pure (i := 13) (v := ?_) rfl (by kernel_rfl) (by kernel_rfl) (by kernel_rfl) (fun _ _ _ h => h) (by rfl) ?hy ?_; (case hy => (intro w; go_simp; with_reducible rfl)); ((try dsimp only); (try simp only [Act.put, List.setIfInBounds_toArray, List.set_cons_zero, List.set_cons_succ]))
          refine M_pure (i := 14) (v := ?_) rfl (by kernel_rfl) (by kernel_rfl) (by kernel_rfl) (fun _ _ _ h => h) (by rfl) ?hy ?_; (case hy => (intro w; go_simp; with_reducible rfl)); ((try dsimp only); (try simp only [Act.put, List.setIfInBounds_toArray, List.set_cons_zero, List.set_cons_succ]))
          refine M_take (i := 15) (v := ?_) rfl (by kernel_rfl) (by kernel_rfl) (by kernel_rfl) (by kernel_rfl) (fun _ _ _ h => h) (by rfl) ?hy ?_; (case hy => (go_simp; with_reducible rfl)); ((try dsimp only); (try simp only [Act.put, List.setIfInBounds_toArray, List.set_cons_zero, List.set_cons_succ]))
          refine M_pure (i := 16) (v := ?_) rfl (by kernel_rfl) (by kernel_rfl) (by kernel_rfl) (fun _ _ _ h => h) (by rfl) ?hy ?_; (case hy => (intro w; go_simp; with_reducible rfl)); ((try dsimp only); (try simp only [Act.put, List.setIfInBounds_toArray, List.set_cons_zero, List.set_cons_succ]))
          refine M_brk (i := 17) rfl (by kernel_rfl) (by rfl) (by rfl) ?_
          clear wr1 c4 c5 c6
          have hw0 : Chg [] w w.drew := (Chg.refl [] w).drew
          have HWR := Lib.hid (write_walk w0 w.drew p q D P P.img (.slice Ax P.img.recs.length cx) (P.img.recs.length + 1) P.used A b c (.slice none 0 0) [] (H.out.1.kept0 hw0) (H.out.2.1.kept0 hw0) (H.out.2.2.2.2.2.2.2.2.kept0 hw0) H.out.2.2.1.half (by omega) hu (H.out.2.2.2.1.kept (w0 := w0) (T := []) (ChgT.of_nil hw0) (by simp)) H.out.2.2.2.2.1 H.out.2.2.2.2.2.1 (by omega) (.inl ⟨rfl, rfl⟩) H.out.2.2.2.2.2.2.1)
          clear hw0
          go_wp2_with (go_at_call 97; refine HWR.out.mono ?_; rintro e V ⟨rfl, h1, h2, h3⟩; have HV := Lib.hid (And.intro h1 (And.intro h2 h3)); clear h1 h2 h3)
          ((try dsimp only [EffQ]); (try simp only [Act.put, List.setIfInBounds_toArray, List.set_cons_zero, List.set_cons_succ]))
          refine M_pure (i := 18) (v := ?_) rfl (by kernel_rfl) (by kernel_rfl) (by kernel_rfl) (fun _ _ _ h => h) (by rfl) ?hy ?_; (case hy => (intro w; go_simp; with_reducible rfl)); ((try dsimp only); (try simp only [Act.put, List.setIfInBounds_toArray, List.set_cons_zero, List.set_cons_succ]))
          refine M_done (by kernel_rfl) ?_ _
          go_wp2_with fail
          go_ret
          rw [HW.out]
          exact ⟨rfl, HV.out.1, HV.out.2.1, (ChgT.of_nil (Chg.refl [] w).drew).trans HV.out.2.2⟩
set_option maxHeartbeats 4000000 in
set_option maxRecDepth 100000 in
theorem snap_any (w0 w : World) (p q : Nat) (D : DS) (P : PS) (A : Option Addr) (b : List Int) (c : Nat) (hD : DiskI w0 w p D) (hP : PagesI w0 w q p P) (hf : P.img.Fit P.used) (hB : BytesK w0 w A b) (hBc : A = none → b = [] ∧ c = 0) (hbb : Bytes b) (hr : D.Room 1024) (hl64 : b.length ≤ 1099511627776) :
    Calls Try.prog 59 #[.pointer (some ⟨q, 0, none⟩), .slice A b.length c] w (WritePost w0 p q (snapOf D P b) w) := by
  have hwq : q < w.heap.size ∧ w0.heap.size ≤ w.heap.size := by obtain ⟨_, h1, _, h2⟩ := id hP; have := lt_of_block h1; omega
  obtain ⟨hqw, hww⟩ := hwq
  have HA := Lib.hid (show snapOf D P b = (if P.dead = true then (D, P, 5) else if 32768 < b.length then (D, P, 3) else writeOf D P (snapImg P.img) 1 0 b [(0, (snapImg P.img).first)]) from rfl)
  have hbx : Chg [] w (w.alloc (.cells #[.pointer (some ⟨q, 0, none⟩)] 91)) := (by with_reducible repeat (first | exact Chg.refl _ _ | apply Chg.alloc | apply Chg.drew | apply Chg.drewN | (refine Chg.setCell ?_ _ _ (by simp))))
  have H := Lib.hid (And.intro hD (And.intro hP (And.intro hf (And.intro hB (And.intro hBc (And.intro hbb (And.intro hr hbx)))))))
  obtain ⟨pv, hpb, hpr, hpq⟩ := id hP
  obtain ⟨Ax, cx, rfl⟩ := hpr.slice
  obtain ⟨_, k1, k2, k3, _, _, k6, _⟩ := cell7 (hbx.at hpb (by simp))
  have hu := hf.most
  obtain ⟨hh0, hh1⟩ := hf.half
  have HPB := Lib.hid hpb
  clear hD hP hf hB hBc hbb hr hpb hpr hbx
  have hpr' : P.img.gen = 0 ∨ P.img.gen ≠ 0 := by omega
  cases hdd : P.dead with
  | true =>
    have HW := Lib.hid (show snapOf D P b = (D, P, 5) by rw [HA.out, if_pos hdd])
    rw [hdd] at k6
    clear hdd hpr'
    go_enter Try.func59, Try.ntmps59
    go_wp2_with fail
    go_ret
    rw [HW.out]
    exact ⟨rfl, H.out.1.kept0 H.out.2.2.2.2.2.2.2, H.out.2.1.kept0 H.out.2.2.2.2.2.2.2, ChgT.of_nil H.out.2.2.2.2.2.2.2⟩
  | false =>
    rw [hdd] at k6
    by_cases hl : 32768 < b.length
    · have HW := Lib.hid (show snapOf D P b = (D, P, 3) by rw [HA.out, if_neg (by simp [hdd]), if_pos hl])
      clear hdd hpr'
      go_enter Try.func59, Try.ntmps59
      go_wp2_with fail
      go_ret
      rw [HW.out]
      exact ⟨rfl, H.out.1.kept0 H.out.2.2.2.2.2.2.2, H.out.2.1.kept0 H.out.2.2.2.2.2.2.2, ChgT.of_nil H.out.2.2.2.2.2.2.2⟩
    · have HW := Lib.hid (show snapOf D P b = writeOf D P (snapImg P.img) 1 0 b [(0, (snapImg P.img).first)] by rw [HA.out, if_neg (by simp [hdd]), if_neg hl])
      obtain ⟨pn, hpn⟩ : ∃ pn, pn = partsN b.length := ⟨_, rfl⟩
      have hpn7 : pn ≤ 1024 := by rw [hpn]; have := partsN_range (n := b.length) (by omega); omega
      have hpa : ∀ W, Calls Try.prog 66 #[.int .i64 b.length] W fun e w' => e = .returned (.int .i64 pn) ∧ W = w' := fun W => by rw [hpn]; exact parts_any _ _
      have HPA := Lib.hid hpa
      clear hdd hpn hpa
      obtain ⟨G, hG⟩ : ∃ G, G = wrap64 (P.img.gen + 1) := ⟨_, rfl⟩
      have wG : IntKind.i64.wrap (P.img.gen + 1) = G := by rw [hG]; exact IntWalk.i64_left _
      have wH : IntKind.i64.wrap (1 - P.img.half) = 1 - P.img.half := IntWalk.i64_in _ (by omega)
      rcases hpr' with hg | hg
      · have e1 : (P.img.gen == 0) = true := by simpa using hg
        have hsn : snapImg P.img = ⟨G, 0, 1, []⟩ := by unfold snapImg; rw [if_pos hg, ← hG]
        have HSN := Lib.hid hsn
        clear hsn hg hG
        go_enter Try.func59, Try.ntmps59
        go_wp2_with (go_at_call 66; refine (HPA.out _).mono ?_; rintro e w' ⟨rfl, rfl⟩)
        refine wp_world (fun X => X.heap[w.heap.size]? = some (.cells #[.pointer (some ⟨q, 0, none⟩)] 91 (0, 0)) ∧ Chg [] w X ∧ X.heap.size = w.heap.size + 1) ⟨heap_new w _ rfl, H.out.2.2.2.2.2.2.2, by simp⟩ ?_
        rintro X ⟨hx1, hx2, hx3⟩
        clear k1 k2 k3 k6
        obtain ⟨_, k1, k2, k3, _, _, k6, _⟩ := cell7 (hx2.at HPB.out (by simp))
        have kb := block1 hx1
        have hS : X.cell? ⟨w.heap.size, 0, none⟩ = some (.pointer (some ⟨q, 0, none⟩)) ∧ X.cell? ⟨q, 1, none⟩ = some (.int .i64 P.img.gen) ∧ X.cell? ⟨q, 2, none⟩ = some (.int .i64 P.img.half) ∧ X.cell? ⟨q, 3, none⟩ = some (.int .i64 P.img.boot) := ⟨kb, k1, k2, k3⟩
        have HX := Lib.hid (And.intro hx1 (And.intro hx2 hx3))
        clear hx1 hx2 hx3
        refine wp_region_M (fun W => W.cell? ⟨w.heap.size, 0, none⟩ = some (.pointer (some ⟨q, 0, none⟩)) ∧ W.cell? ⟨q, 1, none⟩ = some (.int .i64 P.img.gen) ∧ W.cell? ⟨q, 2, none⟩ = some (.int .i64 P.img.half) ∧ W.cell? ⟨q, 3, none⟩ = some (.int .i64 P.img.boot)) (fun k => [18, 19].contains k) (fun k => [19].contains k) (by kernel_rfl) ?_
        ((try dsimp only); (try simp only [Act.put, List.setIfInBounds_toArray, List.set_cons_zero, List.set_cons_succ]))
        refine M_semi (i := 0) (v := ?_) rfl (by kernel_rfl) (by kernel_rfl) (by kernel_rfl) (by kernel_rfl) (fun _ _ _ h => h) (by rfl) hS ?hy ?_; (case hy => (intro w hS; go_simp; with_reducible rfl)); ((try dsimp only); (try simp only [Act.put, List.setIfInBounds_toArray, List.set_cons_zero, List.set_cons_succ]))
        refine M_pure (i := 1) (v := ?_) rfl (by kernel_rfl) (by kernel_rfl) (by kernel_rfl) (fun _ _ _ h => h) (by rfl) ?hy ?_; (case hy => (intro w; go_simp; with_reducible rfl)); ((try dsimp only); (try simp only [Act.put, List.setIfInBounds_toArray, List.set_cons_zero, List.set_cons_succ]))
        refine M_pure (i := 2) (v := ?_) rfl (by kernel_rfl) (by kernel_rfl) (by kernel_rfl) (fun _ _ _ h => h) (by rfl) ?hy ?_; (case hy => (intro w; go_simp; with_reducible rfl)); ((try dsimp only); (try simp only [Act.put, List.setIfInBounds_toArray, List.set_cons_zero, List.set_cons_succ]))
        refine M_pure (i := 3) (v := ?_) rfl (by kernel_rfl) (by kernel_rfl) (by kernel_rfl) (fun _ _ _ h => h) (by rfl) ?hy ?_; (case hy => (intro w; go_simp; with_reducible rfl)); ((try dsimp only); (try simp only [Act.put, List.setIfInBounds_toArray, List.set_cons_zero, List.set_cons_succ]))
        refine M_semi (i := 4) (v := ?_) rfl (by kernel_rfl) (by kernel_rfl) (by kernel_rfl) (by kernel_rfl) (fun _ _ _ h => h) (by rfl) hS ?hy ?_; (case hy => (intro w hS; go_simp; with_reducible rfl)); ((try dsimp only); (try simp only [Act.put, List.setIfInBounds_toArray, List.set_cons_zero, List.set_cons_succ]))
        refine M_pure (i := 5) (v := ?_) rfl (by kernel_rfl) (by kernel_rfl) (by kernel_rfl) (fun _ _ _ h => h) (by rfl) ?hy ?_; (case hy => (intro w; go_simp; with_reducible rfl)); ((try dsimp only); (try simp only [Act.put, List.setIfInBounds_toArray, List.set_cons_zero, List.set_cons_succ]))
        refine M_semi (i := 6) (v := ?_) rfl (by kernel_rfl) (by kernel_rfl) (by kernel_rfl) (by kernel_rfl) (fun _ _ _ h => h) (by rfl) hS ?hy ?_; (case hy => (intro w hS; go_simp; with_reducible rfl)); ((try dsimp only); (try simp only [Act.put, List.setIfInBounds_toArray, List.set_cons_zero, List.set_cons_succ]))
        refine M_pure (i := 7) (v := ?_) rfl (by kernel_rfl) (by kernel_rfl) (by kernel_rfl) (fun _ _ _ h => h) (by rfl) ?hy ?_; (case hy => (intro w; go_simp; with_reducible rfl)); ((try dsimp only); (try simp only [Act.put, List.setIfInBounds_toArray, List.set_cons_zero, List.set_cons_succ]))
        refine M_pure (i := 8) (v := ?_) rfl (by kernel_rfl) (by kernel_rfl) (by kernel_rfl) (fun _ _ _ h => h) (by rfl) ?hy ?_; (case hy => (intro w; go_simp; with_reducible rfl)); ((try dsimp only); (try simp only [Act.put, List.setIfInBounds_toArray, List.set_cons_zero, List.set_cons_succ]))
        refine M_pure (i := 9) (v := ?_) rfl (by kernel_rfl) (by kernel_rfl) (by kernel_rfl) (fun _ _ _ h => h) (by rfl) ?hy ?_; (case hy => (intro w; go_simp; with_reducible rfl)); ((try dsimp only); (try simp only [Act.put, List.setIfInBounds_toArray, List.set_cons_zero, List.set_cons_succ]))
        refine M_semi (i := 10) (v := ?_) rfl (by kernel_rfl) (by kernel_rfl) (by kernel_rfl) (by kernel_rfl) (fun _ _ _ h => h) (by rfl) hS ?hy ?_; (case hy => (intro w hS; go_simp; with_reducible rfl)); ((try dsimp only); (try simp only [Act.put, List.setIfInBounds_toArray, List.set_cons_zero, List.set_cons_succ]))
        refine M_pure (i := 11) (v := ?_) rfl (by kernel_rfl) (by kernel_rfl) (by kernel_rfl) (fun _ _ _ h => h) (by rfl) ?hy ?_; (case hy => (intro w; go_simp; with_reducible rfl)); ((try dsimp only); (try simp only [Act.put, List.setIfInBounds_toArray, List.set_cons_zero, List.set_cons_succ]))
        refine M_semi (i := 12) (v := ?_) rfl (by kernel_rfl) (by kernel_rfl) (by kernel_rfl) (by kernel_rfl) (fun _ _ _ h => h) (by rfl) hS ?hy ?_; (case hy => (intro w hS; go_simp; with_reducible rfl)); ((try dsimp only); (try simp only [Act.put, List.setIfInBounds_toArray, List.set_cons_zero, List.set_cons_succ]))
        refine M_pure (i := 13) (v := ?_) rfl (by kernel_rfl) (by kernel_rfl) (by kernel_rfl) (fun _ _ _ h => h) (by rfl) ?hy ?_; (case hy => (intro w; go_simp; with_reducible rfl)); ((try dsimp only); (try simp only [Act.put, List.setIfInBounds_toArray, List.set_cons_zero, List.set_cons_succ]))
        refine M_pure (i := 14) (v := ?_) rfl (by kernel_rfl) (by kernel_rfl) (by kernel_rfl) (fun _ _ _ h => h) (by rfl) ?hy ?_; (case hy => (intro w; go_simp; with_reducible rfl)); ((try dsimp only); (try simp only [Act.put, List.setIfInBounds_toArray, List.set_cons_zero, List.set_cons_succ]))
        refine M_pure (i := 15) (v := ?_) rfl (by kernel_rfl) (by kernel_rfl) (by kernel_rfl) (fun _ _ _ h => h) (by rfl) ?hy ?_; (case hy => (intro w; go_simp; with_reducible rfl)); ((try dsimp only); (try simp only [Act.put, List.setIfInBounds_toArray, List.set_cons_zero, List.set_cons_succ]))
        refine M_semi (i := 16) (v := ?_) rfl (by kernel_rfl) (by kernel_rfl) (by kernel_rfl) (by kernel_rfl) (fun _ _ _ h => h) (by rfl) hS ?hy ?_; (case hy => (intro w hS; go_simp; with_reducible rfl)); ((try dsimp only); (try simp only [Act.put, List.setIfInBounds_toArray, List.set_cons_zero, List.set_cons_succ]))
        refine M_pure (i := 17) (v := ?_) rfl (by kernel_rfl) (by kernel_rfl) (by kernel_rfl) (fun _ _ _ h => h) (by rfl) ?hy ?_; (case hy => (intro w; go_simp; with_reducible rfl)); ((try dsimp only); (try simp only [Act.put, List.setIfInBounds_toArray, List.set_cons_zero, List.set_cons_succ]))
        have HS := Lib.hid hS
        clear hS kb k1 k2 k3 k6 wG wH
        refine M_eff (i := 18) rfl (by kernel_rfl) (by rfl) ?_
        refine wpList_alloc rfl 98 rfl _ zeroImg ?_
        refine wpList_world (fun Y => Y.heap[w.heap.size + 1]? = some (.cells #[.int .i64 0, .int .i64 0, .int .i64 0, .slice none 0 0] 98 (0, 0)) ∧ Chg [] X Y) ⟨heap_new _ _ (by rw [← HX.out.2.2]; rfl), by exact ((Chg.refl [] X).drew).alloc _⟩ ?_
        rintro Y ⟨hy1, hy2⟩
        have hsz : X.drew.heap.size = w.heap.size + 1 := HX.out.2.2
        rw [hsz]
        clear hsz
        have HY := Lib.hid (And.intro hy1 hy2)
        refine wpList_nil ⟨⟨hy2.cell HS.out.1 (by simp), hy2.cell HS.out.2.1 (by simp), hy2.cell HS.out.2.2.1 (by simp), hy2.cell HS.out.2.2.2 (by simp)⟩, ?_⟩
        clear hy1 hy2
        ((try dsimp only); (try simp only [Act.put, List.setIfInBounds_toArray, List.set_cons_zero, List.set_cons_succ]))
        refine M_brk (i := 19) rfl (by kernel_rfl) (by rfl) (by rfl) ?_
        refine wpList_store_row rfl 98 (.tmp 5) (.tmp 40) rfl (w.heap.size + 1) (by kernel_rfl) #[.int .i64 G, .int .i64 (1 - P.img.half), .int .i64 P.img.boot, .slice none 0 0] (by kernel_rfl) _ _ HY.out.1 infoImg rfl (img_one _ _ _ _ rfl) ?_
        refine wpList_nil ?_
        ((try dsimp only [EffQ]); (try simp only [Act.put, List.setIfInBounds_toArray, List.set_cons_zero, List.set_cons_succ]))
        refine M_done (by kernel_rfl) ?_ _
        refine (show ∀ {R : World → Prop} {Z : World}, R Z → R Z from fun h => h) ?_
        obtain ⟨Z, hZ⟩ : ∃ Z, Z = Y.setRow (w.heap.size + 1) #[.int .i64 G, .int .i64 (1 - P.img.half), .int .i64 P.img.boot, .slice none 0 0] := ⟨_, rfl⟩
        rw [← hZ]
        have hz1 : Z.heap[w.heap.size + 1]? = some (.cells #[.int .i64 G, .int .i64 (1 - P.img.half), .int .i64 P.img.boot, .slice none 0 0] 98 (0, 0)) := by rw [hZ]; exact setRow_heap _ _ _ _ _ _ HY.out.1
        have hz2 : Chg [] w Z := by rw [hZ]; exact (HX.out.2.1.trans HY.out.2).andThen (setRow_chg _ _ _) (by simp)
        have hz3 : Z.heap[w.heap.size]? = some (.cells #[.pointer (some ⟨q, 0, none⟩)] 91 (0, 0)) := by rw [hZ]; exact (setRow_chg _ _ _).at (HY.out.2.at HX.out.1 (by simp)) (by simp)
        have HZ := Lib.hid (And.intro hz1 (And.intro hz2 hz3))
        have kb := block1 hz3
        have z4 := cell4 hz1
        obtain ⟨y0, y1, y2, y3, yf⟩ := z4
        have yf1 := yf 1
        have yf2 := yf 2
        clear hz1 hz2 hz3 hZ yf
        have hbk := blank_any w0 Z q p P (H.out.2.1.kept0 HZ.out.2.1)
        have HBK := Lib.hid hbk
        clear hbk
        have hmf : ∀ (fn : Fn) (first cap : Array Value) (w : World), (Instr.makeFunc fn first cap).run Try.prog w = .ok (.func fn first cap) w := fun _ _ _ _ => rfl
        go_upto_region 12 with (go_at_call 58; refine HBK.out.mono ?_; rintro e w' ⟨rfl, rfl⟩)
        ((try dsimp only); (try simp only [Act.put, List.setIfInBounds_toArray, List.set_cons_zero, List.set_cons_succ]))
        refine wp_world (fun U => U.heap[w.heap.size + 1]? = some (.cells #[.int .i64 G, .int .i64 0, .int .i64 1, .slice none 0 0] 98 (0, 0)) ∧ U.heap[w.heap.size]? = some (.cells #[.pointer (some ⟨q, 0, none⟩)] 91 (0, 0)) ∧ Chg [] w U) ⟨heap_setCell_same (Z.setCell ⟨w.heap.size + 1, 1, none⟩ (.int .i64 0)) (w.heap.size + 1) 2 _ _ (.int .i64 1) (heap_setCell_same Z (w.heap.size + 1) 1 _ _ (.int .i64 0) HZ.out.1), by rw [heap_setCell_other _ _ _ _ (by simp), heap_setCell_other _ _ _ _ (by simp)]; exact HZ.out.2.2, (HZ.out.2.1.setCell _ _ (by simp)).setCell _ _ (by simp)⟩ ?_
        rintro U ⟨hu1, hu2, hu3⟩
        clear kb y0 y1 y2 y3 yf1 yf2
        have kb := block1 hu2
        have HU := Lib.hid (And.intro hu1 (And.intro hu2 hu3))
        clear hu1 hu2 hu3
        go_wp2_with (first
          | (refine wpList_load_mid rfl 98 (.tmp 5) rfl (w.heap.size + 1) 0 (by kernel_rfl) _ _ (range_all (cs := [_, _, _, _]) HU.out.1) Try.underlying98 rfl infoImg ?_
             ((try dsimp only); (try simp only [Act.put, List.setIfInBounds_toArray, List.set_cons_zero, List.set_cons_succ])))
          | (skip; fail))
        have hcU : ∀ f, Chg [] w (U.alloc (.cells #[f] 65)) := fun f => HU.out.2.2.alloc _
        refine (write_walk w0 _ p q D P ⟨G, 0, 1, []⟩ (.slice none 0 0) 1 0 A b c _ [(0, (Img.mk G 0 1 []).first)] (H.out.1.kept0 (hcU _)) (H.out.2.1.kept0 (hcU _)) (RecsA.nil _ _) ⟨Int.le_refl 0, by show (0 : Int) ≤ 1; decide⟩ (by simp) (by omega) (H.out.2.2.2.1.kept (w0 := w0) (T := []) (ChgT.of_nil (hcU _)) (by simp)) H.out.2.2.2.2.1 H.out.2.2.2.2.2.1 (by omega) (.inr ⟨U.heap.size, _, rfl, rfl, heap_new U _ rfl, w.heap.size, w.heap.size + 1, none, 0, 0, rfl, heap_old HU.out.2.1 _, heap_old HU.out.1 _⟩) H.out.2.2.2.2.2.2.1).mono ?_
        rintro e V ⟨rfl, h1, h2, h3⟩
        have HV := Lib.hid (And.intro h1 (And.intro h2 (h3.trans (ChgT.refl _ _ _))))
        have hcV := (ChgT.of_nil (w0 := w0) (T := TP) (hcU _)).trans h3
        have HCV := Lib.hid hcV
        clear h1 h2 h3 hcU hcV hmf
        go_wp2_with fail
        go_ret
        rw [HW.out, HSN.out]
        exact ⟨rfl, HV.out.1, HV.out.2.1, HCV.out⟩
      · have e1 : (P.img.gen == 0) = false := by simpa using hg
        have hsn : snapImg P.img = ⟨G, 1 - P.img.half, P.img.boot, []⟩ := by unfold snapImg; rw [if_neg hg, ← hG]
        have HSN := Lib.hid hsn
        clear hsn hg hG
        go_enter Try.func59, Try.ntmps59
        go_wp2_with (go_at_call 66; refine (HPA.out _).mono ?_; rintro e w' ⟨rfl, rfl⟩)
        refine wp_world (fun X => X.heap[w.heap.size]? = some (.cells #[.pointer (some ⟨q, 0, none⟩)] 91 (0, 0)) ∧ Chg [] w X ∧ X.heap.size = w.heap.size + 1) ⟨heap_new w _ rfl, H.out.2.2.2.2.2.2.2, by simp⟩ ?_
        rintro X ⟨hx1, hx2, hx3⟩
        clear k1 k2 k3 k6
        obtain ⟨_, k1, k2, k3, _, _, k6, _⟩ := cell7 (hx2.at HPB.out (by simp))
        have kb := block1 hx1
        have hS : X.cell? ⟨w.heap.size, 0, none⟩ = some (.pointer (some ⟨q, 0, none⟩)) ∧ X.cell? ⟨q, 1, none⟩ = some (.int .i64 P.img.gen) ∧ X.cell? ⟨q, 2, none⟩ = some (.int .i64 P.img.half) ∧ X.cell? ⟨q, 3, none⟩ = some (.int .i64 P.img.boot) := ⟨kb, k1, k2, k3⟩
        have HX := Lib.hid (And.intro hx1 (And.intro hx2 hx3))
        clear hx1 hx2 hx3
        refine wp_region_M (fun W => W.cell? ⟨w.heap.size, 0, none⟩ = some (.pointer (some ⟨q, 0, none⟩)) ∧ W.cell? ⟨q, 1, none⟩ = some (.int .i64 P.img.gen) ∧ W.cell? ⟨q, 2, none⟩ = some (.int .i64 P.img.half) ∧ W.cell? ⟨q, 3, none⟩ = some (.int .i64 P.img.boot)) (fun k => [18, 19].contains k) (fun k => [19].contains k) (by kernel_rfl) ?_
        ((try dsimp only); (try simp only [Act.put, List.setIfInBounds_toArray, List.set_cons_zero, List.set_cons_succ]))
        refine M_semi (i := 0) (v := ?_) rfl (by kernel_rfl) (by kernel_rfl) (by kernel_rfl) (by kernel_rfl) (fun _ _ _ h => h) (by rfl) hS ?hy ?_; (case hy => (intro w hS; go_simp; with_reducible rfl)); ((try dsimp only); (try simp only [Act.put, List.setIfInBounds_toArray, List.set_cons_zero, List.set_cons_succ]))
        refine M_pure (i := 1) (v := ?_) rfl (by kernel_rfl) (by kernel_rfl) (by kernel_rfl) (fun _ _ _ h => h) (by rfl) ?hy ?_; (case hy => (intro w; go_simp; with_reducible rfl)); ((try dsimp only); (try simp only [Act.put, List.setIfInBounds_toArray, List.set_cons_zero, List.set_cons_succ]))
        refine M_pure (i := 2) (v := ?_) rfl (by kernel_rfl) (by kernel_rfl) (by kernel_rfl) (fun _ _ _ h => h) (by rfl) ?hy ?_; (case hy => (intro w; go_simp; with_reducible rfl)); ((try dsimp only); (try simp only [Act.put, List.setIfInBounds_toArray, List.set_cons_zero, List.set_cons_succ]))
        refine M_pure (i := 3) (v := ?_) rfl (by kernel_rfl) (by kernel_rfl) (by kernel_rfl) (fun _ _ _ h => h) (by rfl) ?hy ?_; (case hy => (intro w; go_simp; with_reducible rfl)); ((try dsimp only); (try simp only [Act.put, List.setIfInBounds_toArray, List.set_cons_zero, List.set_cons_succ]))
        refine M_semi (i := 4) (v := ?_) rfl (by kernel_rfl) (by kernel_rfl) (by kernel_rfl) (by kernel_rfl) (fun _ _ _ h => h) (by rfl) hS ?hy ?_; (case hy => (intro w hS; go_simp; with_reducible rfl)); ((try dsimp only); (try simp only [Act.put, List.setIfInBounds_toArray, List.set_cons_zero, List.set_cons_succ]))
        refine M_pure (i := 5) (v := ?_) rfl (by kernel_rfl) (by kernel_rfl) (by kernel_rfl) (fun _ _ _ h => h) (by rfl) ?hy ?_; (case hy => (intro w; go_simp; with_reducible rfl)); ((try dsimp only); (try simp only [Act.put, List.setIfInBounds_toArray, List.set_cons_zero, List.set_cons_succ]))
        refine M_semi (i := 6) (v := ?_) rfl (by kernel_rfl) (by kernel_rfl) (by kernel_rfl) (by kernel_rfl) (fun _ _ _ h => h) (by rfl) hS ?hy ?_; (case hy => (intro w hS; go_simp; with_reducible rfl)); ((try dsimp only); (try simp only [Act.put, List.setIfInBounds_toArray, List.set_cons_zero, List.set_cons_succ]))
        refine M_pure (i := 7) (v := ?_) rfl (by kernel_rfl) (by kernel_rfl) (by kernel_rfl) (fun _ _ _ h => h) (by rfl) ?hy ?_; (case hy => (intro w; go_simp; with_reducible rfl)); ((try dsimp only); (try simp only [Act.put, List.setIfInBounds_toArray, List.set_cons_zero, List.set_cons_succ]))
        refine M_pure (i := 8) (v := ?_) rfl (by kernel_rfl) (by kernel_rfl) (by kernel_rfl) (fun _ _ _ h => h) (by rfl) ?hy ?_; (case hy => (intro w; go_simp; with_reducible rfl)); ((try dsimp only); (try simp only [Act.put, List.setIfInBounds_toArray, List.set_cons_zero, List.set_cons_succ]))
        refine M_pure (i := 9) (v := ?_) rfl (by kernel_rfl) (by kernel_rfl) (by kernel_rfl) (fun _ _ _ h => h) (by rfl) ?hy ?_; (case hy => (intro w; go_simp; with_reducible rfl)); ((try dsimp only); (try simp only [Act.put, List.setIfInBounds_toArray, List.set_cons_zero, List.set_cons_succ]))
        refine M_semi (i := 10) (v := ?_) rfl (by kernel_rfl) (by kernel_rfl) (by kernel_rfl) (by kernel_rfl) (fun _ _ _ h => h) (by rfl) hS ?hy ?_; (case hy => (intro w hS; go_simp; with_reducible rfl)); ((try dsimp only); (try simp only [Act.put, List.setIfInBounds_toArray, List.set_cons_zero, List.set_cons_succ]))
        refine M_pure (i := 11) (v := ?_) rfl (by kernel_rfl) (by kernel_rfl) (by kernel_rfl) (fun _ _ _ h => h) (by rfl) ?hy ?_; (case hy => (intro w; go_simp; with_reducible rfl)); ((try dsimp only); (try simp only [Act.put, List.setIfInBounds_toArray, List.set_cons_zero, List.set_cons_succ]))
        refine M_semi (i := 12) (v := ?_) rfl (by kernel_rfl) (by kernel_rfl) (by kernel_rfl) (by kernel_rfl) (fun _ _ _ h => h) (by rfl) hS ?hy ?_; (case hy => (intro w hS; go_simp; with_reducible rfl)); ((try dsimp only); (try simp only [Act.put, List.setIfInBounds_toArray, List.set_cons_zero, List.set_cons_succ]))
        refine M_pure (i := 13) (v := ?_) rfl (by kernel_rfl) (by kernel_rfl) (by kernel_rfl) (fun _ _ _ h => h) (by rfl) ?hy ?_; (case hy => (intro w; go_simp; with_reducible rfl)); ((try dsimp only); (try simp only [Act.put, List.setIfInBounds_toArray, List.set_cons_zero, List.set_cons_succ]))
        refine M_pure (i := 14) (v := ?_) rfl (by kernel_rfl) (by kernel_rfl) (by kernel_rfl) (fun _ _ _ h => h) (by rfl) ?hy ?_; (case hy => (intro w; go_simp; with_reducible rfl)); ((try dsimp only); (try simp only [Act.put, List.setIfInBounds_toArray, List.set_cons_zero, List.set_cons_succ]))
        refine M_pure (i := 15) (v := ?_) rfl (by kernel_rfl) (by kernel_rfl) (by kernel_rfl) (fun _ _ _ h => h) (by rfl) ?hy ?_; (case hy => (intro w; go_simp; with_reducible rfl)); ((try dsimp only); (try simp only [Act.put, List.setIfInBounds_toArray, List.set_cons_zero, List.set_cons_succ]))
        refine M_semi (i := 16) (v := ?_) rfl (by kernel_rfl) (by kernel_rfl) (by kernel_rfl) (by kernel_rfl) (fun _ _ _ h => h) (by rfl) hS ?hy ?_; (case hy => (intro w hS; go_simp; with_reducible rfl)); ((try dsimp only); (try simp only [Act.put, List.setIfInBounds_toArray, List.set_cons_zero, List.set_cons_succ]))
        refine M_pure (i := 17) (v := ?_) rfl (by kernel_rfl) (by kernel_rfl) (by kernel_rfl) (fun _ _ _ h => h) (by rfl) ?hy ?_; (case hy => (intro w; go_simp; with_reducible rfl)); ((try dsimp only); (try simp only [Act.put, List.setIfInBounds_toArray, List.set_cons_zero, List.set_cons_succ]))
        have HS := Lib.hid hS
        clear hS kb k1 k2 k3 k6 wG wH
        refine M_eff (i := 18) rfl (by kernel_rfl) (by rfl) ?_
        refine wpList_alloc rfl 98 rfl _ zeroImg ?_
        refine wpList_world (fun Y => Y.heap[w.heap.size + 1]? = some (.cells #[.int .i64 0, .int .i64 0, .int .i64 0, .slice none 0 0] 98 (0, 0)) ∧ Chg [] X Y) ⟨heap_new _ _ (by rw [← HX.out.2.2]; rfl), by exact ((Chg.refl [] X).drew).alloc _⟩ ?_
        rintro Y ⟨hy1, hy2⟩
        have hsz : X.drew.heap.size = w.heap.size + 1 := HX.out.2.2
        rw [hsz]
        clear hsz
        have HY := Lib.hid (And.intro hy1 hy2)
        refine wpList_nil ⟨⟨hy2.cell HS.out.1 (by simp), hy2.cell HS.out.2.1 (by simp), hy2.cell HS.out.2.2.1 (by simp), hy2.cell HS.out.2.2.2 (by simp)⟩, ?_⟩
        clear hy1 hy2
        ((try dsimp only); (try simp only [Act.put, List.setIfInBounds_toArray, List.set_cons_zero, List.set_cons_succ]))
        refine M_brk (i := 19) rfl (by kernel_rfl) (by rfl) (by rfl) ?_
        refine wpList_store_row rfl 98 (.tmp 5) (.tmp 40) rfl (w.heap.size + 1) (by kernel_rfl) #[.int .i64 G, .int .i64 (1 - P.img.half), .int .i64 P.img.boot, .slice none 0 0] (by kernel_rfl) _ _ HY.out.1 infoImg rfl (img_one _ _ _ _ rfl) ?_
        refine wpList_nil ?_
        ((try dsimp only [EffQ]); (try simp only [Act.put, List.setIfInBounds_toArray, List.set_cons_zero, List.set_cons_succ]))
        refine M_done (by kernel_rfl) ?_ _
        refine (show ∀ {R : World → Prop} {Z : World}, R Z → R Z from fun h => h) ?_
        obtain ⟨Z, hZ⟩ : ∃ Z, Z = Y.setRow (w.heap.size + 1) #[.int .i64 G, .int .i64 (1 - P.img.half), .int .i64 P.img.boot, .slice none 0 0] := ⟨_, rfl⟩
        rw [← hZ]
        have hz1 : Z.heap[w.heap.size + 1]? = some (.cells #[.int .i64 G, .int .i64 (1 - P.img.half), .int .i64 P.img.boot, .slice none 0 0] 98 (0, 0)) := by rw [hZ]; exact setRow_heap _ _ _ _ _ _ HY.out.1
        have hz2 : Chg [] w Z := by rw [hZ]; exact (HX.out.2.1.trans HY.out.2).andThen (setRow_chg _ _ _) (by simp)
        have hz3 : Z.heap[w.heap.size]? = some (.cells #[.pointer (some ⟨q, 0, none⟩)] 91 (0, 0)) := by rw [hZ]; exact (setRow_chg _ _ _).at (HY.out.2.at HX.out.1 (by simp)) (by simp)
        have HZ := Lib.hid (And.intro hz1 (And.intro hz2 hz3))
        have kb := block1 hz3
        have z4 := cell4 hz1
        obtain ⟨y0, y1, y2, y3, yf⟩ := z4
        have yf1 := yf 1
        have yf2 := yf 2
        clear hz1 hz2 hz3 hZ yf
        have hbk := blank_any w0 Z q p P (H.out.2.1.kept0 HZ.out.2.1)
        have HBK := Lib.hid hbk
        clear hbk
        have hmf : ∀ (fn : Fn) (first cap : Array Value) (w : World), (Instr.makeFunc fn first cap).run Try.prog w = .ok (.func fn first cap) w := fun _ _ _ _ => rfl
        go_upto_region 12 with (go_at_call 58; refine HBK.out.mono ?_; rintro e w' ⟨rfl, rfl⟩)
        ((try dsimp only); (try simp only [Act.put, List.setIfInBounds_toArray, List.set_cons_zero, List.set_cons_succ]))
        refine wp_world (fun U => U.heap[w.heap.size + 1]? = some (.cells #[.int .i64 G, .int .i64 (1 - P.img.half), .int .i64 P.img.boot, .slice none 0 0] 98 (0, 0)) ∧ U.heap[w.heap.size]? = some (.cells #[.pointer (some ⟨q, 0, none⟩)] 91 (0, 0)) ∧ Chg [] w U) ⟨HZ.out.1, HZ.out.2.2, HZ.out.2.1⟩ ?_
        rintro U ⟨hu1, hu2, hu3⟩
        clear kb y0 y1 y2 y3 yf1 yf2
        have kb := block1 hu2
        have HU := Lib.hid (And.intro hu1 (And.intro hu2 hu3))
        clear hu1 hu2 hu3
        go_wp2_with (first
          | (refine wpList_load_mid rfl 98 (.tmp 5) rfl (w.heap.size + 1) 0 (by kernel_rfl) _ _ (range_all (cs := [_, _, _, _]) HU.out.1) Try.underlying98 rfl infoImg ?_
             ((try dsimp only); (try simp only [Act.put, List.setIfInBounds_toArray, List.set_cons_zero, List.set_cons_succ])))
          | (skip; fail))
        have hcU : ∀ f, Chg [] w (U.alloc (.cells #[f] 65)) := fun f => HU.out.2.2.alloc _
        refine (write_walk w0 _ p q D P ⟨G, 1 - P.img.half, P.img.boot, []⟩ (.slice none 0 0) 1 0 A b c _ [(0, (Img.mk G (1 - P.img.half) P.img.boot []).first)] (H.out.1.kept0 (hcU _)) (H.out.2.1.kept0 (hcU _)) (RecsA.nil _ _) ⟨by show 0 ≤ 1 - P.img.half; omega, by show 1 - P.img.half ≤ 1; omega⟩ (by simp) (by omega) (H.out.2.2.2.1.kept (w0 := w0) (T := []) (ChgT.of_nil (hcU _)) (by simp)) H.out.2.2.2.2.1 H.out.2.2.2.2.2.1 (by omega) (.inr ⟨U.heap.size, _, rfl, rfl, heap_new U _ rfl, w.heap.size, w.heap.size + 1, none, 0, 0, rfl, heap_old HU.out.2.1 _, heap_old HU.out.1 _⟩) H.out.2.2.2.2.2.2.1).mono ?_
        rintro e V ⟨rfl, h1, h2, h3⟩
        have HV := Lib.hid (And.intro h1 (And.intro h2 (h3.trans (ChgT.refl _ _ _))))
        have hcV := (ChgT.of_nil (w0 := w0) (T := TP) (hcU _)).trans h3
        have HCV := Lib.hid hcV
        clear h1 h2 h3 hcU hcV hmf
        go_wp2_with fail
        go_ret
        rw [HW.out, HSN.out]
        exact ⟨rfl, HV.out.1, HV.out.2.1, HCV.out⟩
end Go.Proofs.Ytipijkpjmpejlaa
