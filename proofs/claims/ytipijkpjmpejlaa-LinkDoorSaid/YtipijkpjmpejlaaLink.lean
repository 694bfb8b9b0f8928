/- The contracts of the link package's door and of its fellow in the reference: what each call answers and leaves, for every input that they name. -/
import Derived.Test.YtipijkpjmpejlaaProg
import Derived.Test.YtipijkpjmpejlaaBase
namespace Go.Proofs.Ytipijkpjmpejlaa
open Go.RowKit
theorem zero3 (w : World) : (zeroValue 3).run Try.prog w = .ok (.int .i64 0) w := by kernel_rfl

theorem szM : (Try.prog.info? 39).map (·.size) = some 16 := by kernel_rfl
theorem boots_yes (n : Int) (w : World) (h1 : 1 ≤ n) (h2 : n ≤ 1125899906842624) : Calls Try.prog 74 #[.int .i64 n] w fun e w' => e = .returned (.bool true) ∧ w = w' := by
  go_enter Try.func74, Try.ntmps74
  go_wp2
  go_ret
  exact ⟨by simp [h2], rfl⟩
theorem boots_no (n : Int) (w : World) (h : n < 1 ∨ 1125899906842624 < n) : Calls Try.prog 74 #[.int .i64 n] w fun e w' => e = .returned (.bool false) ∧ w = w' := by
  by_cases h1 : 1 ≤ n
  · have h2 : ¬ n ≤ 1125899906842624 := by omega
    have h3 : decide (n ≤ 1125899906842624) = false := by simp [h2]
    go_enter Try.func74, Try.ntmps74
    go_wp2
    go_ret
    exact ⟨rfl, rfl⟩
  · have h2 : ¬ n ≥ 1 := by omega
    go_enter Try.func74, Try.ntmps74
    go_wp2
    go_ret
    exact ⟨rfl, rfl⟩
theorem raise_up (p : Addr) (x y : Int) (w : World) (c : w.cell? p = some (.int .i64 x)) (f : w.frozen? p = false) (h : ¬ y ≤ x) :
    Calls Try.prog 75 #[.pointer (some p), .int .i64 y] w fun e w' => e = .returned (.bool true) ∧ w' = w.setCell p (.int .i64 y) := by
  go_enter Try.func75, Try.ntmps75
  go_wp2
  go_ret
  exact ⟨rfl, rfl⟩
theorem raise_no (p : Addr) (x y : Int) (w : World) (c : w.cell? p = some (.int .i64 x)) (h : y ≤ x) :
    Calls Try.prog 75 #[.pointer (some p), .int .i64 y] w fun e w' => e = .returned (.bool false) ∧ w = w' := by
  go_enter Try.func75, Try.ntmps75
  go_wp2
  go_ret
  exact ⟨rfl, rfl⟩

/-- One call, both ways: the greater one is kept. -/
theorem raise_any (p : Addr) (x y : Int) (w : World) (c : w.cell? p = some (.int .i64 x)) (f : w.frozen? p = false) (h : x ≤ y) :
    Calls Try.prog 75 #[.pointer (some p), .int .i64 y] w fun e w' => (∃ r, e = .returned (.bool r)) ∧ Chg [p.block] w w' ∧ w'.cell? p = some (.int .i64 y) := by
  by_cases hxy : y ≤ x
  · refine (raise_no p x y w c hxy).mono ?_
    rintro e w' ⟨rfl, rfl⟩
    exact ⟨⟨_, rfl⟩, Chg.refl _ _, by rw [c, show x = y from by omega]⟩
  · refine (raise_up p x y w c f hxy).mono ?_
    rintro e w' ⟨rfl, rfl⟩
    exact ⟨⟨_, rfl⟩, (Chg.refl _ _).setCell _ _ (by simp), World.cell?_setCell_same _ _ _ c⟩
/-! ### The door: its boot, and each client's (0: none) -/
structure DoorA (w : World) (d bm : Nat) (boot : Int) (c : Int → Int) : Prop where
  blk : w.heap[d]? = some (.cells #[.int .i64 boot, .map (some bm)] 117 (0, 0))
  map : ∃ m, MapI w bm m ∧ ∀ n, (m n).getD (.int .i64 0) = .int .i64 (c n)
theorem DoorA.kept {w w' : World} {d bm : Nat} {boot : Int} {c : Int → Int} (h : DoorA w d bm boot c) {l : List Nat} (hc : Chg l w w') (h1 : d ∉ l) (h2 : bm ∉ l) : DoorA w' d bm boot c := by
  obtain ⟨hb, m, hm, h⟩ := h
  exact ⟨hc.at hb h1, m, hm.kept hc h2, h⟩
theorem DoorA.c0 {w : World} {d bm : Nat} {boot : Int} {c : Int → Int} (h : DoorA w d bm boot c) : w.cell? ⟨d, 0, none⟩ = some (.int .i64 boot) := by simp [World.cell?, h.blk]
theorem DoorA.c1 {w : World} {d bm : Nat} {boot : Int} {c : Int → Int} (h : DoorA w d bm boot c) : w.cell? ⟨d, 1, none⟩ = some (.map (some bm)) := by simp [World.cell?, h.blk]

theorem newDoor_no (boot : Int) (w : World) (h : boot < 1 ∨ 1125899906842624 < boot) :
    Calls Try.prog 16 #[.int .i64 boot] w fun e w' => e = .returned (.tuple #[.pointer none, .int .i64 2]) ∧ w = w' := by
  go_enter Try.func16, Try.ntmps16
  go_wp2_with (go_at_call 74; refine (boots_no _ _ h).mono ?_; rintro e w' ⟨rfl, rfl⟩)
  go_ret2
  exact ⟨rfl, rfl⟩
theorem newDoor_yes (boot : Int) (w : World) (h1 : 1 ≤ boot) (h2 : boot ≤ 1125899906842624) :
    Calls Try.prog 16 #[.int .i64 boot] w fun e w' => e = .returned (.tuple #[.pointer (some ⟨w.heap.size + 1, 0, none⟩), .int .i64 0]) ∧ DoorA w' (w.heap.size + 1) w.heap.size boot (fun _ => 0) ∧ Chg [] w w' ∧ w'.heap.size = w.heap.size + 2 := by
  have hmm := @run_makeMap Try.prog
  go_enter Try.func16, Try.ntmps16
  go_wp2_with (go_at_call 74; refine (boots_yes _ _ h1 h2).mono ?_; rintro e w' ⟨rfl, rfl⟩)
  go_ret2
  refine ⟨rfl, ⟨?_, fun _ => none, ?_, fun _ => rfl⟩, (by with_reducible repeat (first | exact Chg.refl _ _ | apply Chg.alloc | apply Chg.drew | apply Chg.drewN | (refine Chg.setCell ?_ _ _ (by simp)))), by simp⟩
  · exact heap_new _ _ (by simp)
  · exact (MapI.made w).kept (l := []) ((Chg.refl _ _).alloc _) (by simp)

theorem hello_any (d bm : Nat) (boot : Int) (c : Int → Int) (x : Int) (w : World) (h : DoorA w d bm boot c) :
    Calls Try.prog 20 #[.pointer (some ⟨d, 0, none⟩), .int .i64 x] w fun e w' => e = .returned (.agg #[.int .i8 1, .int .i64 0, .int .i64 x, .int .i64 0, .int .i64 boot, .int .i64 0, .int .i64 0, .int .i64 0, .int .i64 0, .int .i64 0, .int .i64 0, .slice none 0 0, .int .i64 0, .int .i64 0, .string ⟨#[]⟩, .slice none 0 0]) ∧ Chg [] w w' := by
  have c0 := h.c0
  have hd := lt_of_block h.blk
  have hd1 : (d == w.heap.size) = false := by simp; omega
  go_enter Try.func20, Try.ntmps20
  go_wp2
  refine bodyPost_ret (v := .agg #[.int .i8 1, .int .i64 0, .int .i64 x, .int .i64 0, .int .i64 boot, .int .i64 0, .int .i64 0, .int .i64 0, .int .i64 0, .int .i64 0, .int .i64 0, .slice none 0 0, .int .i64 0, .int .i64 0, .string ⟨#[]⟩, .slice none 0 0]) ?_ rfl ⟨rfl, (by with_reducible repeat (first | exact Chg.refl _ _ | apply Chg.alloc | apply Chg.drew | apply Chg.drewN | (refine Chg.setCell ?_ _ _ (by simp))))⟩
  exact results_cell_row rfl _ _ w.heap.size _ _ _ _ rfl (heap_new _ _ (by simp)) Try.underlying39 rfl szM
theorem hello_nil (x : Int) (w : World) :
    Calls Try.prog 20 #[.pointer none, .int .i64 x] w fun e w' => e = .returned (.agg #[.int .i8 0, .int .i64 0, .int .i64 0, .int .i64 0, .int .i64 0, .int .i64 0, .int .i64 0, .int .i64 0, .int .i64 0, .int .i64 0, .int .i64 0, .slice none 0 0, .int .i64 0, .int .i64 0, .string ⟨#[]⟩, .slice none 0 0]) ∧ Chg [] w w' := by
  go_enter Try.func20, Try.ntmps20
  go_wp2
  refine bodyPost_ret (v := .agg #[.int .i8 0, .int .i64 0, .int .i64 0, .int .i64 0, .int .i64 0, .int .i64 0, .int .i64 0, .int .i64 0, .int .i64 0, .int .i64 0, .int .i64 0, .slice none 0 0, .int .i64 0, .int .i64 0, .string ⟨#[]⟩, .slice none 0 0]) ?_ rfl ⟨rfl, (by with_reducible repeat (first | exact Chg.refl _ _ | apply Chg.alloc | apply Chg.drew | apply Chg.drewN | (refine Chg.setCell ?_ _ _ (by simp))))⟩
  exact results_cell_row rfl _ _ w.heap.size _ _ _ _ rfl (heap_new _ _ (by simp)) Try.underlying39 rfl szM
theorem boot_any (d bm : Nat) (boot : Int) (c : Int → Int) (x : Int) (w : World) (h : DoorA w d bm boot c) :
    Calls Try.prog 21 #[.pointer (some ⟨d, 0, none⟩), .int .i64 x] w fun e w' => e = .returned (.int .i64 (c x)) ∧ w = w' := by
  have c1 := h.c1
  obtain ⟨_, m, hm, hv⟩ := h
  have hrun := lookup_run Try.underlying115 Try.underlying3 (zero3 w) hm x false
  rw [hv x] at hrun
  simp only [Bool.false_eq_true, if_false] at hrun
  clear hm hv
  go_enter Try.func21, Try.ntmps21
  go_wp2
  go_ret
  exact ⟨rfl, rfl⟩
theorem boot_nil (x : Int) (w : World) :
    Calls Try.prog 21 #[.pointer none, .int .i64 x] w fun e w' => e = .returned (.int .i64 0) ∧ w = w' := by
  go_enter Try.func21, Try.ntmps21
  go_wp2
  go_ret
  exact ⟨rfl, rfl⟩

theorem take_nil (k fr t b s nu no le ep ve e i1 k1 : Int) (S T X : Value) (w : World) :
    Calls Try.prog 18 #[.pointer none, .agg #[.int .i8 k, .int .i64 fr, .int .i64 t, .int .i64 b, .int .i64 s, .int .i64 nu, .int .i64 no, .int .i64 le, .int .i64 ep, .int .i64 ve, .int .i64 e, S, .int .i64 i1, .int .i64 k1, T, X]] w fun e w' => e = .returned (.tuple #[.bool false, .bool false]) ∧ Chg [] w w' := by
  go_enter Try.func18, Try.ntmps18
  go_wp2
  go_ret2
  exact ⟨rfl, (by with_reducible repeat (first | exact Chg.refl _ _ | apply Chg.alloc | apply Chg.drew | apply Chg.drewN | (refine Chg.setCell ?_ _ _ (by simp))))⟩
theorem take_out (d bm : Nat) (boot : Int) (c : Int → Int) (k fr t b s nu no le ep ve e i1 k1 : Int) (S T X : Value) (w : World) (hD : DoorA w d bm boot c) (h : fr < 1 ∨ 8 < fr ∨ b < 1) :
    Calls Try.prog 18 #[.pointer (some ⟨d, 0, none⟩), .agg #[.int .i8 k, .int .i64 fr, .int .i64 t, .int .i64 b, .int .i64 s, .int .i64 nu, .int .i64 no, .int .i64 le, .int .i64 ep, .int .i64 ve, .int .i64 e, S, .int .i64 i1, .int .i64 k1, T, X]] w fun e w' => e = .returned (.tuple #[.bool false, .bool false]) ∧ Chg [] w w' := by
  have c0 := hD.c0
  have c1 := hD.c1
  go_enter Try.func18, Try.ntmps18
  go_wp2
  all_goals (go_ret2; exact ⟨rfl, (by with_reducible repeat (first | exact Chg.refl _ _ | apply Chg.alloc | apply Chg.drew | apply Chg.drewN | (refine Chg.setCell ?_ _ _ (by simp))))⟩)
/-- What the door's map tells at a key, as long as the door stands. -/
theorem DoorA.looks {w : World} {d bm : Nat} {boot : Int} {c : Int → Int} (h : DoorA w d bm boot c) (n : Int) : bm < w.heap.size ∧ ∀ w' : World, w'.heap[bm]? = w.heap[bm]? → (Instr.lookup 115 (.map (some bm)) (.int .i64 n) false).run Try.prog w' = .ok (.int .i64 (c n)) w' := by
  obtain ⟨_, m, hm, hv⟩ := h
  refine ⟨hm.lt, fun w' hw => ?_⟩
  rw [lookup_run Try.underlying115 Try.underlying3 (zero3 _) (hm.of_block hw)]; simp [hv]
theorem take_old (d bm : Nat) (boot : Int) (c : Int → Int) (k fr t b s nu no le ep ve e i1 k1 : Int) (S T X : Value) (w : World) (hD : DoorA w d bm boot c)
   (h1 : 1 ≤ fr) (h2 : fr ≤ 8) (h3 : 1 ≤ b) (hb : b < c fr) :
    Calls Try.prog 18 #[.pointer (some ⟨d, 0, none⟩), .agg #[.int .i8 k, .int .i64 fr, .int .i64 t, .int .i64 b, .int .i64 s, .int .i64 nu, .int .i64 no, .int .i64 le, .int .i64 ep, .int .i64 ve, .int .i64 e, S, .int .i64 i1, .int .i64 k1, T, X]] w fun e w' => e = .returned (.tuple #[.bool false, .bool false]) ∧ Chg [] w w' := by
  have hb1 : decide (fr < 1) = false := by simp; omega
  have hb2 : decide (8 < fr) = false := by simp; omega
  have hb3 : decide (b < 1) = false := by simp; omega
  have c0 := hD.c0
  have c1 := hD.c1
  have hd := lt_of_block hD.blk
  have hd1 : (d == w.heap.size) = false := by simp; omega
  obtain ⟨hbm, hr⟩ := hD.looks fr
  obtain ⟨last, hl⟩ : ∃ last, last = c fr := ⟨_, rfl⟩
  rw [← hl] at hr hb
  have HR := Lib.hid hr
  clear hr hl hD
  go_enter Try.func18, Try.ntmps18
  go_wp2
  go_region_held3 (fun W => W.cell? ⟨d, 1, none⟩ = some (.map (some bm)) ∧ W.cell? ⟨w.heap.size, 1, none⟩ = some (.int .i64 fr) ∧ (Instr.lookup 115 (.map (some bm)) (.int .i64 fr) false).run Try.prog W = .ok (.int .i64 last) W) (first | exact ⟨by go_simp, by go_simp, HR.out _ (Chg.block (l := []) (by with_reducible repeat (first | exact Chg.refl _ _ | apply Chg.alloc | apply Chg.drew | apply Chg.drewN | (refine Chg.setCell ?_ _ _ (by simp)))) _ hbm (by simp))⟩) (first | fail)
  all_goals
    go_wp2
    go_ret2
    exact ⟨rfl, (by with_reducible repeat (first | exact Chg.refl _ _ | apply Chg.alloc | apply Chg.drew | apply Chg.drewN | (refine Chg.setCell ?_ _ _ (by simp))))⟩
set_option maxHeartbeats 2000000 in
set_option maxRecDepth 100000 in
theorem take_new (d bm : Nat) (boot : Int) (c : Int → Int) (k fr t b s nu no le ep ve e i1 k1 : Int) (S T X : Value) (w : World) (hD : DoorA w d bm boot c)
   (h1 : 1 ≤ fr) (h2 : fr ≤ 8) (h3 : 1 ≤ b) (hb : c fr ≤ b) :
    Calls Try.prog 18 #[.pointer (some ⟨d, 0, none⟩), .agg #[.int .i8 k, .int .i64 fr, .int .i64 t, .int .i64 b, .int .i64 s, .int .i64 nu, .int .i64 no, .int .i64 le, .int .i64 ep, .int .i64 ve, .int .i64 e, S, .int .i64 i1, .int .i64 k1, T, X]] w fun e w' => e = .returned (.tuple #[.bool (s == boot), .bool (s != boot)]) ∧ DoorA w' d bm boot (fun n => if n = fr then b else c n) ∧ Chg [bm] w w' := by
  have hb1 : decide (fr < 1) = false := by simp; omega
  have hb2 : decide (8 < fr) = false := by simp; omega
  have hb3 : decide (b < 1) = false := by simp; omega
  have c0 := hD.c0
  have c1 := hD.c1
  have hd := lt_of_block hD.blk
  have hd1 : (d == w.heap.size) = false := by simp; omega
  obtain ⟨hbm, hr⟩ := hD.looks fr
  obtain ⟨last, hl⟩ : ∃ last, last = c fr := ⟨_, rfl⟩
  rw [← hl] at hr hb
  have HR := Lib.hid hr
  have HD := Lib.hid hD
  clear hr hl hD
  go_enter Try.func18, Try.ntmps18
  go_wp2
  go_region_held3 (fun W => W.cell? ⟨d, 1, none⟩ = some (.map (some bm)) ∧ W.cell? ⟨w.heap.size, 1, none⟩ = some (.int .i64 fr) ∧ (Instr.lookup 115 (.map (some bm)) (.int .i64 fr) false).run Try.prog W = .ok (.int .i64 last) W) (first | exact ⟨by go_simp, by go_simp, HR.out _ (Chg.block (l := []) (by with_reducible repeat (first | exact Chg.refl _ _ | apply Chg.alloc | apply Chg.drew | apply Chg.drewN | (refine Chg.setCell ?_ _ _ (by simp)))) _ hbm (by simp))⟩) (first | fail)
  all_goals
    go_wp2_with fail
    refine (raise_any _ _ _ _ (by go_simp) (by go_simp) hb).mono ?_
    rintro e W ⟨⟨r, rfl⟩, hc1, h0⟩
    have hc : Chg [w.heap.size + 1] w W := Chg.andThen (l := [w.heap.size + 1]) (by with_reducible repeat (first | exact Chg.refl _ _ | apply Chg.alloc | apply Chg.drew | apply Chg.drewN | (refine Chg.setCell ?_ _ _ (by simp)))) hc1 (by simp)
    have hz : w.heap.size + 1 < W.heap.size := Nat.lt_of_lt_of_le (by simp) hc1.size
    have hD2 := HD.out.kept hc (by simp; omega) (by simp; omega)
    have e1 : W.cell? ⟨w.heap.size, 1, none⟩ = some (.int .i64 fr) := hc1.cell (by go_simp) (by simp)
    have e4 : W.cell? ⟨w.heap.size, 4, none⟩ = some (.int .i64 s) := hc1.cell (by go_simp) (by simp)
    clear hc1
    have c0 := hD2.c0
    have c1 := hD2.c1
    obtain ⟨hblk, m, hm, hv⟩ := hD2
    obtain ⟨es, cl, hup, hm'⟩ := update_run (w := W.drew) Try.underlying115 Try.underlying3 (b := bm) (m := m) (hm.of_block rfl) fr (.int .i64 b)
    have hdb : d ≠ bm := fun e => by subst e; obtain ⟨es, cl, h1, _⟩ := hm; rw [h1] at hblk; cases hblk
    have HV := Lib.hid hv
    have HM := Lib.hid hm'
    have HB := Lib.hid hblk
    clear hv hm' hm hblk
    go_wp2
    have hb0 : w.heap.size ≠ bm := by omega
    have hb4 : w.heap.size + 1 ≠ bm := by omega
    go_region_held3 (fun W => W.cell? ⟨d, 1, none⟩ = some (.map (some bm)) ∧ W.cell? ⟨w.heap.size, 1, none⟩ = some (.int .i64 fr) ∧ W.cell? ⟨w.heap.size + 1, 0, none⟩ = some (.int .i64 b)) (first | exact ⟨(cell_putBlk hdb).trans c1, (cell_putBlk hb0).trans e1, (cell_putBlk hb4).trans h0⟩ | (refine ⟨?_, ?_, ?_⟩ <;> go_simp)) (first | fail)
    have cc0 : (putBlk W.drew bm (Obj.map es cl)).cell? ⟨d, 0, none⟩ = some (.int .i64 boot) := (cell_putBlk hdb).trans c0
    have cc4 : (putBlk W.drew bm (Obj.map es cl)).cell? ⟨w.heap.size, 4, none⟩ = some (.int .i64 s) := (cell_putBlk hb0).trans e4
    have hfin : DoorA (putBlk W.drew bm (Obj.map es cl)) d bm boot (fun n => if n = fr then b else c n) := by
      refine ⟨?_, _, HM.out, fun n => ?_⟩
      · rw [← HB.out]; exact (Chg.putBlk W.drew bm _).block d (by have := lt_of_block HB.out; simpa using this) (by simpa using hdb)
      · by_cases hn : n = fr
        · rw [hn, updI_same, if_pos rfl]; rfl
        · rw [updI_other _ _ hn, if_neg hn]; exact HV.out n
    have hchg : Chg [bm] w (putBlk W.drew bm (Obj.map es cl)) := Chg.andThen (l := [bm]) (l' := [bm]) ((hc.mono (l' := [bm]) (by simp)).drew) (Chg.putBlk W.drew bm _) (by simp)
    have HF := Lib.hid (And.intro hfin hchg)
    clear hfin hchg hup
    go_wp2
    go_quiet (fail)
    go_wp2
    go_ret2
    exact ⟨rfl, HF.out.1.kept (l := []) (by with_reducible repeat (first | exact Chg.refl _ _ | apply Chg.alloc | apply Chg.drew | apply Chg.drewN | (refine Chg.setCell ?_ _ _ (by simp)))) (by simp) (by simp), HF.out.2.trans (by with_reducible repeat (first | exact Chg.refl _ _ | apply Chg.alloc | apply Chg.drew | apply Chg.drewN | (refine Chg.setCell ?_ _ _ (by simp))))⟩
/-! ### The document's door -/
structure RDoor (w : World) (r : Nat) (boot : Int) (c : Int → Int) : Prop where
  boot0 : w.cell? ⟨r, 0, none⟩ = some (.int .i64 boot)
  cl : ∀ i : Nat, i < 9 → w.cell? ⟨r, 1 + i, none⟩ = some (.int .i64 (c i)) ∧ w.frozen? ⟨r, 1 + i, none⟩ = false
theorem RDoor.lt {w : World} {r : Nat} {boot : Int} {c : Int → Int} (h : RDoor w r boot c) : r < w.heap.size := World.block_lt_of_cell? w _ h.boot0
theorem RDoor.kept {w w' : World} {r : Nat} {boot : Int} {c : Int → Int} (h : RDoor w r boot c) {l : List Nat} (hc : Chg l w w') (h1 : r ∉ l) : RDoor w' r boot c :=
  ⟨hc.cell h.boot0 h1, fun i hi => ⟨hc.cell (h.cl i hi).1 h1, by rw [World.frozen?_of_block (w := w) (hc.block r h.lt h1)]; exact (h.cl i hi).2⟩⟩
theorem rnewDoor_no (boot : Int) (w : World) (h : boot < 1 ∨ 1125899906842624 < boot) :
    Calls Try.prog 17 #[.int .i64 boot] w fun e w' => e = .returned (.tuple #[.pointer none, .int .i64 2]) ∧ w = w' := by
  by_cases h1 : boot < 1
  · go_enter Try.func17, Try.ntmps17
    go_wp2
    go_ret2
    exact ⟨rfl, rfl⟩
  · have h2 : boot > 1125899906842624 := by omega
    have h3 : decide (1125899906842624 < boot) = true := by simpa using h2
    have h4 : decide (boot < 1) = false := by simpa using h1
    go_enter Try.func17, Try.ntmps17
    go_wp2
    go_ret2
    exact ⟨rfl, rfl⟩
theorem rnewDoor_yes (boot : Int) (w : World) (h1 : 1 ≤ boot) (h2 : boot ≤ 1125899906842624) :
    Calls Try.prog 17 #[.int .i64 boot] w fun e w' => e = .returned (.tuple #[.pointer (some ⟨w.heap.size, 0, none⟩), .int .i64 0]) ∧ RDoor w' w.heap.size boot (fun _ => 0) ∧ Chg [] w w' ∧ w'.heap.size = w.heap.size + 1 := by
  have h3 : decide (boot < 1) = false := by simp; omega
  have h4 : decide (1125899906842624 < boot) = false := by simp; omega
  go_enter Try.func17, Try.ntmps17
  go_wp2
  go_ret2
  refine ⟨rfl, ⟨by go_simp, fun i hi => ?_⟩, (by with_reducible repeat (first | exact Chg.refl _ _ | apply Chg.alloc | apply Chg.drew | apply Chg.drewN | (refine Chg.setCell ?_ _ _ (by simp)))), by simp⟩
  have : i = 0 ∨ i = 1 ∨ i = 2 ∨ i = 3 ∨ i = 4 ∨ i = 5 ∨ i = 6 ∨ i = 7 ∨ i = 8 := by omega
  rcases this with rfl | rfl | rfl | rfl | rfl | rfl | rfl | rfl | rfl <;> exact ⟨by go_simp, by go_simp⟩
theorem rof_any (r : Nat) (boot : Int) (c : Int → Int) (x : Int) (w : World) (h : RDoor w r boot c) (hc : ∀ n, n < 1 ∨ 8 < n → c n = 0) :
    Calls Try.prog 24 #[.pointer (some ⟨r, 0, none⟩), .int .i64 x] w fun e w' => e = .returned (.int .i64 (c x)) ∧ w = w' := by
  by_cases h1 : x < 1
  · rw [hc x (.inl h1)]
    go_enter Try.func24, Try.ntmps24
    go_wp2
    go_ret
    exact ⟨rfl, rfl⟩
  · by_cases h2 : 8 < x
    · rw [hc x (.inr h2)]
      have h3 : decide (8 < x) = true := by simpa using h2
      have h4 : decide (x < 1) = false := by simpa using h1
      go_enter Try.func24, Try.ntmps24
      go_wp2
      go_ret
      exact ⟨rfl, rfl⟩
    · obtain ⟨n, rfl⟩ : ∃ n : Nat, x = n := ⟨x.toNat, by omega⟩
      have h3 : decide (8 < (n : Int)) = false := by simpa using h2
      have h4 : decide ((n : Int) < 1) = false := by simpa using h1
      have hcell := (h.cl n (by omega)).1
      go_enter Try.func24, Try.ntmps24
      go_wp2
      go_ret
      exact ⟨rfl, rfl⟩
end Go.Proofs.Ytipijkpjmpejlaa
