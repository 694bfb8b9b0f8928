import Derived.Test.YtipijkpjmpejlaaPgU
import Derived.Test.YtipijkpjmpejlaaOpen
import Derived.Deep.DeepCutAuto
/- The acts that the laws of pages are given, whether they are too many; equal records, equal images. -/
set_option linter.unusedVariables false
set_option linter.unusedSimpArgs false
namespace Go.Proofs.Ytipijkpjmpejlaa
open Go.RowKit
theorem cellsAct7 : Try.prog.cellsOf 94 = 3 := by kernel_rfl
theorem cellsInt7 : Try.prog.cellsOf 3 = 1 := by kernel_rfl
theorem cellsBs7 : Try.prog.cellsOf 49 = 1 := by kernel_rfl
theorem cellsU87 : Try.prog.cellsOf 5 = 1 := by kernel_rfl
theorem list37 {α : Type} {l : List α} (h : l.length = 3) : ∃ a0 a1 a2, l = [a0, a1, a2] := by
  match l, h with
  | [a0, a1, a2], _ => exact ⟨_, _, _, rfl⟩
def Acts7 (w : World) (A : Option Addr) (acts : List Act') : Prop :=
  ∀ i x, acts[i]? = some x → ∃ g o Ab cb, A = some ⟨g, o, none⟩ ∧ g < w.heap.size ∧ w.rangeAt g (o + i * 3) [.int .i64 x.kind, .int .i64 x.n, .slice Ab x.b.length cb] ∧ BytesAt w Ab x.b ∧ x.b.length ≤ 9223372036854775807 ∧ Bytes x.b ∧ (Ab = none → x.b = [] ∧ cb = 0)
theorem wf8 {v : Int} (h : (Lit.int .u8 v).wf = true) : 0 ≤ v ∧ v < 256 := by
  simp [Lit.wf, IntKind.min, IntKind.max, IntKind.signed, IntKind.bits] at h
  omega
theorem bytes_of7 {H : Type} {enc : TypeId × Value → H} {w : World} {base : Nat} {sp : Nat → Bool} {held : Bool} {fuel : Nat} {cs : List Value} {x : DataW H × List MemPlace} (h : DataW.trod enc Try.prog w base sp held fuel 49 cs = some x) :
    ∃ A bs c, cs = [.slice A bs.length c] ∧ bs.length ≤ 9223372036854775807 ∧ BytesAt w A bs ∧ Bytes bs ∧ (A = none → bs = [] ∧ c = 0) := by
  obtain ⟨A, len, cap, n, rfl, hlc, hcm, hnn, hA, hel⟩ := trod_slice' Try.underlying49 (by rw [cellsU87]; omega) h
  unfold maxLen at hcm
  have hb : ∀ i, i < len → ∃ v : Int, (0 ≤ v ∧ v < 256) ∧ ∃ B o, A = some ⟨B, o, none⟩ ∧ w.cell? ⟨B, o + i, none⟩ = some (.int .u8 v) := by
    intro i hi
    obtain ⟨B, o, es, y, hA, hl, hr, ht⟩ := hel i hi
    obtain ⟨v, rfl, hv⟩ := trod_int Try.underlying5 ht
    rw [cellsU87, Nat.mul_one] at hr
    exact ⟨v, wf8 hv, B, o, hA, hr 0 _ rfl⟩
  let f : Nat → Int := fun i => if h : i < len then (hb i h).choose else 0
  have hf : ∀ i, i < len → (0 ≤ f i ∧ f i < 256) ∧ ∃ B o, A = some ⟨B, o, none⟩ ∧ w.cell? ⟨B, o + i, none⟩ = some (.int .u8 (f i)) := by
    intro i hi
    have := (hb i hi).choose_spec
    simpa [f, hi] using this
  refine ⟨A, (List.range len).map f, cap, by simp, by simp; omega, fun hp => ?_, fun x hx => ?_, fun e => ?_⟩
  · simp at hp
    obtain ⟨_, B, o, rfl, h0⟩ := hf 0 hp
    refine ⟨_, rfl, World.block_lt_of_cell? w _ h0, fun j v hv => ?_⟩
    have hj : j < len := by
      have := (List.getElem?_eq_some_iff.1 hv).1
      simpa [u8s] using this
    obtain ⟨_, B', o', e, hc⟩ := hf j hj
    cases e
    rw [Addr.add_mid, hc]
    simp [u8s, hj] at hv
    rw [← hv]
  · obtain ⟨i, hi, rfl⟩ := List.mem_map.1 hx
    exact (hf i (by simpa using hi)).1
  · obtain ⟨h1, h2⟩ := hA e
    subst h1
    exact ⟨rfl, h2⟩
theorem acts_of7 {H : Type} {enc : TypeId × Value → H} {w : World} {base : Nat} {sp : Nat → Bool} {held : Bool} {A : Option Addr} {n c : Nat} {d : DataW H} {p : List MemPlace} (h : DataW.Trod enc Try.prog w base sp held 89 (.slice A n c) d p) :
    ∃ acts : List Act', acts.length = n ∧ n ≤ 9223372036854775807 ∧ Acts7 w A acts := by
  obtain ⟨fuel, hf⟩ := h
  obtain ⟨A', n', c', m, hcs, hnc, hcm, _, hA, hel⟩ := trod_slice' Try.underlying89 (by rw [cellsAct7]; omega) hf
  simp [Value.cells] at hcs
  obtain ⟨rfl, rfl, rfl⟩ := hcs
  unfold maxLen at hcm
  have hb : ∀ i, i < n → ∃ x : Act', ∃ g o Ab cb, A = some ⟨g, o, none⟩ ∧ g < w.heap.size ∧ w.rangeAt g (o + i * 3) [.int .i64 x.kind, .int .i64 x.n, .slice Ab x.b.length cb] ∧ BytesAt w Ab x.b ∧ x.b.length ≤ 9223372036854775807 ∧ Bytes x.b ∧ (Ab = none → x.b = [] ∧ cb = 0) := by
    intro i hi
    obtain ⟨B, o, es, y, hA, hl, hr, ht⟩ := hel i hi
    rw [cellsAct7] at hl hr
    obtain ⟨a0, a1, a2, rfl⟩ := list37 hl
    cases m with
    | zero => simp [DataW.trod] at ht
    | succ m =>
      obtain ⟨_, hfs⟩ := trod_struct Try.underlying94 ht
      simp only [List.forall_mem_cons] at hfs
      obtain ⟨⟨y0, e0⟩, ⟨y1, e1⟩, ⟨y2, e2⟩, _⟩ := hfs
      obtain ⟨k0, f0, _⟩ := trod_int Try.underlying3 e0
      obtain ⟨k1, f1, _⟩ := trod_int Try.underlying3 e1
      obtain ⟨Ab, bs, cb, f2, hbl, hbs, hbb, hbn⟩ := bytes_of7 e2
      simp [cellsInt7, cellsBs7] at f0 f1 f2
      subst f0 f1 f2
      exact ⟨⟨k0, k1, bs⟩, B, o, Ab, cb, hA, World.block_lt_of_cell? w _ (hr 0 _ rfl), hr, hbs, hbl, hbb, hbn⟩
  let f : Nat → Act' := fun i => if h : i < n then (hb i h).choose else ⟨0, 0, []⟩
  refine ⟨(List.range n).map f, by simp, by omega, fun i x hx => ?_⟩
  have hi : i < n := by
    have := (List.getElem?_eq_some_iff.1 hx).1
    simpa using this
  simp [hi] at hx
  have := (hb i hi).choose_spec
  have e : f i = (hb i hi).choose := by simp [f, hi]
  rw [← e, hx] at this
  exact this
def Great7 (acts : List Act') (w : World) (e : Ending) (w' : World) : Prop := ∃ b : Bool, e = .returned (.bool b) ∧ (b = false → acts.length ≤ 60 ∧ ∀ x ∈ acts, x.b.length ≤ 60000) ∧ w = w'
set_option maxHeartbeats 2000000 in
theorem great7_any (A : Option Addr) (acts : List Act') (c : Nat) (w : World) (hA : Acts7 w A acts) (hm : acts.length ≤ 9223372036854775807) : Calls Try.prog 55 #[.slice A acts.length c] w (Great7 acts w) := by
  have HA := Lib.hid hA
  clear hA
  go_enter Try.func55, Try.ntmps55
  go_wp2
  go_loop [3, 7] (fun s i => ∃ (k : Nat) (nn : Int), k ≤ acts.length ∧ i = .int .i64 k ∧ s = .int .i64 nn ∧ 0 ≤ nn ∧ nn ≤ 60000 ∧ k ≤ 60 ∧ Hid (∀ x ∈ acts.take k, x.b.length ≤ 60000)) (fun _ i => acts.length - (intOf i).toNat)
  case atStart => exact ⟨0, 0, Nat.zero_le _, rfl, rfl, by omega, by omega, by omega, Lib.hid (by simp)⟩
  case round =>
    obtain ⟨k, nn, hk, rfl, rfl, hn0, hn1, hk2, HK⟩ := hrel
    by_cases hlt : k < acts.length
    · obtain ⟨x, hx⟩ : ∃ x, acts[k]? = some x := ⟨acts[k], List.getElem?_eq_getElem hlt⟩
      obtain ⟨g, o, Ab, cb, rfl, _, hr, _, hbl, _⟩ := HA.out k x hx
      have m2 := hr 2 _ rfl
      have HX := Lib.hid hx
      clear hr hx
      by_cases h2 : 60 ≤ k
      · have g2 : decide (60 ≤ (k : Int)) = true := by simp; omega
        go_wp2
        go_ret
        exact ⟨true, rfl, (fun h => by cases h), rfl⟩
      · have g2 : decide (60 ≤ (k : Int)) = false := by simp; omega
        by_cases h3 : 60000 - nn < x.b.length
        · have g3 : decide (60000 - nn < (x.b.length : Int)) = true := by simpa using h3
          go_wp2
          go_ret
          exact ⟨true, rfl, (fun h => by cases h), rfl⟩
        · have g3 : decide (60000 - nn < (x.b.length : Int)) = false := by simpa using h3
          go_wp2
          go_round
          case rel =>
            refine ⟨k + 1, nn + x.b.length, by omega, by go_num, rfl, by omega, by omega, by omega, Lib.hid (fun y hy => ?_)⟩
            rw [List.take_succ_eq_append_getElem hlt] at hy
            rcases List.mem_append.1 hy with h | h
            · exact HK.out y h
            · simp at h
              have := HX.out
              rw [List.getElem?_eq_getElem hlt] at this
              cases this
              subst h
              omega
          case measure => simp [intOf]; omega
    · obtain rfl : k = acts.length := by omega
      go_wp2
      go_ret
      exact ⟨false, rfl, fun _ => ⟨by omega, by have := HK.out; rwa [List.take_length] at this⟩, rfl⟩
/-! ### Equal records, equal images -/
set_option maxRecDepth 100000 in
theorem conv_row {W : World} {base n : Nat} {A : Option Addr} {c : Nat} {bs : List Int} (h : RowB W base (.slice A n c) bs) : (convert 49 9 (.slice A n c)).run Try.prog W = .ok (.string (strOfNums bs)) W := by
  rcases h.2 with ⟨he, hz⟩ | ⟨g, c', cur, he, hb, hg, h1, h2, h3, h4⟩
  · injection he with e1 e2 e3
    subst e1 e2 e3
    obtain rfl := List.length_eq_zero_iff.1 hz
    exact run_convert_bytes_nil W 49 5 Try.underlying49 Try.underlying5 0 0 9 Try.underlying9
  · injection he with e1 e2 e3
    subst e1 e2 e3
    exact conv_str W g _ bs (fun j u hu => by have := World.ownsRow.cells (g := g) h rfl j u hu; rwa [Addr.add_mid, Nat.zero_add] at this)
set_option maxHeartbeats 4000000 in
set_option maxRecDepth 100000 in
theorem records_eq (w : World) (b1 b2 : Nat) (va vb : Value) (rs : List (List Int)) (ha : RecsA w b1 va rs) (hb : RecsA w b2 vb rs) (hl : rs.length ≤ 100000) : Calls Try.prog 62 #[va, vb] w fun e w' => e = .returned (.bool true) ∧ Chg [] w w' := by
  obtain ⟨A1, c1, rfl⟩ := ha.slice
  obtain ⟨A2, c2, rfl⟩ := hb.slice
  have H := Lib.hid (And.intro ha hb)
  have e0 : ((rs.length : Int) != rs.length) = false := by simp
  clear ha hb
  go_enter Try.func62, Try.ntmps62
  go_wp2_with fail
  go_loopw [13] (fun iv wr => ∃ i : Nat, i ≤ rs.length ∧ iv = .int .i64 i ∧ Hid (Chg [] w wr)) (fun iv _ => rs.length - (intOf iv).toNat)
  case atStart => exact ⟨0, Nat.zero_le _, rfl, Lib.hid (Chg.refl _ _)⟩
  case round =>
    obtain ⟨i, hi, rfl, HI⟩ := hrel
    by_cases hlt : i < rs.length
    · obtain ⟨g1, h1, hA1, hc1, hr1⟩ := (H.out.1.kept0 HI.out).at hlt
      obtain ⟨g2, h2, hA2, hc2, hr2⟩ := (H.out.2.kept0 HI.out).at hlt
      subst hA1 hA2
      obtain ⟨B1, d1, rfl⟩ := hr1.slice
      obtain ⟨B2, d2, rfl⟩ := hr2.slice
      have k1 := conv_row (hr1.kept (Chg.refl [] wr).drew (by simp))
      have k2 := conv_row (hr2.kept (Chg.refl [] wr).drew (by simp))
      obtain ⟨rb, hrb⟩ : ∃ rb, rb = rs.getD i [] := ⟨_, rfl⟩
      rw [← hrb] at hc1 hc2 k1 k2
      have hSd : wr.drew.cell? ⟨g1, i, none⟩ = some (.slice B1 rb.length d1) ∧ wr.drew.cell? ⟨g2, i, none⟩ = some (.slice B2 rb.length d2) ∧ (convert 49 9 (.slice B1 rb.length d1)).run Try.prog wr.drew = .ok (.string (strOfNums rb)) wr.drew ∧ (convert 49 9 (.slice B2 rb.length d2)).run Try.prog wr.drew = .ok (.string (strOfNums rb)) wr.drew := ⟨hc1, hc2, k1, k2⟩
      have HSD := Lib.hid hSd
      clear hc1 hc2 k1 k2 hr1 hr2 hrb hSd
      go_wp2_with fail
      refine wp_region_M (fun W => W.cell? ⟨g1, i, none⟩ = some (.slice B1 rb.length d1) ∧ W.cell? ⟨g2, i, none⟩ = some (.slice B2 rb.length d2) ∧ (convert 49 9 (.slice B1 rb.length d1)).run Try.prog W = .ok (.string (strOfNums rb)) W ∧ (convert 49 9 (.slice B2 rb.length d2)).run Try.prog W = .ok (.string (strOfNums rb)) W) (fun _ => false) (fun _ => false) (by kernel_rfl) ?_
      have hSd := HSD.out
      ((try dsimp only); (try simp only [Act.put, List.setIfInBounds_toArray, List.set_cons_zero, List.set_cons_succ]))
      refine M_pure (i := 0) (v := ?_) rfl (by kernel_rfl) (by kernel_rfl) (by kernel_rfl) (fun _ _ _ h => h) (by rfl) ?hy ?_; (case hy => (intro w; go_simp; with_reducible rfl)); ((try dsimp only); (try simp only [Act.put, List.setIfInBounds_toArray, List.set_cons_zero, List.set_cons_succ]))
      refine M_pure (i := 1) (v := ?_) rfl (by kernel_rfl) (by kernel_rfl) (by kernel_rfl) (fun _ _ _ h => h) (by rfl) ?hy ?_; (case hy => (intro w; go_simp; with_reducible rfl)); ((try dsimp only); (try simp only [Act.put, List.setIfInBounds_toArray, List.set_cons_zero, List.set_cons_succ]))
      refine M_pure (i := 2) (v := ?_) rfl (by kernel_rfl) (by kernel_rfl) (by kernel_rfl) (fun _ _ _ h => h) (by rfl) ?hy ?_; (case hy => (intro w; go_simp; with_reducible rfl)); ((try dsimp only); (try simp only [Act.put, List.setIfInBounds_toArray, List.set_cons_zero, List.set_cons_succ]))
      refine M_semi (i := 3) (v := ?_) rfl (by kernel_rfl) (by kernel_rfl) (by kernel_rfl) (by kernel_rfl) (fun _ _ _ h => h) (by rfl) hSd ?hy ?_; (case hy => (intro w hS; go_simp; with_reducible rfl)); ((try dsimp only); (try simp only [Act.put, List.setIfInBounds_toArray, List.set_cons_zero, List.set_cons_succ]))
      refine M_semi (i := 4) (v := ?_) rfl (by kernel_rfl) (by kernel_rfl) (by kernel_rfl) (by kernel_rfl) (fun _ _ _ h => h) (by rfl) hSd ?hy ?_; (case hy => (intro w hS; go_simp; with_reducible rfl)); ((try dsimp only); (try simp only [Act.put, List.setIfInBounds_toArray, List.set_cons_zero, List.set_cons_succ]))
      refine M_pure (i := 5) (v := ?_) rfl (by kernel_rfl) (by kernel_rfl) (by kernel_rfl) (fun _ _ _ h => h) (by rfl) ?hy ?_; (case hy => (intro w; go_simp; with_reducible rfl)); ((try dsimp only); (try simp only [Act.put, List.setIfInBounds_toArray, List.set_cons_zero, List.set_cons_succ]))
      refine M_pure (i := 6) (v := ?_) rfl (by kernel_rfl) (by kernel_rfl) (by kernel_rfl) (fun _ _ _ h => h) (by rfl) ?hy ?_; (case hy => (intro w; go_simp; with_reducible rfl)); ((try dsimp only); (try simp only [Act.put, List.setIfInBounds_toArray, List.set_cons_zero, List.set_cons_succ]))
      refine M_pure (i := 7) (v := ?_) rfl (by kernel_rfl) (by kernel_rfl) (by kernel_rfl) (fun _ _ _ h => h) (by rfl) ?hy ?_; (case hy => (intro w; go_simp; with_reducible rfl)); ((try dsimp only); (try simp only [Act.put, List.setIfInBounds_toArray, List.set_cons_zero, List.set_cons_succ]))
      refine M_semi (i := 8) (v := ?_) rfl (by kernel_rfl) (by kernel_rfl) (by kernel_rfl) (by kernel_rfl) (fun _ _ _ h => h) (by rfl) hSd ?hy ?_; (case hy => (intro w hS; go_simp; with_reducible rfl)); ((try dsimp only); (try simp only [Act.put, List.setIfInBounds_toArray, List.set_cons_zero, List.set_cons_succ]))
      refine M_semi (i := 9) (v := ?_) rfl (by kernel_rfl) (by kernel_rfl) (by kernel_rfl) (by kernel_rfl) (fun _ _ _ h => h) (by rfl) hSd ?hy ?_; (case hy => (intro w hS; go_simp; with_reducible rfl)); ((try dsimp only); (try simp only [Act.put, List.setIfInBounds_toArray, List.set_cons_zero, List.set_cons_succ]))
      refine M_pure (i := 10) (v := ?_) rfl (by kernel_rfl) (by kernel_rfl) (by kernel_rfl) (fun _ _ _ h => h) (by rfl) ?hy ?_; (case hy => (intro w; go_simp; with_reducible rfl)); ((try dsimp only); (try simp only [Act.put, List.setIfInBounds_toArray, List.set_cons_zero, List.set_cons_succ]))
      refine M_done (by kernel_rfl) ?_ _
      clear hSd
      go_wp2_with fail
      go_roundw
      case rel => exact ⟨i + 1, by omega, by go_num, Lib.hid HI.out.drew⟩
      case measure => simp [intOf]; omega
    · obtain rfl : i = rs.length := by omega
      go_wp2_with fail
      go_ret
      exact ⟨rfl, HI.out⟩
set_option maxHeartbeats 4000000 in
set_option maxRecDepth 100000 in
theorem same_eq (w : World) (b1 b2 : Nat) (g h b : Int) (va vb : Value) (rs : List (List Int)) (ha : RecsA w b1 va rs) (hb : RecsA w b2 vb rs) (hl : rs.length ≤ 100000) :
    Calls Try.prog 63 #[.agg #[.int .i64 g, .int .i64 h, .int .i64 b, va], .agg #[.int .i64 g, .int .i64 h, .int .i64 b, vb]] w fun e w' => e = .returned (.bool true) ∧ Chg [] w w' := by
  obtain ⟨A1, c1, rfl⟩ := ha.slice
  obtain ⟨A2, c2, rfl⟩ := hb.slice
  obtain ⟨W1, hW1⟩ : ∃ W1, W1 = (w.alloc (.cells #[.int .i64 g, .int .i64 h, .int .i64 b, .slice A1 rs.length c1] 98)).alloc (.cells #[.int .i64 g, .int .i64 h, .int .i64 b, .slice A2 rs.length c2] 98) := ⟨_, rfl⟩
  have hb1 : W1.heap[w.heap.size]? = some (.cells #[.int .i64 g, .int .i64 h, .int .i64 b, .slice A1 rs.length c1] 98 (0, 0)) := by rw [hW1]; exact heap_old (heap_new w _ rfl) _
  have hb2 : W1.heap[w.heap.size + 1]? = some (.cells #[.int .i64 g, .int .i64 h, .int .i64 b, .slice A2 rs.length c2] 98 (0, 0)) := by rw [hW1]; exact heap_new _ _ (by simp)
  have hcw : Chg [] w W1 := by rw [hW1]; exact (by with_reducible repeat (first | exact Chg.refl _ _ | apply Chg.alloc | apply Chg.drew | apply Chg.drewN | (refine Chg.setCell ?_ _ _ (by simp))))
  have H := Lib.hid (And.intro (ha.kept0 hcw) (And.intro (hb.kept0 hcw) (And.intro hb1 (And.intro hb2 (And.intro hcw hW1)))))
  clear ha hb hb1 hb2 hcw hW1
  have e0 : ((rs.length : Int) != rs.length) = false := by simp
  go_enter Try.func63, Try.ntmps63
  go_upto_region 1 with (fail)
  refine wp_world (fun W => W1 = W) H.out.2.2.2.2.2 ?_
  rintro _ rfl
  obtain ⟨i0, i1, i2, i3, _⟩ := cell4 H.out.2.2.1
  obtain ⟨j0, j1, j2, j3, _⟩ := cell4 H.out.2.2.2.1
  ((try dsimp only); (try simp only [Act.put, List.setIfInBounds_toArray, List.set_cons_zero, List.set_cons_succ]))
  go_wp2_with fail
  clear i0 i1 i2 i3 j0 j1 j2 j3
  go_loopw [5] (fun iv wr => ∃ i : Nat, i ≤ rs.length ∧ iv = .int .i64 i ∧ Hid (Chg [] W1 wr)) (fun iv _ => rs.length - (intOf iv).toNat)
  case atStart => exact ⟨0, Nat.zero_le _, rfl, Lib.hid (Chg.refl _ _)⟩
  case round =>
    obtain ⟨i, hi, rfl, HI⟩ := hrel
    obtain ⟨_, _, _, i3, _⟩ := cell4 (HI.out.at H.out.2.2.1 (by simp))
    obtain ⟨_, _, _, j3, _⟩ := cell4 (HI.out.at H.out.2.2.2.1 (by simp))
    by_cases hlt : i < rs.length
    · obtain ⟨g1, h1, hA1, hc1, hr1⟩ := (H.out.1.kept0 HI.out).at hlt
      obtain ⟨g2, h2, hA2, hc2, hr2⟩ := (H.out.2.1.kept0 HI.out).at hlt
      subst hA1 hA2
      obtain ⟨B1, d1, rfl⟩ := hr1.slice
      obtain ⟨B2, d2, rfl⟩ := hr2.slice
      have k1 := conv_row (hr1.kept (Chg.refl [] wr).drew (by simp))
      have k2 := conv_row (hr2.kept (Chg.refl [] wr).drew (by simp))
      obtain ⟨rb, hrb⟩ : ∃ rb, rb = rs.getD i [] := ⟨_, rfl⟩
      rw [← hrb] at hc1 hc2 k1 k2
      have hSd : (wr.drew.cell? ⟨w.heap.size, 3, none⟩ = some (.slice (some ⟨g1, 0, none⟩) rs.length c1) ∧ wr.drew.cell? ⟨w.heap.size + 1, 3, none⟩ = some (.slice (some ⟨g2, 0, none⟩) rs.length c2)) ∧ wr.drew.cell? ⟨g1, i, none⟩ = some (.slice B1 rb.length d1) ∧ wr.drew.cell? ⟨g2, i, none⟩ = some (.slice B2 rb.length d2) ∧ (convert 49 9 (.slice B1 rb.length d1)).run Try.prog wr.drew = .ok (.string (strOfNums rb)) wr.drew ∧ (convert 49 9 (.slice B2 rb.length d2)).run Try.prog wr.drew = .ok (.string (strOfNums rb)) wr.drew := ⟨⟨i3, j3⟩, hc1, hc2, k1, k2⟩
      have HSD := Lib.hid hSd
      clear hc1 hc2 k1 k2 hr1 hr2 hrb hSd
      go_wp2_with fail
      refine wp_region_M (fun W => (W.cell? ⟨w.heap.size, 3, none⟩ = some (.slice (some ⟨g1, 0, none⟩) rs.length c1) ∧ W.cell? ⟨w.heap.size + 1, 3, none⟩ = some (.slice (some ⟨g2, 0, none⟩) rs.length c2)) ∧ W.cell? ⟨g1, i, none⟩ = some (.slice B1 rb.length d1) ∧ W.cell? ⟨g2, i, none⟩ = some (.slice B2 rb.length d2) ∧ (convert 49 9 (.slice B1 rb.length d1)).run Try.prog W = .ok (.string (strOfNums rb)) W ∧ (convert 49 9 (.slice B2 rb.length d2)).run Try.prog W = .ok (.string (strOfNums rb)) W) (fun _ => false) (fun _ => false) (by kernel_rfl) ?_
      have hSd := HSD.out
      ((try dsimp only); (try simp only [Act.put, List.setIfInBounds_toArray, List.set_cons_zero, List.set_cons_succ]))
      refine M_pure (i := 0) (v := ?_) rfl (by kernel_rfl) (by kernel_rfl) (by kernel_rfl) (fun _ _ _ h => h) (by rfl) ?hy ?_; (case hy => (intro w; go_simp; with_reducible rfl)); ((try dsimp only); (try simp only [Act.put, List.setIfInBounds_toArray, List.set_cons_zero, List.set_cons_succ]))
      refine M_semi (i := 1) (v := ?_) rfl (by kernel_rfl) (by kernel_rfl) (by kernel_rfl) (by kernel_rfl) (fun _ _ _ h => h) (by rfl) hSd ?hy ?_; (case hy => (intro w hS; go_simp; with_reducible rfl)); ((try dsimp only); (try simp only [Act.put, List.setIfInBounds_toArray, List.set_cons_zero, List.set_cons_succ]))
      refine M_pure (i := 2) (v := ?_) rfl (by kernel_rfl) (by kernel_rfl) (by kernel_rfl) (fun _ _ _ h => h) (by rfl) ?hy ?_; (case hy => (intro w; go_simp; with_reducible rfl)); ((try dsimp only); (try simp only [Act.put, List.setIfInBounds_toArray, List.set_cons_zero, List.set_cons_succ]))
      refine M_pure (i := 3) (v := ?_) rfl (by kernel_rfl) (by kernel_rfl) (by kernel_rfl) (fun _ _ _ h => h) (by rfl) ?hy ?_; (case hy => (intro w; go_simp; with_reducible rfl)); ((try dsimp only); (try simp only [Act.put, List.setIfInBounds_toArray, List.set_cons_zero, List.set_cons_succ]))
      refine M_semi (i := 4) (v := ?_) rfl (by kernel_rfl) (by kernel_rfl) (by kernel_rfl) (by kernel_rfl) (fun _ _ _ h => h) (by rfl) hSd ?hy ?_; (case hy => (intro w hS; go_simp; with_reducible rfl)); ((try dsimp only); (try simp only [Act.put, List.setIfInBounds_toArray, List.set_cons_zero, List.set_cons_succ]))
      refine M_semi (i := 5) (v := ?_) rfl (by kernel_rfl) (by kernel_rfl) (by kernel_rfl) (by kernel_rfl) (fun _ _ _ h => h) (by rfl) hSd ?hy ?_; (case hy => (intro w hS; go_simp; with_reducible rfl)); ((try dsimp only); (try simp only [Act.put, List.setIfInBounds_toArray, List.set_cons_zero, List.set_cons_succ]))
      refine M_pure (i := 6) (v := ?_) rfl (by kernel_rfl) (by kernel_rfl) (by kernel_rfl) (fun _ _ _ h => h) (by rfl) ?hy ?_; (case hy => (intro w; go_simp; with_reducible rfl)); ((try dsimp only); (try simp only [Act.put, List.setIfInBounds_toArray, List.set_cons_zero, List.set_cons_succ]))
      refine M_semi (i := 7) (v := ?_) rfl (by kernel_rfl) (by kernel_rfl) (by kernel_rfl) (by kernel_rfl) (fun _ _ _ h => h) (by rfl) hSd ?hy ?_; (case hy => (intro w hS; go_simp; with_reducible rfl)); ((try dsimp only); (try simp only [Act.put, List.setIfInBounds_toArray, List.set_cons_zero, List.set_cons_succ]))
      refine M_pure (i := 8) (v := ?_) rfl (by kernel_rfl) (by kernel_rfl) (by kernel_rfl) (fun _ _ _ h => h) (by rfl) ?hy ?_; (case hy => (intro w; go_simp; with_reducible rfl)); ((try dsimp only); (try simp only [Act.put, List.setIfInBounds_toArray, List.set_cons_zero, List.set_cons_succ]))
      refine M_pure (i := 9) (v := ?_) rfl (by kernel_rfl) (by kernel_rfl) (by kernel_rfl) (fun _ _ _ h => h) (by rfl) ?hy ?_; (case hy => (intro w; go_simp; with_reducible rfl)); ((try dsimp only); (try simp only [Act.put, List.setIfInBounds_toArray, List.set_cons_zero, List.set_cons_succ]))
      refine M_semi (i := 10) (v := ?_) rfl (by kernel_rfl) (by kernel_rfl) (by kernel_rfl) (by kernel_rfl) (fun _ _ _ h => h) (by rfl) hSd ?hy ?_; (case hy => (intro w hS; go_simp; with_reducible rfl)); ((try dsimp only); (try simp only [Act.put, List.setIfInBounds_toArray, List.set_cons_zero, List.set_cons_succ]))
      refine M_semi (i := 11) (v := ?_) rfl (by kernel_rfl) (by kernel_rfl) (by kernel_rfl) (by kernel_rfl) (fun _ _ _ h => h) (by rfl) hSd ?hy ?_; (case hy => (intro w hS; go_simp; with_reducible rfl)); ((try dsimp only); (try simp only [Act.put, List.setIfInBounds_toArray, List.set_cons_zero, List.set_cons_succ]))
      refine M_pure (i := 12) (v := ?_) rfl (by kernel_rfl) (by kernel_rfl) (by kernel_rfl) (fun _ _ _ h => h) (by rfl) ?hy ?_; (case hy => (intro w; go_simp; with_reducible rfl)); ((try dsimp only); (try simp only [Act.put, List.setIfInBounds_toArray, List.set_cons_zero, List.set_cons_succ]))
      refine M_done (by kernel_rfl) ?_ _
      clear hSd
      go_wp2_with fail
      go_roundw
      case rel => exact ⟨i + 1, by omega, by go_num, Lib.hid HI.out.drew⟩
      case measure => simp [intOf]; omega
    · obtain rfl : i = rs.length := by omega
      go_wp2_with fail
      go_ret
      exact ⟨rfl, H.out.2.2.2.2.1.trans HI.out⟩
end Go.Proofs.Ytipijkpjmpejlaa
