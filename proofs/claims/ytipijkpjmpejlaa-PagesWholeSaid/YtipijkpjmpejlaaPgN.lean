import Derived.Test.YtipijkpjmpejlaaPgM
/- The contract of (*Pages).Image; what an image is like; append of bytes onto nil. -/
set_option linter.unusedVariables false
set_option linter.unusedSimpArgs false
namespace Go.Proofs.Ytipijkpjmpejlaa
open Go.RowKit
/-- Bytes put behind nil: a copy. -/
theorem wpList_append_copy {ops : Array Oper} {rest : List Oper} {o : Oper} {a : Act} {w : World} {Q : Exit → Act → World → Prop} (hgd : o.guard = none) (s x : Operand) (ho : o.op = .call { callee := .builtin .append, args := #[s, x], argTypes := #[49, 49] }) (hs : a.eval s = .slice none 0 0)
    (A : Option Addr) (bs : List Int) (c : Nat) (hx : a.eval x = .slice A bs.length c) (hB : BytesAt w A bs) (hc : A = none → bs = [] ∧ c = 0) (hl : bs.length ≤ 1073741824)
    (h : ∀ v' w', RowB w' w.heap.size v' bs → Chg [] w w' → wpList Try.prog ops Q rest (a.put o.dst v') w') : wpList Try.prog ops Q (o :: rest) a w := by
  obtain ⟨ip, hi, hz0, hz1, hz2⟩ := info_parts infoU8
  cases A with
  | none =>
    obtain ⟨rfl, rfl⟩ := hc rfl
    exact wpList_append_own_none hgd s x 49 ho w.heap.size 5 ip 1 Try.underlying49 hi (.slice none 0 0) 0 [] hs (World.ownsRow_nil _ _ _ _) hx (h _ _ (RowB.nil _ _) (Chg.refl _ _))
  | some ad =>
    have hat : ∀ j u, (u8s bs)[j]? = some u → w.cell? (ad.add j) = some u := by
      rcases Nat.eq_zero_or_pos bs.length with h0 | h0
      · obtain rfl := List.length_eq_zero_iff.1 h0
        intro j u hu; simp [u8s] at hu
      · obtain ⟨ad', e, _, h⟩ := hB h0
        cases e; exact h
    refine wpList_append_own_at _ hgd s x 49 ho w.heap.size 5 ip _ 1 1 Try.underlying49 hi hz0 hz1 hz2 rfl (by omega) (.slice none 0 0) 0 [] hs (World.ownsRow_nil _ _ _ _) ad bs.length c (u8s bs) hx (by simp [u8s]) hat (u8s_one bs) (by unfold maxLen; omega) (by omega) (Nat.le_refl _) ?_
    intro v' X hown hg _ _
    exact h v' X (RowB.mk hown (by simp) (by simp)) (Chg.grown (Chg.refl [] w) hg (by simp [Value.ownBlock]))
theorem RowB.copy {ops : Array Oper} {rest : List Oper} {o : Oper} {a : Act} {w : World} {Q : Exit → Act → World → Prop} {base : Nat} {v : Value} {bs : List Int} (hR : RowB w base v bs) (hgd : o.guard = Option.none) (s x : Operand) (ho : o.op = .call { callee := .builtin .append, args := #[s, x], argTypes := #[49, 49] }) (hs : a.eval s = .slice Option.none 0 0) (hx : a.eval x = v) (hl : bs.length ≤ 1073741824)
    (h : ∀ v' w', RowB w' w.heap.size v' bs → Chg [] w w' → wpList Try.prog ops Q rest (a.put o.dst v') w') : wpList Try.prog ops Q (o :: rest) a w := by
  obtain ⟨A, c, rfl⟩ := hR.slice
  exact wpList_append_copy hgd s x ho hs A bs c hx hR.bytes (fun e => by subst e; exact hR.none) hl h
/-- What holds of each image that is told. -/
structure Img.Fit (x : Img) (used : Nat) : Prop where
  most : used ≤ 1024
  count : x.recs.length ≤ used
  recs : ∀ r ∈ x.recs, r.length ≤ 32768 ∧ Bytes r
  half : 0 ≤ x.half ∧ x.half ≤ 1
theorem recAt_rec {S : Int → List Int} (hS : ∀ k, Bytes (S k)) {g half most last : Int} {k used n : Nat} {boot : Int} {r : List Int} (h : recAt S g half most last k used = some (n, boot, r)) : r.length ≤ 32768 ∧ Bytes r := by
  have hb := loads_bytes hS half used
  unfold recAt at h
  dsimp only at h
  split at h
  · cases h
  · split at h
    · rename_i h2
      simp only [Option.some.injEq, Prod.mk.injEq] at h
      obtain ⟨rfl, rfl, rfl⟩ := h
      simp only [Bool.and_eq_true, beq_iff_eq] at h2
      constructor
      · have h3 := h2.2
        rw [List.length_take]
        rename_i h1
        unfold partsN at h3
        split at h3 <;> omega
      · exact fun x hx => hb _ x (List.mem_of_mem_drop (List.mem_of_mem_take hx))
    · cases h
theorem scan_fit {S : Int → List Int} (hS : ∀ k, Bytes (S k)) {g half most : Int} : ∀ (f : Nat) (last : Int) (used : Nat) (rs : List (List Int)), used ≤ 1024 → rs.length ≤ used → (∀ r ∈ rs, r.length ≤ 32768 ∧ Bytes r) →
    (scan S g half most f last used rs).2 ≤ 1024 ∧ (scan S g half most f last used rs).1.length ≤ (scan S g half most f last used rs).2 ∧ ∀ r ∈ (scan S g half most f last used rs).1, r.length ≤ 32768 ∧ Bytes r
  | 0, _, used, rs, h1, h2, h3 => ⟨h1, h2, h3⟩
  | f + 1, last, used, rs, h1, h2, h3 => by
    unfold scan
    split
    · exact ⟨h1, h2, h3⟩
    · rename_i n boot r hr
      have hf := recAt_facts hr
      have hr2 := recAt_rec hS hr
      refine scan_fit hS f boot (used + n) (rs ++ [r]) (by omega) (by simp; omega) ?_
      intro x hx
      rcases List.mem_append.1 hx with h | h
      · exact h3 x h
      · simp at h; subst h; exact hr2
theorem Img.zero_fit : Img.zero.Fit 0 := ⟨by omega, by simp [Img.zero], by simp [Img.zero], by simp [Img.zero]⟩
theorem imageS_fit {S : Int → List Int} (hS : ∀ k, Bytes (S k)) : (imageS S).1.Fit (imageS S).2.1 := by
  unfold imageS
  dsimp only
  split
  · exact Img.zero_fit
  · split
    · exact Img.zero_fit
    · rename_i h1 h2
      obtain ⟨h3, h4, h5⟩ := scan_fit hS (g := num8 (S 0) 0) (half := num8 (S 0) 8) (most := num8 (S 0) 16 % 4294967296) 1025 1 0 [] (by omega) (by simp) (by simp)
      exact ⟨h3, h4, h5, ⟨by show 0 ≤ num8 (S 0) 8; omega, by show num8 (S 0) 8 ≤ 1; omega⟩⟩
theorem imageOf_fit {D : DS} (h : D.Byt) : (imageOf D).1.Fit (imageOf D).2.1 := by
  unfold imageOf
  split
  · exact Img.zero_fit
  · exact imageS_fit fun k => secOf_bytes D.L k h
def ImagePost (x : Img) (w : World) (e : Ending) (w' : World) : Prop := ∃ v, e = .returned (.agg #[.int .i64 x.gen, .int .i64 x.half, .int .i64 x.boot, v]) ∧ RecsA w' w.heap.size v x.recs ∧ Chg [] w w'
set_option maxHeartbeats 4000000 in
theorem imagem_nil (w : World) : Calls Try.prog 64 #[.pointer none] w (ImagePost Img.zero w) := by
  go_enter Try.func64, Try.ntmps64
  go_wp2_with (first
    | (refine wpList_alloc rfl 98 rfl _ zeroImg ?_
       refine wpList_world (fun X => X.heap[w.heap.size]? = some (.cells #[.int .i64 0, .int .i64 0, .int .i64 0, .slice none 0 0] 98 (0, 0)) ∧ Chg [] w X) ⟨heap_new _ _ rfl, (by with_reducible repeat (first | exact Chg.refl _ _ | apply Chg.alloc | apply Chg.drew | apply Chg.drewN | (refine Chg.setCell ?_ _ _ (by simp))))⟩ ?_
       rintro X ⟨hb, hX⟩
       have HX := Lib.hid (And.intro hb hX)
       clear hb hX)
    | (refine wpList_build rfl 98 #[] rfl #[] rfl _ buildImg ?_)
    | (refine wpList_store_row rfl 98 (.tmp 2) (.tmp 8) rfl w.heap.size rfl #[.int .i64 0, .int .i64 0, .int .i64 0, .slice none 0 0] rfl _ _ HX.out.1 infoImg rfl (img_one _ _ _ _ rfl) ?_)
    | (skip; fail))
  exact bodyPost_ret (v := .agg #[.int .i64 0, .int .i64 0, .int .i64 0, .slice none 0 0]) (results_cell_row rfl _ _ w.heap.size _ _ _ _ rfl (setRow_heap _ _ _ _ _ _ HX.out.1) Try.underlying98 rfl infoImg) rfl ⟨_, rfl, RecsA.nil _ _, HX.out.2.andThen (setRow_chg _ _ _) (by simp)⟩
theorem RecsA.at {w : World} {base : Nat} {A : Option Addr} {c : Nat} {rs : List (List Int)} (h : RecsA w base (.slice A rs.length c) rs) {i : Nat} (hi : i < rs.length) : ∃ g hv, A = some ⟨g, 0, none⟩ ∧ w.cell? ⟨g, i, none⟩ = some hv ∧ RowB w 0 hv (rs.getD i []) := by
  obtain ⟨hs, h1, h2⟩ := h
  obtain ⟨g, rfl, _, _, _, hc⟩ := own_row h1 (by omega)
  have hl : hs.length = rs.length := by have := h1.1; omega
  refine ⟨g, hs.getD i undef, rfl, hc i _ (by rw [List.getD_eq_getElem?_getD, List.getElem?_eq_getElem (by omega)]; rfl), h2 i _ _ (by rw [List.getD_eq_getElem?_getD, List.getElem?_eq_getElem (by omega)]; rfl) (by rw [List.getD_eq_getElem?_getD, List.getElem?_eq_getElem (by omega)]; rfl)⟩
set_option maxHeartbeats 4000000 in
set_option maxRecDepth 100000 in
theorem imagem_any (w0 w : World) (q p : Nat) (P : PS) (h : PagesI w0 w q p P) (hf : P.img.Fit P.used) : Calls Try.prog 64 #[.pointer (some ⟨q, 0, none⟩)] w (ImagePost P.img w) := by
  obtain ⟨⟨gen, half, boot, rs⟩, used, dead⟩ := P
  obtain ⟨v, hb, hR, _⟩ := h
  dsimp only at hb hR hf ⊢
  obtain ⟨A, c, rfl⟩ := hR.slice
  have hcount : rs.length ≤ 1024 := by have h1 := hf.count; have h2 := hf.most; dsimp only at h1; omega
  have hrecs : ∀ r ∈ rs, r.length ≤ 32768 := fun r hr => (hf.recs r hr).1
  obtain ⟨ip2, hi, hz0, hz1, hz2⟩ := info_parts infoBS
  have HBS := Lib.hid (And.intro hi (And.intro hz0 (And.intro hz1 hz2)))
  have HH := Lib.hid (And.intro hb (And.intro hR hrecs))
  clear hi hz0 hz1 hz2 hb hR hrecs hf
  have hrg : ∀ W, Chg [] w W → W.rangeAt q 1 [.int .i64 gen, .int .i64 half, .int .i64 boot, .slice A rs.length c] := fun W hW => by
    have := range_of_block (cs := [.pointer (some ⟨p, 0, none⟩), .int .i64 gen, .int .i64 half, .int .i64 boot, .slice A rs.length c, .int .i64 used, .bool dead]) (hW.at HH.out.1 (by simp)) 1 4
    exact this
  have HRG := Lib.hid hrg
  clear hrg
  go_enter Try.func64, Try.ntmps64
  go_wp2_with (first
    | (refine wpList_alloc rfl 98 rfl _ zeroImg ?_
       refine wpList_world (fun X => X.heap[w.heap.size]? = some (.cells #[.int .i64 0, .int .i64 0, .int .i64 0, .slice none 0 0] 98 (0, 0)) ∧ Chg [] w X ∧ X.heap.size = w.heap.size + 1) ⟨heap_new _ _ rfl, (by with_reducible repeat (first | exact Chg.refl _ _ | apply Chg.alloc | apply Chg.drew | apply Chg.drewN | (refine Chg.setCell ?_ _ _ (by simp)))), by simp⟩ ?_
       rintro X ⟨hb, hX, hz⟩
       have HX := Lib.hid (And.intro hb (And.intro hX hz))
       clear hb hX hz
       ((try dsimp only); (try simp only [Act.put, List.setIfInBounds_toArray, List.set_cons_zero, List.set_cons_succ])))
    | (refine wpList_load_mid rfl 98 (.tmp 11) rfl q 1 (by kernel_rfl) _ _ (HRG.out _ HX.out.2.1) Try.underlying98 rfl infoImg ?_
       ((try dsimp only); (try simp only [Act.put, List.setIfInBounds_toArray, List.set_cons_zero, List.set_cons_succ]))
       refine wpList_alloc rfl 98 rfl _ zeroImg ?_
       refine wpList_world (fun Y => Y.heap[w.heap.size + 1]? = some (.cells #[.int .i64 0, .int .i64 0, .int .i64 0, .slice none 0 0] 98 (0, 0)) ∧ Chg [] X Y) ⟨heap_new _ _ HX.out.2.2.symm, (by with_reducible repeat (first | exact Chg.refl _ _ | apply Chg.alloc | apply Chg.drew | apply Chg.drewN | (refine Chg.setCell ?_ _ _ (by simp))))⟩ ?_
       rintro Y ⟨hy1, hy2⟩
       rw [HX.out.2.2]
       refine wpList_store_row rfl 98 (.tmp 3) (.tmp 12) rfl (w.heap.size + 1) (by kernel_rfl) #[.int .i64 gen, .int .i64 half, .int .i64 boot, .slice A rs.length c] (by kernel_rfl) _ _ hy1 infoImg rfl (img_one _ _ _ _ rfl) ?_
       refine wpList_world (fun U => U.heap[w.heap.size + 1]? = some (.cells #[.int .i64 gen, .int .i64 half, .int .i64 boot, .slice A rs.length c] 98 (0, 0)) ∧ Chg [] X U) ⟨setRow_heap _ _ _ _ _ _ hy1, hy2.andThen (setRow_chg _ _ _) (by have := HX.out.2.2; simp; omega)⟩ ?_
       rintro U ⟨hu, hU⟩
       have hUi := (HX.out.2.1.trans hU).at HH.out.1 (by simp)
       obtain ⟨_, _, _, _, u4, _⟩ := cell7 hUi
       obtain ⟨_, _, _, o3, of⟩ := cell4 hu
       have o3f := of 3
       have HU := Lib.hid (And.intro hu hU)
       clear hy1 hy2 hu hU hUi of
       ((try dsimp only); (try simp only [Act.put, List.setIfInBounds_toArray, List.set_cons_zero, List.set_cons_succ])))
    | (skip; fail))
  clear u4 o3 o3f
  go_loopw [20] (fun iv wr => ∃ (i : Nat) (v : Value), i ≤ rs.length ∧ iv = .int .i64 i ∧ Hid (wr.heap[w.heap.size + 1]? = some (.cells #[.int .i64 gen, .int .i64 half, .int .i64 boot, v] 98 (0, 0)) ∧ RecsA wr w.heap.size v (rs.take i) ∧ wr.heap[w.heap.size]? = some (.cells #[.int .i64 0, .int .i64 0, .int .i64 0, .slice none 0 0] 98 (0, 0)) ∧ Chg [] w wr)) (fun iv _ => rs.length - (intOf iv).toNat)
  case atStart => exact ⟨0, _, Nat.zero_le _, rfl, Lib.hid ⟨heap_setCell_same U (w.heap.size + 1) 3 _ _ (.slice none 0 0) HU.out.1, RecsA.nil _ _, by rw [heap_setCell_other _ _ _ _ (by simp)]; exact HU.out.2.at HX.out.1 (by simp), (HX.out.2.1.trans HU.out.2).setCell _ _ (by simp)⟩⟩
  case round =>
    obtain ⟨i, v, hi, rfl, HI⟩ := hrel
    obtain ⟨Av, cv, rfl⟩ := HI.out.2.1.slice
    have hlt' : (rs.take i).length = i := by simp; omega
    rw [hlt'] at HI
    by_cases hlt : i < rs.length
    · obtain ⟨gA, hv, hA, hc, hr⟩ := HH.out.2.1.at hlt
      subst hA
      obtain ⟨rb, hrb⟩ : ∃ rb, rb = rs.getD i [] := ⟨_, rfl⟩
      rw [← hrb] at hr
      obtain ⟨Ah, ch, rfl⟩ := hr.slice
      have hcw := HI.out.2.2.2.cell hc (by simp)
      have hl3 : rb.length ≤ 32768 := by rw [hrb]; exact HH.out.2.2 _ (by rw [List.getD_eq_getElem?_getD, List.getElem?_eq_getElem hlt]; exact List.getElem_mem _)
      have HRB := Lib.hid (And.intro hrb hr)
      obtain ⟨_, _, _, j3, _⟩ := cell4 HI.out.1
      clear hc hrb hr hlt'
      go_wp2_with fail
      refine wp_region_M (fun W => W.cell? ⟨w.heap.size + 1, 3, none⟩ = some (.slice Av i cv)) (fun k => [3, 4, 5, 7].contains k) (fun k => [7].contains k) (by kernel_rfl) ?_
      ((try dsimp only); (try simp only [Act.put, List.setIfInBounds_toArray, List.set_cons_zero, List.set_cons_succ]))
      refine M_pure (i := 0) (v := ?_) rfl (by kernel_rfl) (by kernel_rfl) (by kernel_rfl) (fun _ _ _ h => h) (by rfl) ?hy ?_; (case hy => (intro w; go_simp; with_reducible rfl)); ((try dsimp only); (try simp only [Act.put, List.setIfInBounds_toArray, List.set_cons_zero, List.set_cons_succ]))
      refine M_semi (i := 1) (v := ?_) rfl (by kernel_rfl) (by kernel_rfl) (by kernel_rfl) (by kernel_rfl) (fun _ _ _ h => h) (by rfl) j3 ?hy ?_; (case hy => (intro w hS; go_simp; with_reducible rfl)); ((try dsimp only); (try simp only [Act.put, List.setIfInBounds_toArray, List.set_cons_zero, List.set_cons_succ]))
      refine M_pure (i := 2) (v := ?_) rfl (by kernel_rfl) (by kernel_rfl) (by kernel_rfl) (fun _ _ _ h => h) (by rfl) ?hy ?_; (case hy => (intro w; go_simp; with_reducible rfl)); ((try dsimp only); (try simp only [Act.put, List.setIfInBounds_toArray, List.set_cons_zero, List.set_cons_succ]))
      refine M_eff (i := 3) rfl (by kernel_rfl) (by rfl) ?_
      refine RowB.copy ((HRB.out.2.kept HI.out.2.2.2 (by simp)).kept (Chg.refl [] wr).drew (by simp)) rfl (.const (.slice none 0 0)) (.tmp 26) rfl rfl (by kernel_rfl) (by omega) ?_
      intro v' W1 hrv hcw1
      obtain ⟨A1, c1, rfl⟩ := hrv.slice
      have hd1 : Chg [] wr W1 := (Chg.refl [] wr).drew.trans hcw1
      have k3 := hd1.cell j3 (by simp)
      have HW1 := Lib.hid (And.intro hd1 (hrv.base (Nat.zero_le _)))
      clear hcw1 hd1 hrv
      refine wpList_nil ⟨k3, ?_⟩
      ((try dsimp only); (try simp only [Act.put, List.setIfInBounds_toArray, List.set_cons_zero, List.set_cons_succ]))
      refine M_eff (i := 4) rfl (by kernel_rfl) (by rfl) ?_
      go_wp2_with fail
      refine ⟨by exact (Chg.alloc (Chg.refl [] W1) _).cell k3 (by simp), ?_⟩
      ((try dsimp only); (try simp only [Act.put, List.setIfInBounds_toArray, List.set_cons_zero, List.set_cons_succ]))
      obtain ⟨hs, hrow, hh⟩ := HI.out.2.1
      have hcwa : Chg [] wr (W1.alloc (.cells #[.slice A1 rb.length c1] 49)) := HW1.out.1.alloc _
      have htl : (rs.take i).length = i := by simp; omega
      have hrow2 : (W1.alloc (.cells #[.slice A1 rb.length c1] 49)).ownsRow w.heap.size 49 1 (.slice Av i cv) (rs.take i).length hs := own_kept hrow hcwa (by simp)
      have hh2 : ∀ (j : Nat) h r, hs[j]? = some h → (rs.take i)[j]? = some r → RowB (W1.alloc (.cells #[.slice A1 rb.length c1] 49)) 0 h r := fun j h r h1 h2 => (hh j h r h1 h2).kept hcwa (by simp)
      have hrb2 : RowB (W1.alloc (.cells #[.slice A1 rb.length c1] 49)) 0 (.slice A1 rb.length c1) rb := HW1.out.2.kept (Chg.alloc (Chg.refl [] W1) _) (by simp)
      have hrow3 := hrow2
      rw [htl] at hrow3
      have HW2 := Lib.hid (And.intro hrow2 (And.intro hh2 (And.intro hrb2 (And.intro hcwa (And.intro hrow3 htl)))))
      have hwz : w.heap.size ≤ (W1.alloc (.cells #[.slice A1 rb.length c1] 49)).heap.size := (HI.out.2.2.2.trans hcwa).size
      clear hrow hh hcwa hrow2 hh2 hrb2 hrow3 htl
      refine M_eff (i := 5) rfl (by kernel_rfl) (by rfl) ?_
      refine wpList_append_own_at _ rfl (.tmp 25) (.tmp 28) 96 rfl w.heap.size 49 ip2 _ 1 24 Try.underlying96 HBS.out.1 HBS.out.2.1 HBS.out.2.2.1 HBS.out.2.2.2 rfl (by omega) (.slice Av i cv) i hs (by kernel_rfl) HW2.out.2.2.2.2.1 ⟨W1.heap.size, 0, none⟩ 1 1 [.slice A1 rb.length c1] (by kernel_rfl) rfl (cell_one_new _ _ _) (by simp [Value.oneCell']) (by unfold maxLen; omega) (by omega) hwz ?_
      intro v2 W2 hown2 hgr2 _ _
      have hp2 := recsPush (wo := w) (W3 := w) (IMb := 0) (cs := #[]) HW2.out.1 HW2.out.2.1 HW2.out.2.2.1 (by rw [HW2.out.2.2.2.2.2]; exact hown2) hgr2
      obtain ⟨hrec2, hc2⟩ := hp2
      have bI6 := HW2.out.2.2.2.1.at HI.out.1 (by simp)
      have hni : w.heap.size + 1 ∉ (Value.slice Av i cv).ownBlock.toList := fun hm => by have := own_kind HW2.out.1 _ hm _ _ _ bI6; cases this
      have bI7 := hc2.at bI6 hni
      have bR6 := HW2.out.2.2.2.1.at HI.out.2.2.1 (by simp)
      have bR7 := hc2.at bR6 (fun hm => by have := own_kind HW2.out.1 _ hm _ _ _ bR6; cases this)
      obtain ⟨_, _, _, k4, k5⟩ := cell4 bI7
      have kf := k5 3
      have hcw2 : Chg [] w W2 := (HI.out.2.2.2.trans HW2.out.2.2.2.1).andThen hc2 (fun q hq => .inr (HW2.out.1.lt q (by simpa using hq)).1)
      obtain ⟨A2, c2', rfl⟩ := own_slice hown2
      have HW3 := Lib.hid (And.intro hrec2 (And.intro bI7 (And.intro hcw2 bR7)))
      clear hrec2 bI6 bI7 hcw2 bR6 bR7 hown2 hgr2 hc2 hni k3 k5
      refine wpList_nil ⟨k4, ?_⟩
      ((try dsimp only); (try simp only [Act.put, List.setIfInBounds_toArray, List.set_cons_zero, List.set_cons_succ]))
      refine M_pure (i := 6) (v := ?_) rfl (by kernel_rfl) (by kernel_rfl) (by kernel_rfl) (fun _ _ _ h => h) (by rfl) ?hy ?_; (case hy => (intro w; go_simp; with_reducible rfl)); ((try dsimp only); (try simp only [Act.put, List.setIfInBounds_toArray, List.set_cons_zero, List.set_cons_succ]))
      refine M_brk (i := 7) rfl (by kernel_rfl) (by rfl) (by rfl) ?_
      go_wp2_with fail
      ((try dsimp only [EffQ]); (try simp only [Act.put, List.setIfInBounds_toArray, List.set_cons_zero, List.set_cons_succ]))
      refine M_done (by kernel_rfl) ?_ _
      go_wp2_with fail
      go_roundw
      case rel =>
        refine ⟨i + 1, .slice A2 (i + 1) c2', by omega, by go_num, Lib.hid ⟨heap_setCell_same W2 (w.heap.size + 1) 3 _ _ (.slice A2 (i + 1) c2') HW3.out.2.1, ?_, by rw [heap_setCell_other _ _ _ _ (by simp)]; exact HW3.out.2.2.2, HW3.out.2.2.1.setCell _ _ (by simp)⟩⟩
        have e : rs.take (i + 1) = rs.take i ++ [rb] := by
          rw [List.take_succ_eq_append_getElem hlt, HRB.out.1, List.getD_eq_getElem?_getD, List.getElem?_eq_getElem hlt]; rfl
        rw [e]
        refine HW3.out.1.kept (w0 := w) (T := [some 98]) (ChgT.of_chg (l := [w.heap.size + 1]) ((Chg.refl _ _).setCell _ _ (by simp)) (fun k hk _ => ?_)) (by decide) (by decide)
        simp at hk; subst hk
        exact ⟨by omega, fun o ho => by rw [HW3.out.2.1] at ho; cases ho; simp [okind]⟩
      case measure => simp [intOf]; omega
    · obtain rfl : i = rs.length := by omega
      rw [List.take_length] at HI
      go_wp2_with (first
        | (refine wpList_load_mid rfl 98 (.tmp 3) rfl (w.heap.size + 1) 0 (by kernel_rfl) _ _ (range_all (cs := [_, _, _, _]) HI.out.1) Try.underlying98 rfl infoImg ?_
           ((try dsimp only); (try simp only [Act.put, List.setIfInBounds_toArray, List.set_cons_zero, List.set_cons_succ])))
        | (refine wpList_store_row rfl 98 (.tmp 2) (.tmp 32) rfl w.heap.size (by kernel_rfl) #[.int .i64 gen, .int .i64 half, .int .i64 boot, .slice Av rs.length cv] (by kernel_rfl) _ _ HI.out.2.2.1 infoImg rfl (img_one _ _ _ _ rfl) ?_)
        | (skip; fail))
      refine bodyPost_ret (v := .agg #[.int .i64 gen, .int .i64 half, .int .i64 boot, .slice Av rs.length cv]) (results_cell_row rfl _ _ w.heap.size _ _ _ _ (by kernel_rfl) (setRow_heap _ _ _ _ _ _ HI.out.2.2.1) Try.underlying98 rfl infoImg) (by kernel_rfl) ⟨_, rfl, ?_, HI.out.2.2.2.andThen (setRow_chg _ _ _) (by simp)⟩
      refine HI.out.2.1.kept (w0 := w) (T := [some 98]) (ChgT.of_chg (setRow_chg _ _ _) (fun k hk _ => ?_)) (by decide) (by decide)
      simp at hk; subst hk
      exact ⟨Nat.le_refl _, fun o ho => by rw [HI.out.2.2.1] at ho; cases ho; simp [okind]⟩
end Go.Proofs.Ytipijkpjmpejlaa
