import Derived.Test.YtipijkpjmpejlaaNetQ
/- The contract of slices.DeleteFunc over messages. -/
set_option linter.unusedVariables false
set_option linter.unusedSimpArgs false
namespace Go.Proofs.Ytipijkpjmpejlaa
open Go.RowKit
theorem RowR.cut {w : World} {n base g c i m : Nat} {T : TypeId} {C : Array Value} {css : List (List Value)} {zs : List Value} (h : RowR w n T base (.slice (some ⟨g, 0, none⟩) m c) css) (hm : css.length = m) (hi : i < m) (hz : zs.length = (m - i) * n) (hg : w.heap[g]? = some (.cells C T (0, 0))) :
    RowR (w.setRow g (C.toList.take (i * n) ++ zs ++ C.toList.drop (i * n + (m - i) * n)).toArray) n T base (.slice (some ⟨g, 0, none⟩) i c) (css.take i) := by
  subst hm
  obtain ⟨g', c', C', e, hb, hg', h1, h2, h3, h4, _⟩ := h.block (by omega)
  injection e with e1 _ e3
  injection e1 with e1
  injection e1 with e1 _ _
  subst e1 e3
  rw [hg] at hg'
  injection hg' with hg'
  injection hg' with hg'
  subst hg'
  have hlen : ∀ x ∈ css.take i, x.length = n := fun x hx => h.len x (List.mem_of_mem_take hx)
  have hin : i * n + (css.length - i) * n = css.length * n := by rw [← Nat.add_mul]; congr 1; omega
  have hcn : css.length * n ≤ c * n := Nat.mul_le_mul_right _ h1
  have hCl : C.toList.length = c * n := by simpa using h3
  have htl : (css.take i).length = i := by rw [List.length_take, Nat.min_eq_left (by omega)]
  refine ⟨⟨flatN _ hlen, .inr ⟨g, c, _, by rw [htl], hb, setRow_heap _ _ _ _ _ _ hg, by omega, h2, ?_, ?_⟩⟩, hlen⟩
  · simp only [List.size_toArray, List.length_append, List.length_take, List.length_drop, hCl, hz]; omega
  · have et : (css.take i).flatten.length = i * n := by rw [flatN _ hlen, htl]
    rw [htl]
    show List.take (i * n) (C.toList.take (i * n) ++ zs ++ _) = _
    rw [List.append_assoc, List.take_append_of_le_length (by rw [List.length_take]; omega), List.take_take, Nat.min_self]
    have e2 : C.toList.take (i * n) = (C.toList.take (css.length * n)).take (i * n) := by rw [List.take_take, Nat.min_eq_left (by omega)]
    rw [e2, h4]
    conv => lhs; rw [← List.take_append_drop i css]
    rw [List.flatten_append, ← et, List.take_left]
def keepB (ad : Int) (c : List Value) : Bool := !(toOf c == ad)
def keep (ad : Int) (css : List (List Value)) : List (List Value) := css.filter (keepB ad)
theorem idxF_spec (ad : Int) : ∀ (css : List (List Value)) (k : Nat), (idxF ad css k = -1 ∧ keep ad css = css) ∨ ∃ i : Nat, idxF ad css k = (k + i : Nat) ∧ i < css.length ∧ keep ad (css.take (i + 1)) = css.take i
  | [], k => .inl ⟨rfl, rfl⟩
  | c :: r, k => by
    by_cases h : toOf c = ad
    · refine .inr ⟨0, by simp [idxF, h], by simp, ?_⟩
      simp [keep, keepB, h]
    · rcases idxF_spec ad r (k + 1) with ⟨h1, h2⟩ | ⟨i, h1, h2, h3⟩
      · exact .inl ⟨by simp [idxF, h, h1], by simp only [keep] at h2 ⊢; rw [List.filter_cons, if_pos (by simp [keepB, h]), h2]⟩
      · refine .inr ⟨i + 1, by simp only [idxF, h, if_false, h1]; congr 1; omega, by simpa using h2, ?_⟩
        simp only [keep] at h3 ⊢
        rw [List.take_succ_cons, List.filter_cons, if_pos (by simp [keepB, h]), h3, List.take_succ_cons]
theorem keep_next (ad : Int) (css : List (List Value)) (k : Nat) (hk : k < css.length) : keep ad (css.take (k + 1)) = keep ad (css.take k) ++ if keepB ad css[k] then [css[k]] else [] := by
  unfold keep
  rw [List.take_succ_eq_append_getElem hk, List.filter_append]
  cases h : keepB ad css[k] <;> simp [h]
theorem keep_le (ad : Int) (css : List (List Value)) : (keep ad css).length ≤ css.length := List.length_filter_le _ _
/-- Deleting under way: k of them are seen. -/
structure Dlf (w wr : World) (b cb n k i : Nat) (ad : Int) (css cur : List (List Value)) : Prop where
  row : RowR wr 17 139 0 (.slice (some ⟨b, 0, none⟩) n cb) cur
  len : cur.length = n
  front : cur.take i = keep ad (css.take k)
  rest : cur.drop k = css.drop k
  at_ : i = (keep ad (css.take k)).length
  lt : i < k
  chg : Chg [b] w wr
theorem Dlf.skip {w wr W : World} {b cb n k i : Nat} {ad : Int} {css cur : List (List Value)} (h : Dlf w wr b cb n k i ad css cur) (hn : css.length = n) (hk : k < css.length) (hc : Chg [] wr W) (hd : keepB ad css[k] = false) : Dlf w W b cb n (k + 1) i ad css cur := by
  have e := keep_next ad css k hk
  rw [hd] at e
  simp at e
  refine ⟨h.row.kept hc (by simp), h.len, by rw [h.front, e], ?_, by rw [e]; exact h.at_, by have := h.lt; omega, h.chg.trans (hc.mono (by simp))⟩
  have := congrArg (List.drop 1) h.rest
  rw [List.drop_drop, List.drop_drop] at this
  simpa [Nat.add_comm] using this
theorem Dlf.step {w wr W : World} {b cb n k i : Nat} {ad : Int} {css cur : List (List Value)} {C : Array Value} (h : Dlf w wr b cb n k i ad css cur) (hn : css.length = n) (hk : k < css.length) (hc : Chg [] wr W) (hd : keepB ad css[k] = true) (hg : W.heap[b]? = some (.cells C 139 (0, 0))) (hl : css[k].length = 17) :
    Dlf w (W.setRow b (C.toList.take (i * 17) ++ css[k] ++ C.toList.drop (i * 17 + 17)).toArray) b cb n (k + 1) (i + 1) ad css (cur.set i css[k]) := by
  have e := keep_next ad css k hk
  rw [hd] at e
  simp at e
  have hi : i < cur.length := by have := h.lt; rw [h.len]; omega
  have hr := (h.row.kept hc (by simp)).setAt h.len hi hl hg
  refine ⟨hr, by simpa using h.len, ?_, ?_, by rw [e, List.length_append, ← h.at_]; rfl, by have := h.lt; omega, (h.chg.trans (hc.mono (by simp))).trans (setRow_chg _ _ _)⟩
  · rw [e, ← h.front, List.take_succ_eq_append_getElem (by simpa using hi), List.take_set_of_le (Nat.le_refl _)]
    simp
  · rw [List.drop_set_of_lt (by have := h.lt; omega)]
    have := congrArg (List.drop 1) h.rest
    rw [List.drop_drop, List.drop_drop] at this
    simpa [Nat.add_comm] using this
set_option maxHeartbeats 4000000 in
set_option maxRecDepth 100000 in
theorem delf_any (w : World) (b cb n : Nat) (css : List (List Value)) (hR : RowR w 17 139 0 (.slice (some ⟨b, 0, none⟩) n cb) css) (hn : css.length = n) (hn2 : n ≤ 1024) (hm : ∀ cs ∈ css, IsMI cs) (a : Nat) (ad : Int) (hab : a ≠ b) (ha : w.cell? ⟨a, 0, none⟩ = some (.int .i64 ad)) :
    Calls Try.prog 81 #[.slice (some ⟨b, 0, none⟩) n cb, .func (.func 82) #[] #[.pointer (some ⟨a, 0, none⟩)]] w fun e w' => e = .returned (.slice (some ⟨b, 0, none⟩) (keep ad css).length cb) ∧ RowR w' 17 139 0 (.slice (some ⟨b, 0, none⟩) (keep ad css).length cb) (keep ad css) ∧ Chg [b] w w' := by
  have hsz : (Try.prog.info? 139).map (·.size) = some 17 := by kernel_rfl
  have hix := index_any w b cb n css hR hn hn2 hm a ad ha
  have HV := Lib.hid (And.intro hR (And.intro hm (And.intro ha (And.intro hsz (And.intro hn hix)))))
  clear hR hm ha hsz hix
  rcases idxF_spec ad css 0 with ⟨h1, h2⟩ | ⟨i0, h1, h2, h3⟩
  · rw [h2, hn]
    have H1 := Lib.hid h1
    clear h1 h2 hn
    go_enter Try.func81, Try.ntmps81
    go_wp2_with (go_at_call 104; refine HV.out.2.2.2.2.2.mono ?_; rintro e X ⟨rfl, hX⟩; rw [H1.out]; have HX := Lib.hid hX; clear hX)
    go_ret
    exact ⟨rfl, HV.out.1.kept HX.out (by simp), HX.out.mono (by simp)⟩
  · rw [Nat.zero_add] at h1
    have hin : i0 < n := by omega
    have H1 := Lib.hid (And.intro h1 h3)
    have hb0 : ((i0 : Int) == -1) = false := beq_eq_false_iff_ne.2 (by omega)
    clear h1 h2 h3 hn
    go_enter Try.func81, Try.ntmps81
    go_wp2_with (go_at_call 104; refine HV.out.2.2.2.2.2.mono ?_; rintro e X ⟨rfl, hX⟩; rw [H1.out.1]; have HX := Lib.hid hX; clear hX)
    go_loopw [5, 6] (fun iv jv wr => ∃ i k cur, k ≤ n ∧ iv = .int .i64 (i : Nat) ∧ jv = .int .i64 (k : Nat) ∧ Dlf w wr b cb n k i ad css cur) (fun _ jv _ => n - (intOf jv).toNat)
    case atStart =>
      refine ⟨i0, i0 + 1, css, by omega, rfl, by go_num, HV.out.1.kept HX.out (by simp), HV.out.2.2.2.2.1, by rw [H1.out.2], rfl, ?_, by omega, HX.out.mono (by simp)⟩
      rw [H1.out.2, List.length_take, HV.out.2.2.2.2.1]; omega
    case round =>
      obtain ⟨i, k, cur, hk, rfl, rfl, hD⟩ := hrel
      have hik := hD.lt
      by_cases hlt : k < n
      · have hkc : k < css.length := by rw [HV.out.2.2.2.2.1]; exact hlt
        obtain ⟨m, h, A, c, B, d, hcs⟩ := HV.out.2.1 _ (List.getElem_mem hkc)
        have hkk : k < cur.length := by rw [hD.len]; exact hlt
        have hck : cur[k] = css[k] := by
          have := congrArg (fun l => l[0]?) hD.rest
          simp only [List.getElem?_drop, Nat.add_zero] at this
          rw [List.getElem?_eq_getElem hkk, List.getElem?_eq_getElem hkc] at this
          exact Option.some.inj this
        obtain ⟨g', c', C, hv, _, hb, _, _, hCs, _, hrg⟩ := hD.row.block (by omega)
        injection hv with hv1 hv2 hv3
        clear hv2
        injection hv1 with hv1
        injection hv1 with hv1
        subst hv1 hv3
        have hr := hrg k hkk
        rw [hck, hcs] at hr
        have hCb : Chg [] wr (wr.alloc (.cells #[.int .i8 0, .int .i64 0, .int .i64 0, .int .i64 0, .int .i64 0, .int .i64 0, .int .i64 0, .int .i64 0, .int .i64 0, .int .i64 0, .int .i64 0, .slice none 0 0, .int .i64 0, .int .i64 0, .string ⟨#[]⟩, .slice none 0 0, .bool false] 139)) := (by with_reducible repeat (first | exact Chg.refl _ _ | apply Chg.alloc | apply Chg.drew | apply Chg.drewN | (refine Chg.setCell ?_ _ _ (by simp))))
        obtain ⟨Y, hY⟩ : ∃ Y, Y = wr.alloc (.cells #[.int .i8 (Msg.kind m), .int .i64 (Msg.frm m), .int .i64 (Msg.to m), .int .i64 (Msg.boot m), .int .i64 (Msg.server m), .int .i64 (Msg.number m), .int .i64 (Msg.node m), .int .i64 (Msg.lease m), .int .i64 (Msg.epoch m), .int .i64 (Msg.version m), .int .i64 (Msg.e m), .slice B (Msg.steps m).length d, .int .i64 (Msg.tree m).id, .int .i64 (Msg.tree m).kind, .string (Msg.tree m).text, .slice A (Msg.tree m).kids.length c, .bool h] 139) := ⟨_, rfl⟩
        have hYc : Chg [] wr Y := by rw [hY]; exact (by with_reducible repeat (first | exact Chg.refl _ _ | apply Chg.alloc | apply Chg.drew | apply Chg.drewN | (refine Chg.setCell ?_ _ _ (by simp))))
        have hYb : Y.heap[wr.heap.size]? = some (.cells #[.int .i8 (Msg.kind m), .int .i64 (Msg.frm m), .int .i64 (Msg.to m), .int .i64 (Msg.boot m), .int .i64 (Msg.server m), .int .i64 (Msg.number m), .int .i64 (Msg.node m), .int .i64 (Msg.lease m), .int .i64 (Msg.epoch m), .int .i64 (Msg.version m), .int .i64 (Msg.e m), .slice B (Msg.steps m).length d, .int .i64 (Msg.tree m).id, .int .i64 (Msg.tree m).kind, .string (Msg.tree m).text, .slice A (Msg.tree m).kids.length c, .bool h] 139 (0, 0)) := by rw [hY]; exact heap_new _ _ rfl
        have hdel := del_any Y m h A c B d a ad ((hD.chg.trans (hYc.mono (by simp))).cell HV.out.2.2.1 (by simpa using hab))
        have h1c : (#[.int .i8 (Msg.kind m), .int .i64 (Msg.frm m), .int .i64 (Msg.to m), .int .i64 (Msg.boot m), .int .i64 (Msg.server m), .int .i64 (Msg.number m), .int .i64 (Msg.node m), .int .i64 (Msg.lease m), .int .i64 (Msg.epoch m), .int .i64 (Msg.version m), .int .i64 (Msg.e m), .slice B (Msg.steps m).length d, .int .i64 (Msg.tree m).id, .int .i64 (Msg.tree m).kind, .string (Msg.tree m).text, .slice A (Msg.tree m).kids.length c, .bool h] : Array Value).all (·.oneCell') = true := by simp [Value.oneCell']
        have hto : keepB ad css[k] = !(m.to == ad) := by rw [hcs]; rfl
        have h17 : css[k].length = 17 := by rw [hcs]; rfl
        have hib : i * 17 + 17 ≤ C.size := by
          rw [hCs]
          have : (i + 1) * 17 ≤ cb * 17 := Nat.mul_le_mul_right _ (by omega)
          omega
        have HX := Lib.hid (And.intro hr (And.intro hD (And.intro hdel (And.intro h1c (And.intro hYc (And.intro hYb (And.intro (Eq.symm hY) (And.intro hb (And.intro hto (And.intro hcs (And.intro hib h17)))))))))))
        clear hr hD hdel h1c hYc hYb hY hb hto hcs hCb hrg hck h17 hCs hib
        by_cases ht0 : (m.to == ad) = true
        · have ht := ht0
          have HT := Lib.hid ht
          have hnt : (!(m.to == ad)) = false := by rw [ht]; rfl
          have HNT := Lib.hid hnt
          clear ht0 hnt
          go_wp2_with (first
            | (refine wpList_load_mid rfl 139 (.tmp 24) rfl b (k * 17) rfl (#[.int .i8 (Msg.kind m), .int .i64 (Msg.frm m), .int .i64 (Msg.to m), .int .i64 (Msg.boot m), .int .i64 (Msg.server m), .int .i64 (Msg.number m), .int .i64 (Msg.node m), .int .i64 (Msg.lease m), .int .i64 (Msg.epoch m), .int .i64 (Msg.version m), .int .i64 (Msg.e m), .slice B (Msg.steps m).length d, .int .i64 (Msg.tree m).id, .int .i64 (Msg.tree m).kind, .string (Msg.tree m).text, .slice A (Msg.tree m).kids.length c, .bool h] : Array Value).toList _ HX.out.1 Try.underlying139 rfl HV.out.2.2.2.1 ?_)
            | (refine wpList_store_row rfl 139 (.tmp 7) (.tmp 25) rfl wr.heap.size rfl #[.int .i8 (Msg.kind m), .int .i64 (Msg.frm m), .int .i64 (Msg.to m), .int .i64 (Msg.boot m), .int .i64 (Msg.server m), .int .i64 (Msg.number m), .int .i64 (Msg.node m), .int .i64 (Msg.lease m), .int .i64 (Msg.epoch m), .int .i64 (Msg.version m), .int .i64 (Msg.e m), .slice B (Msg.steps m).length d, .int .i64 (Msg.tree m).id, .int .i64 (Msg.tree m).kind, .string (Msg.tree m).text, .slice A (Msg.tree m).kids.length c, .bool h] rfl _ _ (heap_new _ _ rfl) HV.out.2.2.2.1 rfl HX.out.2.2.2.1 ?_; rw [setRow_new, HX.out.2.2.2.2.2.2.1])
            | (refine wpList_load_mid rfl 139 (.tmp 7) rfl wr.heap.size 0 rfl (#[.int .i8 (Msg.kind m), .int .i64 (Msg.frm m), .int .i64 (Msg.to m), .int .i64 (Msg.boot m), .int .i64 (Msg.server m), .int .i64 (Msg.number m), .int .i64 (Msg.node m), .int .i64 (Msg.lease m), .int .i64 (Msg.epoch m), .int .i64 (Msg.version m), .int .i64 (Msg.e m), .slice B (Msg.steps m).length d, .int .i64 (Msg.tree m).id, .int .i64 (Msg.tree m).kind, .string (Msg.tree m).text, .slice A (Msg.tree m).kids.length c, .bool h] : Array Value).toList _ (range_all HX.out.2.2.2.2.2.1) Try.underlying139 rfl HV.out.2.2.2.1 ?_)
            | (go_at_call 82; refine HX.out.2.2.1.mono ?_; rintro e Z ⟨rfl, hZ⟩; rw [ht]; have HZ := Lib.hid (And.intro hZ (And.intro (hZ.at HX.out.2.2.2.2.2.1 (by simp)) (hZ.at (HX.out.2.2.2.2.1.at HX.out.2.2.2.2.2.2.2.1 (by simp)) (by simp)))); clear hZ)
            | (refine wpList_load_mid rfl 139 (.tmp 7) rfl wr.heap.size 0 rfl (#[.int .i8 (Msg.kind m), .int .i64 (Msg.frm m), .int .i64 (Msg.to m), .int .i64 (Msg.boot m), .int .i64 (Msg.server m), .int .i64 (Msg.number m), .int .i64 (Msg.node m), .int .i64 (Msg.lease m), .int .i64 (Msg.epoch m), .int .i64 (Msg.version m), .int .i64 (Msg.e m), .slice B (Msg.steps m).length d, .int .i64 (Msg.tree m).id, .int .i64 (Msg.tree m).kind, .string (Msg.tree m).text, .slice A (Msg.tree m).kids.length c, .bool h] : Array Value).toList _ (range_all HZ.out.2.1) Try.underlying139 rfl HV.out.2.2.2.1 ?_)
            | (refine wpList_store_at rfl 139 (.tmp 33) (.tmp 32) rfl b (i * 17) rfl #[.int .i8 (Msg.kind m), .int .i64 (Msg.frm m), .int .i64 (Msg.to m), .int .i64 (Msg.boot m), .int .i64 (Msg.server m), .int .i64 (Msg.number m), .int .i64 (Msg.node m), .int .i64 (Msg.lease m), .int .i64 (Msg.epoch m), .int .i64 (Msg.version m), .int .i64 (Msg.e m), .slice B (Msg.steps m).length d, .int .i64 (Msg.tree m).id, .int .i64 (Msg.tree m).kind, .string (Msg.tree m).text, .slice A (Msg.tree m).kids.length c, .bool h] rfl C _ HZ.out.2.2 HV.out.2.2.2.1 HX.out.2.2.2.2.2.2.2.2.2.2.1 (by simpa using HX.out.2.2.2.1) ?_)
            | fail)
          go_roundw
          case rel => exact ⟨i, k + 1, cur, by omega, rfl, by go_num, HX.out.2.1.skip HV.out.2.2.2.2.1 (by rw [HV.out.2.2.2.2.1]; exact hlt) (HX.out.2.2.2.2.1.trans HZ.out.1) (by rw [HX.out.2.2.2.2.2.2.2.2.1, HT.out]; rfl)⟩
          case measure => simp [intOf]; omega
        · have ht : (m.to == ad) = false := by simpa using ht0
          have HT := Lib.hid ht
          clear ht0
          go_wp2_with (first
            | (refine wpList_load_mid rfl 139 (.tmp 24) rfl b (k * 17) rfl (#[.int .i8 (Msg.kind m), .int .i64 (Msg.frm m), .int .i64 (Msg.to m), .int .i64 (Msg.boot m), .int .i64 (Msg.server m), .int .i64 (Msg.number m), .int .i64 (Msg.node m), .int .i64 (Msg.lease m), .int .i64 (Msg.epoch m), .int .i64 (Msg.version m), .int .i64 (Msg.e m), .slice B (Msg.steps m).length d, .int .i64 (Msg.tree m).id, .int .i64 (Msg.tree m).kind, .string (Msg.tree m).text, .slice A (Msg.tree m).kids.length c, .bool h] : Array Value).toList _ HX.out.1 Try.underlying139 rfl HV.out.2.2.2.1 ?_)
            | (refine wpList_store_row rfl 139 (.tmp 7) (.tmp 25) rfl wr.heap.size rfl #[.int .i8 (Msg.kind m), .int .i64 (Msg.frm m), .int .i64 (Msg.to m), .int .i64 (Msg.boot m), .int .i64 (Msg.server m), .int .i64 (Msg.number m), .int .i64 (Msg.node m), .int .i64 (Msg.lease m), .int .i64 (Msg.epoch m), .int .i64 (Msg.version m), .int .i64 (Msg.e m), .slice B (Msg.steps m).length d, .int .i64 (Msg.tree m).id, .int .i64 (Msg.tree m).kind, .string (Msg.tree m).text, .slice A (Msg.tree m).kids.length c, .bool h] rfl _ _ (heap_new _ _ rfl) HV.out.2.2.2.1 rfl HX.out.2.2.2.1 ?_; rw [setRow_new, HX.out.2.2.2.2.2.2.1])
            | (refine wpList_load_mid rfl 139 (.tmp 7) rfl wr.heap.size 0 rfl (#[.int .i8 (Msg.kind m), .int .i64 (Msg.frm m), .int .i64 (Msg.to m), .int .i64 (Msg.boot m), .int .i64 (Msg.server m), .int .i64 (Msg.number m), .int .i64 (Msg.node m), .int .i64 (Msg.lease m), .int .i64 (Msg.epoch m), .int .i64 (Msg.version m), .int .i64 (Msg.e m), .slice B (Msg.steps m).length d, .int .i64 (Msg.tree m).id, .int .i64 (Msg.tree m).kind, .string (Msg.tree m).text, .slice A (Msg.tree m).kids.length c, .bool h] : Array Value).toList _ (range_all HX.out.2.2.2.2.2.1) Try.underlying139 rfl HV.out.2.2.2.1 ?_)
            | (go_at_call 82; refine HX.out.2.2.1.mono ?_; rintro e Z ⟨rfl, hZ⟩; rw [ht]; have HZ := Lib.hid (And.intro hZ (And.intro (hZ.at HX.out.2.2.2.2.2.1 (by simp)) (hZ.at (HX.out.2.2.2.2.1.at HX.out.2.2.2.2.2.2.2.1 (by simp)) (by simp)))); clear hZ)
            | (refine wpList_load_mid rfl 139 (.tmp 7) rfl wr.heap.size 0 rfl (#[.int .i8 (Msg.kind m), .int .i64 (Msg.frm m), .int .i64 (Msg.to m), .int .i64 (Msg.boot m), .int .i64 (Msg.server m), .int .i64 (Msg.number m), .int .i64 (Msg.node m), .int .i64 (Msg.lease m), .int .i64 (Msg.epoch m), .int .i64 (Msg.version m), .int .i64 (Msg.e m), .slice B (Msg.steps m).length d, .int .i64 (Msg.tree m).id, .int .i64 (Msg.tree m).kind, .string (Msg.tree m).text, .slice A (Msg.tree m).kids.length c, .bool h] : Array Value).toList _ (range_all HZ.out.2.1) Try.underlying139 rfl HV.out.2.2.2.1 ?_)
            | (refine wpList_store_at rfl 139 (.tmp 33) (.tmp 32) rfl b (i * 17) rfl #[.int .i8 (Msg.kind m), .int .i64 (Msg.frm m), .int .i64 (Msg.to m), .int .i64 (Msg.boot m), .int .i64 (Msg.server m), .int .i64 (Msg.number m), .int .i64 (Msg.node m), .int .i64 (Msg.lease m), .int .i64 (Msg.epoch m), .int .i64 (Msg.version m), .int .i64 (Msg.e m), .slice B (Msg.steps m).length d, .int .i64 (Msg.tree m).id, .int .i64 (Msg.tree m).kind, .string (Msg.tree m).text, .slice A (Msg.tree m).kids.length c, .bool h] rfl C _ HZ.out.2.2 HV.out.2.2.2.1 HX.out.2.2.2.2.2.2.2.2.2.2.1 (by simpa using HX.out.2.2.2.1) ?_)
            | fail)
          go_roundw
          case rel =>
            have hd := HX.out.2.1.step HV.out.2.2.2.2.1 (by rw [HV.out.2.2.2.2.1]; exact hlt) (HX.out.2.2.2.2.1.trans HZ.out.1) (by rw [HX.out.2.2.2.2.2.2.2.2.1, HT.out]; rfl) HZ.out.2.2 HX.out.2.2.2.2.2.2.2.2.2.2.2
            rw [HX.out.2.2.2.2.2.2.2.2.2.1, List.append_assoc] at hd
            exact ⟨i + 1, k + 1, _, by omega, by go_num, by go_num, hd⟩
          case measure => simp [intOf]; omega
      · obtain rfl : k = n := by omega
        obtain ⟨g', c', C, hv, _, hb, _, _, hCs, _, _⟩ := hD.row.block (by rw [hD.len]; omega)
        injection hv with hv1 hv2 hv3
        clear hv2
        injection hv1 with hv1
        injection hv1 with hv1
        subst hv1 hv3
        have hkcb : k ≤ cb := by
          obtain ⟨g', c', C', hv, _, _, hle, _⟩ := hD.row.block (by rw [hD.len]; omega)
          injection hv with _ hv2 hv3
          subst hv3
          rw [hD.len] at hle
          exact hle
        have hicb : i ≤ cb := by omega
        have hile : i ≤ k := by omega
        have hne : ¬ cb = i := by omega
        have hz : (Value.agg #[.int .i8 0, .int .i64 0, .int .i64 0, .int .i64 0, .int .i64 0, .int .i64 0, .int .i64 0, .int .i64 0, .int .i64 0, .int .i64 0, .int .i64 0, .slice none 0 0, .int .i64 0, .int .i64 0, .string ⟨#[]⟩, .slice none 0 0, .bool false]).cells.size = 17 := rfl
        have hsum : i * 17 + (k - i) * 17 = k * 17 := by rw [← Nat.add_mul]; congr 1; omega
        have hmul : k * 17 ≤ cb * 17 := Nat.mul_le_mul_right _ hkcb
        have hcl := run_clear_row wr 135 139 0 _ Try.underlying135 Try.zeroValue139 b (i * 17) (k - i) (cb - i) C hb (by rw [hz, hCs]; omega) (zeroCells_one _ _ zMK_one) (by omega)
        have hrow := hD.row.cut (zs := (Builtin.zeroCells (Value.agg #[.int .i8 0, .int .i64 0, .int .i64 0, .int .i64 0, .int .i64 0, .int .i64 0, .int .i64 0, .int .i64 0, .int .i64 0, .int .i64 0, .int .i64 0, .slice none 0 0, .int .i64 0, .int .i64 0, .string ⟨#[]⟩, .slice none 0 0, .bool false]).cells (k - i)).toList) hD.len hik (by rw [Array.length_toList, size_zeroCells, hz]) hb
        rw [hz] at hcl
        have hch := hD.chg.trans (setRow_chg wr b (C.toList.take (i * 17) ++ (Builtin.zeroCells (Value.agg #[.int .i8 0, .int .i64 0, .int .i64 0, .int .i64 0, .int .i64 0, .int .i64 0, .int .i64 0, .int .i64 0, .int .i64 0, .int .i64 0, .int .i64 0, .slice none 0 0, .int .i64 0, .int .i64 0, .string ⟨#[]⟩, .slice none 0 0, .bool false]).cells (k - i)).toList ++ C.toList.drop (i * 17 + (k - i) * 17)).toArray)
        obtain ⟨Y, hY⟩ : ∃ Y, Y = wr.setRow b (C.toList.take (i * 17) ++ (Builtin.zeroCells (Value.agg #[.int .i8 0, .int .i64 0, .int .i64 0, .int .i64 0, .int .i64 0, .int .i64 0, .int .i64 0, .int .i64 0, .int .i64 0, .int .i64 0, .int .i64 0, .slice none 0 0, .int .i64 0, .int .i64 0, .string ⟨#[]⟩, .slice none 0 0, .bool false]).cells (k - i)).toList ++ C.toList.drop (i * 17 + (k - i) * 17)).toArray := ⟨_, rfl⟩
        rw [← hY] at hcl hrow hch
        have hfr := hD.front
        have hat := hD.at_
        rw [← HV.out.2.2.2.2.1, List.take_length] at hfr hat
        rw [hfr] at hrow
        have HX := Lib.hid (And.intro hcl (And.intro hrow (And.intro hch hat)))
        clear hcl hrow hch hat hfr hY hD hb hCs hz hsum hmul
        go_wp2_with fail
        rw [HX.out.1]
        go_wp2
        go_ret
        rw [← HX.out.2.2.2]
        exact ⟨rfl, HX.out.2.1, HX.out.2.2.1⟩
end Go.Proofs.Ytipijkpjmpejlaa
