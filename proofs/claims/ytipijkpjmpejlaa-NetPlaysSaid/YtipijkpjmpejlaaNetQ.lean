import Derived.Test.YtipijkpjmpejlaaNetE
import Derived.Test.YtipijkpjmpejlaaNetH
/- A row's value is set whole; the contracts of Clear's closure and of slices.IndexFunc over messages. -/
set_option linter.unusedVariables false
set_option linter.unusedSimpArgs false
namespace Go.Proofs.Ytipijkpjmpejlaa
open Go.RowKit
section
variable {P : Program} {ops : Array Oper} {rest : List Oper} {o : Oper} {a : Act} {w : World} {Q : Exit → Act → World → Prop}
/-- A store of a value of many cells into the middle of a block. -/
theorem wpList_store_at (hgd : o.guard = none) (T : TypeId) (x y : Operand) (ho : o.op = .store T x y) (g k : Nat) (hx : a.eval x = .pointer (some ⟨g, k, none⟩)) (cells : Array Value) (hy : a.eval y = .agg cells)
    (cur : Array Value) (t : TypeId) (hg : w.heap[g]? = some (.cells cur t (0, 0))) (hi : (P.info? T).map (·.size) = some cells.size) (hfit : k + cells.size ≤ cur.size) (h1 : ∀ u ∈ cells.toList, u.oneCell' = true)
    (h : wpList P ops Q rest (a.put o.dst undef) (w.setRow g (cur.toList.take k ++ cells.toList ++ cur.toList.drop (k + cells.size)).toArray)) : wpList P ops Q (o :: rest) a w := by
  refine wpList_runs hgd ?_ h
  have := run_storeCells_at (P := P) g k t cells.toList 0 cur w hg (by simpa using hfit) h1
  cases hq : P.info? T with
  | none => simp [hq] at hi
  | some i =>
    have hs : cells.size = i.size := by simp [hq] at hi; omega
    simp only [Nat.add_zero, Array.length_toList] at this
    simp [execOp, ho, hx, hy, Instr.storeAt, Instr.sureAddr, storeVar, sizeOf, typeInfo, hq, Value.cells, hs, Result.andThen]
    rw [hs] at this
    rw [this]
    simp
end
theorem take_splice {α : Type} (L cs : List α) (p n T : Nat) (hp : p + n ≤ T) (hT : T ≤ L.length) (hl : cs.length = n) : (L.take p ++ cs ++ L.drop (p + n)).take T = L.take p ++ cs ++ (L.take T).drop (p + n) := by
  have h1 : (L.take p ++ cs).length = p + n := by simp; omega
  rw [List.take_append, List.take_of_length_le (by omega), h1, List.drop_take]
theorem RowR.setAt {w : World} {n base g c i m : Nat} {T : TypeId} {C : Array Value} {css : List (List Value)} {cs : List Value} (h : RowR w n T base (.slice (some ⟨g, 0, none⟩) m c) css) (hm : css.length = m) (hi : i < css.length) (hl : cs.length = n) (hg : w.heap[g]? = some (.cells C T (0, 0))) :
    RowR (w.setRow g (C.toList.take (i * n) ++ cs ++ C.toList.drop (i * n + n)).toArray) n T base (.slice (some ⟨g, 0, none⟩) m c) (css.set i cs) := by
  subst hm
  obtain ⟨g', c', C', e, hb, hg', h1, h2, h3, h4, _⟩ := h.block (by omega)
  injection e with e1 _ e3
  injection e1 with e1
  injection e1 with e1 _ _
  subst e1 e3
  rw [hg] at hg'
  injection hg' with hg'
  injection hg' with hg'
  subst hg'
  have hlen : ∀ x ∈ css.set i cs, x.length = n := fun x hx => by
    rcases List.mem_or_eq_of_mem_set hx with hm | rfl
    · exact h.len x hm
    · exact hl
  have hin : i * n + n ≤ css.length * n := by
    have : (i + 1) * n ≤ css.length * n := Nat.mul_le_mul_right _ (by omega)
    rwa [Nat.add_mul, Nat.one_mul] at this
  have hcn : css.length * n ≤ c * n := Nat.mul_le_mul_right _ h1
  have hCl : C.toList.length = c * n := by simpa using h3
  refine ⟨⟨by rw [flatN _ hlen], .inr ⟨g, c, _, by simp, hb, setRow_heap _ _ _ _ _ _ hg, by simpa using h1, h2, ?_, ?_⟩⟩, hlen⟩
  · simp only [List.size_toArray, List.length_append, List.length_take, List.length_drop, hCl, hl]; omega
  · have et : (css.take i).flatten.length = i * n := by
      rw [flatN _ (fun x hx => h.len x (List.mem_of_mem_take hx)), List.length_take, Nat.min_eq_left (by omega)]
    have e1 : C.toList.take (i * n) = (css.take i).flatten := by
      have e2 : C.toList.take (i * n) = (C.toList.take (css.length * n)).take (i * n) := by rw [List.take_take, Nat.min_eq_left (by omega)]
      rw [e2, h4]
      conv => lhs; rw [← List.take_append_drop i css]
      rw [List.flatten_append, ← et, List.take_left]
    have e3 : (C.toList.take (css.length * n)).drop (i * n + n) = (css.drop (i + 1)).flatten := by
      rw [h4]
      conv => lhs; rw [← List.take_append_drop (i + 1) css]
      have : (css.take (i + 1)).flatten.length = i * n + n := by
        rw [flatN _ (fun x hx => h.len x (List.mem_of_mem_take hx)), List.length_take, Nat.min_eq_left (by omega), Nat.add_mul, Nat.one_mul]
      rw [List.flatten_append, ← this, List.drop_left]
    rw [List.length_set, List.set_eq_take_append_cons_drop, if_pos hi, List.flatten_append, List.flatten_cons, ← e3]
    rw [take_splice _ _ _ _ _ hin (by omega) hl, e1, List.append_assoc]
/-- What a message's cells are. -/
def IsMI (cs : List Value) : Prop := ∃ (m : Msg) (h : Bool) (A : Option Addr) (c : Nat) (B : Option Addr) (d : Nat), cs = (#[.int .i8 (Msg.kind m), .int .i64 (Msg.frm m), .int .i64 (Msg.to m), .int .i64 (Msg.boot m), .int .i64 (Msg.server m), .int .i64 (Msg.number m), .int .i64 (Msg.node m), .int .i64 (Msg.lease m), .int .i64 (Msg.epoch m), .int .i64 (Msg.version m), .int .i64 (Msg.e m), .slice B (Msg.steps m).length d, .int .i64 (Msg.tree m).id, .int .i64 (Msg.tree m).kind, .string (Msg.tree m).text, .slice A (Msg.tree m).kids.length c, .bool h] : Array Value).toList
def toOf (cs : List Value) : Int := match cs[2]? with | some (Value.int _ n) => n | _ => 0
theorem ItemC.mi {ok : Nat → Prop} {w : World} {x : Msg × Bool} {cs : List Value} (h : ItemC ok w x cs) : IsMI cs ∧ toOf cs = x.1.to := by
  obtain ⟨A, c, B, d, rfl, _⟩ := h
  exact ⟨⟨x.1, x.2, A, c, B, d, rfl⟩, rfl⟩
theorem IsMI.one {cs : List Value} (h : IsMI cs) : ∀ u ∈ cs, u.oneCell' = true := by
  obtain ⟨m, h, A, c, B, d, rfl⟩ := h
  simp [Value.oneCell']
theorem IsMI.len {cs : List Value} (h : IsMI cs) : cs.length = 17 := by
  obtain ⟨m, h, A, c, B, d, rfl⟩ := h
  rfl
set_option maxHeartbeats 4000000 in
theorem del_any (w : World) (m : Msg) (h : Bool) (A : Option Addr) (c : Nat) (B : Option Addr) (d : Nat) (a : Nat) (ad : Int) (ha : w.cell? ⟨a, 0, none⟩ = some (.int .i64 ad)) :
    Calls Try.prog 82 #[.agg #[.int .i8 (Msg.kind m), .int .i64 (Msg.frm m), .int .i64 (Msg.to m), .int .i64 (Msg.boot m), .int .i64 (Msg.server m), .int .i64 (Msg.number m), .int .i64 (Msg.node m), .int .i64 (Msg.lease m), .int .i64 (Msg.epoch m), .int .i64 (Msg.version m), .int .i64 (Msg.e m), .slice B (Msg.steps m).length d, .int .i64 (Msg.tree m).id, .int .i64 (Msg.tree m).kind, .string (Msg.tree m).text, .slice A (Msg.tree m).kids.length c, .bool h], .pointer (some ⟨a, 0, none⟩)] w fun e w' => e = .returned (.bool (m.to == ad)) ∧ Chg [] w w' := by
  have hCb : Chg [] w (w.alloc (.cells #[.int .i8 (Msg.kind m), .int .i64 (Msg.frm m), .int .i64 (Msg.to m), .int .i64 (Msg.boot m), .int .i64 (Msg.server m), .int .i64 (Msg.number m), .int .i64 (Msg.node m), .int .i64 (Msg.lease m), .int .i64 (Msg.epoch m), .int .i64 (Msg.version m), .int .i64 (Msg.e m), .slice B (Msg.steps m).length d, .int .i64 (Msg.tree m).id, .int .i64 (Msg.tree m).kind, .string (Msg.tree m).text, .slice A (Msg.tree m).kids.length c, .bool h] 139)) := (by with_reducible repeat (first | exact Chg.refl _ _ | apply Chg.alloc | apply Chg.drew | apply Chg.drewN | (refine Chg.setCell ?_ _ _ (by simp))))
  have c0 := hCb.cell ha (by simp)
  have HC := Lib.hid hCb
  clear hCb ha
  go_enter Try.func82, Try.ntmps82
  go_wp2
  go_ret
  exact ⟨rfl, HC.out⟩
def idxF (ad : Int) : List (List Value) → Nat → Int
  | [], _ => -1
  | c :: r, k => if toOf c = ad then k else idxF ad r (k + 1)
set_option maxHeartbeats 4000000 in
set_option maxRecDepth 100000 in
theorem index_any (w : World) (b cb n : Nat) (css : List (List Value)) (hR : RowR w 17 139 0 (.slice (some ⟨b, 0, none⟩) n cb) css) (hn : css.length = n) (hn2 : n ≤ 1024) (hm : ∀ cs ∈ css, IsMI cs) (a : Nat) (ad : Int) (ha : w.cell? ⟨a, 0, none⟩ = some (.int .i64 ad)) :
    Calls Try.prog 104 #[.slice (some ⟨b, 0, none⟩) n cb, .func (.func 82) #[] #[.pointer (some ⟨a, 0, none⟩)]] w fun e w' => e = .returned (.int .i64 (idxF ad css 0)) ∧ Chg [] w w' := by
  have hsz : (Try.prog.info? 139).map (·.size) = some 17 := by kernel_rfl
  have HV := Lib.hid (And.intro hR (And.intro hm (And.intro ha (And.intro hsz hn))))
  clear hR hm ha hsz hn
  go_enter Try.func104, Try.ntmps104
  go_wp2
  go_loopw [8] (fun i wr => ∃ k : Nat, k ≤ n ∧ i = .int .i64 k ∧ Chg [] w wr ∧ idxF ad (css.drop k) k = idxF ad css 0) (fun i _ => n - (intOf i).toNat)
  case atStart => exact ⟨0, Nat.zero_le _, rfl, Chg.refl _ _, rfl⟩
  case round =>
    obtain ⟨k, hk, rfl, hc, hi⟩ := hrel
    by_cases hlt : k < n
    · have hkc : k < css.length := by rw [HV.out.2.2.2.2]; exact hlt
      obtain ⟨m, h, A, c, B, d, hcs⟩ := HV.out.2.1 _ (List.getElem_mem hkc)
      obtain ⟨g', c', C, hv, _, hb, _, _, _, _, hrg⟩ := HV.out.1.block (by omega)
      injection hv with hv1 hv2 hv3
      clear hv2 hv3
      injection hv1 with hv1
      injection hv1 with hv1
      subst hv1
      have hr := hc.range (hrg k hkc) (by simp)
      rw [hcs] at hr
      rw [List.drop_eq_getElem_cons hkc, hcs, idxF, show toOf (#[.int .i8 (Msg.kind m), .int .i64 (Msg.frm m), .int .i64 (Msg.to m), .int .i64 (Msg.boot m), .int .i64 (Msg.server m), .int .i64 (Msg.number m), .int .i64 (Msg.node m), .int .i64 (Msg.lease m), .int .i64 (Msg.epoch m), .int .i64 (Msg.version m), .int .i64 (Msg.e m), .slice B (Msg.steps m).length d, .int .i64 (Msg.tree m).id, .int .i64 (Msg.tree m).kind, .string (Msg.tree m).text, .slice A (Msg.tree m).kids.length c, .bool h] : Array Value).toList = m.to from rfl] at hi
      have hdel := del_any wr m h A c B d a ad (hc.cell HV.out.2.2.1 (by simp))
      have HX := Lib.hid (And.intro hr (And.intro hc (And.intro hdel hi)))
      clear hr hc hdel hi hcs hb hrg
      by_cases ht : m.to = ad
      · have hd : (m.to == ad) = true := by simpa using ht
        have HT := Lib.hid ht
        clear ht
        go_wp2_with (first
          | (refine wpList_load_mid rfl 139 (.tmp 14) rfl b (k * 17) rfl (#[.int .i8 (Msg.kind m), .int .i64 (Msg.frm m), .int .i64 (Msg.to m), .int .i64 (Msg.boot m), .int .i64 (Msg.server m), .int .i64 (Msg.number m), .int .i64 (Msg.node m), .int .i64 (Msg.lease m), .int .i64 (Msg.epoch m), .int .i64 (Msg.version m), .int .i64 (Msg.e m), .slice B (Msg.steps m).length d, .int .i64 (Msg.tree m).id, .int .i64 (Msg.tree m).kind, .string (Msg.tree m).text, .slice A (Msg.tree m).kids.length c, .bool h] : Array Value).toList _ HX.out.1 Try.underlying139 rfl HV.out.2.2.2.1 ?_)
          | (go_at_call 82; refine HX.out.2.2.1.mono ?_; rintro e W1 ⟨rfl, hW1⟩; rw [hd]; have HW := Lib.hid hW1; clear hW1)
          | fail)
        go_ret
        refine ⟨?_, HX.out.2.1.trans HW.out⟩
        rw [← HX.out.2.2.2, if_pos HT.out]
        rfl
      · have hd : (m.to == ad) = false := by simpa using ht
        have HT := Lib.hid ht
        clear ht
        go_wp2_with (first
          | (refine wpList_load_mid rfl 139 (.tmp 14) rfl b (k * 17) rfl (#[.int .i8 (Msg.kind m), .int .i64 (Msg.frm m), .int .i64 (Msg.to m), .int .i64 (Msg.boot m), .int .i64 (Msg.server m), .int .i64 (Msg.number m), .int .i64 (Msg.node m), .int .i64 (Msg.lease m), .int .i64 (Msg.epoch m), .int .i64 (Msg.version m), .int .i64 (Msg.e m), .slice B (Msg.steps m).length d, .int .i64 (Msg.tree m).id, .int .i64 (Msg.tree m).kind, .string (Msg.tree m).text, .slice A (Msg.tree m).kids.length c, .bool h] : Array Value).toList _ HX.out.1 Try.underlying139 rfl HV.out.2.2.2.1 ?_)
          | (go_at_call 82; refine HX.out.2.2.1.mono ?_; rintro e W1 ⟨rfl, hW1⟩; rw [hd]; have HW := Lib.hid hW1; clear hW1)
          | fail)
        go_roundw
        case rel => exact ⟨k + 1, by omega, by go_num, HX.out.2.1.trans HW.out, by rw [← HX.out.2.2.2, if_neg HT.out]⟩
        case measure => simp [intOf]; omega
    · have hke : css.drop k = [] := by rw [List.drop_eq_nil_iff, HV.out.2.2.2.2]; omega
      rw [hke, idxF] at hi
      have HX := Lib.hid (And.intro hc hi)
      clear hc hi hke
      go_wp2
      go_ret
      exact ⟨by rw [← HX.out.2]; rfl, HX.out.1⟩
end Go.Proofs.Ytipijkpjmpejlaa
