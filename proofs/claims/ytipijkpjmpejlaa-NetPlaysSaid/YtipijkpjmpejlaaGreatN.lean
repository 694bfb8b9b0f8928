import Derived.Test.YtipijkpjmpejlaaStepN3
import Derived.Test.YtipijkpjmpejlaaTreeW2
/- The contracts of allotmentref01.Great and of the law's great. -/
set_option linter.unusedVariables false
set_option linter.unusedSimpArgs false
namespace Go.Proofs.Ytipijkpjmpejlaa
open Go.RowKit
def GreatPost (P : Prop) (w : World) (e : Ending) (w' : World) : Prop := ∃ b : Bool, e = .returned (.bool b) ∧ (b = false → P) ∧ Chg [] w w'
set_option maxHeartbeats 4000000 in
set_option maxRecDepth 100000 in
theorem greatT_any (t : Tr) (A : Option Addr) (c : Nat) (w : World) (hT : TrC (fun g => g < w.heap.size) w t (#[.int .i64 (Tr.id t), .int .i64 (Tr.kind t), .string (Tr.text t), .slice A (Tr.kids t).length c] : Array Value).toList) : Calls Try.prog 85 #[.agg #[.int .i64 (Tr.id t), .int .i64 (Tr.kind t), .string (Tr.text t), .slice A (Tr.kids t).length c]] w (GreatPost (t.nodes ≤ 2000) w) := by
  have hA : Chg [] w (w.alloc (.cells #[.int .i64 (Tr.id t), .int .i64 (Tr.kind t), .string (Tr.text t), .slice A (Tr.kids t).length c] 37)) := (by with_reducible repeat (first | exact Chg.refl _ _ | apply Chg.alloc | apply Chg.drew | apply Chg.drewN | (refine Chg.setCell ?_ _ _ (by simp))))
  have hc := walkT_any w.heap.size 2001 (by omega) t A c (w.alloc (.cells #[.int .i64 (Tr.id t), .int .i64 (Tr.kind t), .string (Tr.text t), .slice A (Tr.kids t).length c] 37)) (hT.kept hA (by simp)) (by simp)
  have HC := Lib.hid (And.intro hc hA)
  clear hc hA hT
  have hwl : ((t.walk 1).take 2001).length = min 2001 t.nodes := by rw [List.length_take, Tr.walk_length]
  generalize hL : (t.walk 1).take 2001 = L at HC hwl
  clear hL
  have HN := Lib.hid (show ¬ 2000 < L.length → t.nodes ≤ 2000 by omega)
  have hLl : L.length ≤ 2001 := by omega
  clear hwl
  by_cases hg : 2000 < L.length
  · have hg' : (2000 : Int) < L.length := by omega
    go_enter Try.func85, Try.ntmps85
    go_wp2_with (go_at_call 106; refine HC.out.1.mono ?_; rintro e X ⟨v, rfl, hR, hX⟩; obtain ⟨Av, cv, rfl⟩ := hR.slice; have HX := Lib.hid (And.intro hR (HC.out.2.trans hX)); clear hR hX)
    go_ret
    exact ⟨true, rfl, (fun h => by cases h), HX.out.2⟩
  · have hg' : ¬ (2000 : Int) < L.length := by omega
    have HG := Lib.hid hg
    clear hg
    go_enter Try.func85, Try.ntmps85
    go_wp2_with (go_at_call 106; refine HC.out.1.mono ?_; rintro e X ⟨v, rfl, hR, hX⟩; obtain ⟨Av, cv, rfl⟩ := hR.slice; have HX := Lib.hid (And.intro hR (HC.out.2.trans hX)); clear hR hX)
    go_loop [4] (fun i => ∃ k : Nat, k ≤ L.length ∧ i = .int .i64 k) (fun i => L.length - (intOf i).toNat)
    case atStart => exact ⟨0, Nat.zero_le _, rfl⟩
    case round =>
      obtain ⟨k, hk, rfl⟩ := hrel
      by_cases hlt : k < L.length
      · obtain ⟨g, c', A', cA, hv, _, _, hr⟩ := HX.out.1.at hlt
        injection hv with hv1 hv2 hv3
        clear hv2
        subst hv1 hv3
        have h4 : X.cell? ⟨g, k * 5 + 4, none⟩ = some (.int .i64 (L[k]).2) := hr 4 _ rfl
        clear hr
        generalize (L[k]).2 = dd at h4
        by_cases hd : (2000 : Int) < dd
        · go_wp2
          go_ret
          exact ⟨true, rfl, (fun h => by cases h), HX.out.2⟩
        · go_wp2
          go_round
          case rel => exact ⟨k + 1, by omega, by go_num⟩
          case measure => simp [intOf]; omega
      · go_wp2
        go_ret
        exact ⟨false, rfl, fun _ => HN.out HG.out, HX.out.2⟩
/-- An act. -/
structure ActM where
  dv : Int
  kv : Int
  m : Msg
/-- Acts in memory. -/
def ActsC (w : World) (A : Option Addr) (xs : List ActM) : Prop := ∀ i (h : i < xs.length), ∃ B o At ct Bs ds, A = some ⟨B, o, none⟩ ∧ w.rangeAt B (o + i * 18) (#[.int .i64 (xs[i].dv), .int .i64 (xs[i].kv), .int .i8 (Msg.kind (xs[i].m)), .int .i64 (Msg.frm (xs[i].m)), .int .i64 (Msg.to (xs[i].m)), .int .i64 (Msg.boot (xs[i].m)), .int .i64 (Msg.server (xs[i].m)), .int .i64 (Msg.number (xs[i].m)), .int .i64 (Msg.node (xs[i].m)), .int .i64 (Msg.lease (xs[i].m)), .int .i64 (Msg.epoch (xs[i].m)), .int .i64 (Msg.version (xs[i].m)), .int .i64 (Msg.e (xs[i].m)), .slice Bs (Msg.steps (xs[i].m)).length ds, .int .i64 (Msg.tree (xs[i].m)).id, .int .i64 (Msg.tree (xs[i].m)).kind, .string (Msg.tree (xs[i].m)).text, .slice At (Msg.tree (xs[i].m)).kids.length ct] : Array Value).toList ∧ MsgC (fun b => b < w.heap.size) w (xs[i]).m At ct Bs ds
theorem ActsC.kept {w w' : World} {A : Option Addr} {xs : List ActM} (h : ActsC w A xs) (hc : Chg [] w w') : ∀ i (h : i < xs.length), ∃ B o At ct Bs ds, A = some ⟨B, o, none⟩ ∧ w'.rangeAt B (o + i * 18) (#[.int .i64 (xs[i].dv), .int .i64 (xs[i].kv), .int .i8 (Msg.kind (xs[i].m)), .int .i64 (Msg.frm (xs[i].m)), .int .i64 (Msg.to (xs[i].m)), .int .i64 (Msg.boot (xs[i].m)), .int .i64 (Msg.server (xs[i].m)), .int .i64 (Msg.number (xs[i].m)), .int .i64 (Msg.node (xs[i].m)), .int .i64 (Msg.lease (xs[i].m)), .int .i64 (Msg.epoch (xs[i].m)), .int .i64 (Msg.version (xs[i].m)), .int .i64 (Msg.e (xs[i].m)), .slice Bs (Msg.steps (xs[i].m)).length ds, .int .i64 (Msg.tree (xs[i].m)).id, .int .i64 (Msg.tree (xs[i].m)).kind, .string (Msg.tree (xs[i].m)).text, .slice At (Msg.tree (xs[i].m)).kids.length ct] : Array Value).toList ∧ MsgC (fun b => b < w.heap.size) w' (xs[i]).m At ct Bs ds := fun i hi => by
  obtain ⟨B, o, At, ct, Bs, ds, e, hr, hM⟩ := h i hi
  exact ⟨B, o, At, ct, Bs, ds, e, hc.range hr (by simp), hM.kept hc (by simp)⟩
def Fit2 (m : Msg) : Prop := m.tree.nodes ≤ 2000 ∧ m.steps.length ≤ 60 ∧ ∀ s ∈ m.steps, s.sub.nodes ≤ 2000
theorem Fit2.fit {m : Msg} (h : Fit2 m) : m.Fit := ⟨by have := h.1; omega, by have := h.2.1; omega, fun s hs => by have := h.2.2 s hs; omega⟩
set_option maxHeartbeats 8000000 in
set_option maxRecDepth 100000 in
theorem great_any (xs : List ActM) (A : Option Addr) (c : Nat) (w : World) (hn : xs.length ≤ 9223372036854775807) (hA : ActsC w A xs) : Calls Try.prog 52 #[.slice A xs.length c] w (GreatPost (xs.length ≤ 1100 ∧ ∀ i (h : i < xs.length), Fit2 (xs[i].m)) w) := by
  have hm : (Try.prog.info? 39).map (·.size) = some 16 := infoMsg
  have HV := Lib.hid (And.intro hA hm)
  clear hA hm
  by_cases h1 : 1100 < xs.length
  · have h1' : (1100 : Int) < xs.length := by omega
    go_enter Try.func52, Try.ntmps52
    go_wp2
    go_ret
    exact ⟨true, rfl, (fun h => by cases h), Chg.refl _ _⟩
  · have h1' : ¬ (1100 : Int) < xs.length := by omega
    have hn11 : xs.length ≤ 1100 := by omega
    clear h1
    go_enter Try.func52, Try.ntmps52
    go_wp2_with fail
    go_loopw [3] (fun i wr => ∃ j : Nat, j ≤ xs.length ∧ i = .int .i64 j ∧ Hid (Chg [] w wr ∧ ∀ q (h : q < xs.length), q < j → Fit2 (xs[q].m))) (fun i _ => xs.length - (intOf i).toNat)
    case atStart => exact ⟨0, Nat.zero_le _, rfl, Lib.hid ⟨Chg.refl _ _, fun q _ h => by omega⟩⟩
    case round =>
      obtain ⟨j, hj, rfl, HJ⟩ := hrel
      generalize wr = wo at *
      by_cases hlt : j < xs.length
      · obtain ⟨B, o, At, ct, Bs, ds, rfl, hr, hM⟩ := HV.out.1.kept HJ.out.1 j hlt
        have hxm : ∀ q (h : q < xs.length), q < j + 1 → (q < j → Fit2 (xs[q].m)) → Fit2 (xs[j].m) → Fit2 (xs[q].m) := fun q h h2 h3 h4 => by
          rcases Nat.lt_or_ge q j with h5 | h5
          · exact h3 h5
          · obtain rfl : q = j := by omega
            exact h4
        generalize hxj : xs[j] = x at *
        obtain ⟨dv, kv, m⟩ := x
        have hr16 : wo.rangeAt B (o + j * 18 + 2) (#[.int .i8 (Msg.kind m), .int .i64 (Msg.frm m), .int .i64 (Msg.to m), .int .i64 (Msg.boot m), .int .i64 (Msg.server m), .int .i64 (Msg.number m), .int .i64 (Msg.node m), .int .i64 (Msg.lease m), .int .i64 (Msg.epoch m), .int .i64 (Msg.version m), .int .i64 (Msg.e m), .slice Bs (Msg.steps m).length ds, .int .i64 (Msg.tree m).id, .int .i64 (Msg.tree m).kind, .string (Msg.tree m).text, .slice At (Msg.tree m).kids.length ct] : Array Value).toList := fun q u hu => by
          have := hr (2 + q) u (by rw [show (#[.int .i64 dv, .int .i64 kv, .int .i8 (Msg.kind m), .int .i64 (Msg.frm m), .int .i64 (Msg.to m), .int .i64 (Msg.boot m), .int .i64 (Msg.server m), .int .i64 (Msg.number m), .int .i64 (Msg.node m), .int .i64 (Msg.lease m), .int .i64 (Msg.epoch m), .int .i64 (Msg.version m), .int .i64 (Msg.e m), .slice Bs (Msg.steps m).length ds, .int .i64 (Msg.tree m).id, .int .i64 (Msg.tree m).kind, .string (Msg.tree m).text, .slice At (Msg.tree m).kids.length ct] : Array Value).toList = [.int .i64 dv, .int .i64 kv] ++ (#[.int .i8 (Msg.kind m), .int .i64 (Msg.frm m), .int .i64 (Msg.to m), .int .i64 (Msg.boot m), .int .i64 (Msg.server m), .int .i64 (Msg.number m), .int .i64 (Msg.node m), .int .i64 (Msg.lease m), .int .i64 (Msg.epoch m), .int .i64 (Msg.version m), .int .i64 (Msg.e m), .slice Bs (Msg.steps m).length ds, .int .i64 (Msg.tree m).id, .int .i64 (Msg.tree m).kind, .string (Msg.tree m).text, .slice At (Msg.tree m).kids.length ct] : Array Value).toList from rfl, List.getElem?_append_right (by simp)]; simpa using hu)
          rwa [show o + j * 18 + (2 + q) = o + j * 18 + 2 + q from by omega] at this
        obtain ⟨W1, hW1⟩ : ∃ W1, W1 = wo.alloc (.cells #[.int .i8 (Msg.kind m), .int .i64 (Msg.frm m), .int .i64 (Msg.to m), .int .i64 (Msg.boot m), .int .i64 (Msg.server m), .int .i64 (Msg.number m), .int .i64 (Msg.node m), .int .i64 (Msg.lease m), .int .i64 (Msg.epoch m), .int .i64 (Msg.version m), .int .i64 (Msg.e m), .slice Bs (Msg.steps m).length ds, .int .i64 (Msg.tree m).id, .int .i64 (Msg.tree m).kind, .string (Msg.tree m).text, .slice At (Msg.tree m).kids.length ct] 39) := ⟨_, rfl⟩
        have hW1c : Chg [] wo W1 := by rw [hW1]; exact (by with_reducible repeat (first | exact Chg.refl _ _ | apply Chg.alloc | apply Chg.drew | apply Chg.drewN | (refine Chg.setCell ?_ _ _ (by simp))))
        have hb1 : W1.heap[wo.heap.size]? = some (.cells #[.int .i8 (Msg.kind m), .int .i64 (Msg.frm m), .int .i64 (Msg.to m), .int .i64 (Msg.boot m), .int .i64 (Msg.server m), .int .i64 (Msg.number m), .int .i64 (Msg.node m), .int .i64 (Msg.lease m), .int .i64 (Msg.epoch m), .int .i64 (Msg.version m), .int .i64 (Msg.e m), .slice Bs (Msg.steps m).length ds, .int .i64 (Msg.tree m).id, .int .i64 (Msg.tree m).kind, .string (Msg.tree m).text, .slice At (Msg.tree m).kids.length ct] 39 (0, 0)) := by rw [hW1]; exact heap_new _ _ rfl
        have h1c : (#[.int .i8 (Msg.kind m), .int .i64 (Msg.frm m), .int .i64 (Msg.to m), .int .i64 (Msg.boot m), .int .i64 (Msg.server m), .int .i64 (Msg.number m), .int .i64 (Msg.node m), .int .i64 (Msg.lease m), .int .i64 (Msg.epoch m), .int .i64 (Msg.version m), .int .i64 (Msg.e m), .slice Bs (Msg.steps m).length ds, .int .i64 (Msg.tree m).id, .int .i64 (Msg.tree m).kind, .string (Msg.tree m).text, .slice At (Msg.tree m).kids.length ct] : Array Value).all (·.oneCell') = true := by simp [Value.oneCell']
        have hr4 : W1.rangeAt wo.heap.size 12 (#[.int .i64 (Tr.id m.tree), .int .i64 (Tr.kind m.tree), .string (Tr.text m.tree), .slice At (Tr.kids m.tree).length ct] : Array Value).toList := range_of_block (cs := (#[.int .i8 (Msg.kind m), .int .i64 (Msg.frm m), .int .i64 (Msg.to m), .int .i64 (Msg.boot m), .int .i64 (Msg.server m), .int .i64 (Msg.number m), .int .i64 (Msg.node m), .int .i64 (Msg.lease m), .int .i64 (Msg.epoch m), .int .i64 (Msg.version m), .int .i64 (Msg.e m), .slice Bs (Msg.steps m).length ds, .int .i64 (Msg.tree m).id, .int .i64 (Msg.tree m).kind, .string (Msg.tree m).text, .slice At (Msg.tree m).kids.length ct] : Array Value).toList) hb1 12 4
        have c11 : W1.cell? ⟨wo.heap.size, 11, none⟩ = some (.slice Bs m.steps.length ds) := range_all hb1 11 _ rfl
        have hgt := greatT_any m.tree At ct W1 ((hM.tree.kept hW1c (by simp)).weak (fun b hb hlt => hlt))
        have hstl : m.steps.length ≤ 9223372036854775807 := Nat.le_trans hM.cap hM.top
        have HX := Lib.hid (And.intro hr16 (And.intro (Eq.symm hW1) (And.intro hW1c (And.intro hb1 (And.intro h1c (And.intro hr4 (And.intro hgt (And.intro hM hxm))))))))
        clear hr hr16 hW1 hW1c hb1 h1c hr4 hgt hM hxm
        by_cases h60 : 60 < m.steps.length
        · have h60' : (60 : Int) < m.steps.length := by omega
          go_wp2_with (first
            | (refine wpList_load_mid rfl 39 (.tmp 18) rfl B (o + j * 18 + 2) rfl (#[.int .i8 (Msg.kind m), .int .i64 (Msg.frm m), .int .i64 (Msg.to m), .int .i64 (Msg.boot m), .int .i64 (Msg.server m), .int .i64 (Msg.number m), .int .i64 (Msg.node m), .int .i64 (Msg.lease m), .int .i64 (Msg.epoch m), .int .i64 (Msg.version m), .int .i64 (Msg.e m), .slice Bs (Msg.steps m).length ds, .int .i64 (Msg.tree m).id, .int .i64 (Msg.tree m).kind, .string (Msg.tree m).text, .slice At (Msg.tree m).kids.length ct] : Array Value).toList _ HX.out.1 Try.underlying39 rfl HV.out.2 ?_)
            | (refine wpList_store_row rfl 39 (.tmp 4) (.tmp 19) rfl wo.heap.size rfl #[.int .i8 (Msg.kind m), .int .i64 (Msg.frm m), .int .i64 (Msg.to m), .int .i64 (Msg.boot m), .int .i64 (Msg.server m), .int .i64 (Msg.number m), .int .i64 (Msg.node m), .int .i64 (Msg.lease m), .int .i64 (Msg.epoch m), .int .i64 (Msg.version m), .int .i64 (Msg.e m), .slice Bs (Msg.steps m).length ds, .int .i64 (Msg.tree m).id, .int .i64 (Msg.tree m).kind, .string (Msg.tree m).text, .slice At (Msg.tree m).kids.length ct] rfl _ _ (heap_new _ _ rfl) HV.out.2 rfl HX.out.2.2.2.2.1 ?_; rw [setRow_new, HX.out.2.1])
            | fail)
          go_ret
          exact ⟨true, rfl, (fun h => by cases h), HJ.out.1.trans HX.out.2.2.1⟩
        · have h60' : ¬ (60 : Int) < m.steps.length := by omega
          go_wp2_with (first
            | (refine wpList_load_mid rfl 39 (.tmp 18) rfl B (o + j * 18 + 2) rfl (#[.int .i8 (Msg.kind m), .int .i64 (Msg.frm m), .int .i64 (Msg.to m), .int .i64 (Msg.boot m), .int .i64 (Msg.server m), .int .i64 (Msg.number m), .int .i64 (Msg.node m), .int .i64 (Msg.lease m), .int .i64 (Msg.epoch m), .int .i64 (Msg.version m), .int .i64 (Msg.e m), .slice Bs (Msg.steps m).length ds, .int .i64 (Msg.tree m).id, .int .i64 (Msg.tree m).kind, .string (Msg.tree m).text, .slice At (Msg.tree m).kids.length ct] : Array Value).toList _ HX.out.1 Try.underlying39 rfl HV.out.2 ?_)
            | (refine wpList_store_row rfl 39 (.tmp 4) (.tmp 19) rfl wo.heap.size rfl #[.int .i8 (Msg.kind m), .int .i64 (Msg.frm m), .int .i64 (Msg.to m), .int .i64 (Msg.boot m), .int .i64 (Msg.server m), .int .i64 (Msg.number m), .int .i64 (Msg.node m), .int .i64 (Msg.lease m), .int .i64 (Msg.epoch m), .int .i64 (Msg.version m), .int .i64 (Msg.e m), .slice Bs (Msg.steps m).length ds, .int .i64 (Msg.tree m).id, .int .i64 (Msg.tree m).kind, .string (Msg.tree m).text, .slice At (Msg.tree m).kids.length ct] rfl _ _ (heap_new _ _ rfl) HV.out.2 rfl HX.out.2.2.2.2.1 ?_; rw [setRow_new, HX.out.2.1])
            | (refine wpList_guard rfl (exec_load_mid 37 (.tmp 25) rfl wo.heap.size 12 rfl (#[.int .i64 (Tr.id m.tree), .int .i64 (Tr.kind m.tree), .string (Tr.text m.tree), .slice At (Tr.kids m.tree).length ct] : Array Value).toList _ HX.out.2.2.2.2.2.1 Try.underlying37 rfl szNode) ?_)
            | fail)
          refine HX.out.2.2.2.2.2.2.1.mono ?_
          rintro e Y ⟨bb, rfl, hbb, hY⟩
          have hYb := hY.at HX.out.2.2.2.1 (by simp)
          have hY11 : Y.cell? ⟨wo.heap.size, 11, none⟩ = some (.slice Bs m.steps.length ds) := range_all hYb 11 _ rfl
          have HY := Lib.hid (And.intro hbb (And.intro (HX.out.2.2.1.trans hY) hYb))
          clear hbb hY hYb c11
          cases bb with
          | true =>
            go_wp2
            go_ret
            exact ⟨true, rfl, (fun h => by cases h), HJ.out.1.trans HY.out.2.1⟩
          | false =>
            go_wp2_with fail
            go_loopw [5] (fun i wr => ∃ k : Nat, k ≤ m.steps.length ∧ i = .int .i64 k ∧ Hid (Chg [] wo wr ∧ wr.heap[wo.heap.size]? = some (.cells #[.int .i8 (Msg.kind m), .int .i64 (Msg.frm m), .int .i64 (Msg.to m), .int .i64 (Msg.boot m), .int .i64 (Msg.server m), .int .i64 (Msg.number m), .int .i64 (Msg.node m), .int .i64 (Msg.lease m), .int .i64 (Msg.epoch m), .int .i64 (Msg.version m), .int .i64 (Msg.e m), .slice Bs (Msg.steps m).length ds, .int .i64 (Msg.tree m).id, .int .i64 (Msg.tree m).kind, .string (Msg.tree m).text, .slice At (Msg.tree m).kids.length ct] 39 (0, 0)) ∧ ∀ q (h : q < m.steps.length), q < k → (m.steps[q]).sub.nodes ≤ 2000)) (fun i _ => m.steps.length - (intOf i).toNat)
            case atStart => exact ⟨0, Nat.zero_le _, rfl, Lib.hid ⟨HY.out.2.1, HY.out.2.2, fun q _ h => by omega⟩⟩
            case round =>
              clear hY11
              obtain ⟨k, hk, rfl, HK⟩ := hrel
              have hz11 : wr.cell? ⟨wo.heap.size, 11, none⟩ = some (.slice Bs m.steps.length ds) := range_all HK.out.2.1 11 _ rfl
              by_cases hkl : k < m.steps.length
              · obtain ⟨gs, os, Ak, ck, rfl, _, hrs, hts⟩ := (HX.out.2.2.2.2.2.2.2.1.steps.kept HK.out.1 (by simp)).at hkl
                have hr4 : wr.rangeAt gs (os + k * 9 + 5) (#[.int .i64 (Tr.id (m.steps[k]).sub), .int .i64 (Tr.kind (m.steps[k]).sub), .string (Tr.text (m.steps[k]).sub), .slice Ak (Tr.kids (m.steps[k]).sub).length ck] : Array Value).toList := fun q u hu => by
                  have hq : q < 4 := by have := (List.getElem?_eq_some_iff.1 hu).1; simpa using this
                  have := hrs (5 + q) u (by rw [show (#[.int .i8 (Stp.op (m.steps[k])), .int .i64 (Stp.id (m.steps[k])), .int .i64 (Stp.par (m.steps[k])), .int .i64 (Stp.place (m.steps[k])), .string (Stp.text (m.steps[k])), .int .i64 (Tr.id (Stp.sub (m.steps[k]))), .int .i64 (Tr.kind (Stp.sub (m.steps[k]))), .string (Tr.text (Stp.sub (m.steps[k]))), .slice Ak (Tr.kids (Stp.sub (m.steps[k]))).length ck] : Array Value).toList = [.int .i8 (m.steps[k]).op, .int .i64 (m.steps[k]).id, .int .i64 (m.steps[k]).par, .int .i64 (m.steps[k]).place, .string (m.steps[k]).text] ++ (#[.int .i64 (Tr.id (m.steps[k]).sub), .int .i64 (Tr.kind (m.steps[k]).sub), .string (Tr.text (m.steps[k]).sub), .slice Ak (Tr.kids (m.steps[k]).sub).length ck] : Array Value).toList from rfl, List.getElem?_append_right (by simp)]; simpa using hu)
                  rwa [show os + k * 9 + (5 + q) = os + k * 9 + 5 + q from by omega] at this
                have hgs := greatT_any (m.steps[k]).sub Ak ck wr (hts.weak (fun b hb hlt => hlt))
                have hnx : ∀ q (h : q < m.steps.length), q < k + 1 → (m.steps[k]).sub.nodes ≤ 2000 → (m.steps[q]).sub.nodes ≤ 2000 := fun q h h2 h3 => by
                  rcases Nat.lt_or_ge q k with h5 | h5
                  · exact HK.out.2.2 q h h5
                  · obtain rfl : q = k := by omega
                    exact h3
                have HS := Lib.hid (And.intro hr4 (And.intro hgs hnx))
                clear hrs hts hr4 hgs hnx
                generalize m.steps[k] = s at *
                go_wp2_with (first
                  | (refine wpList_load_mid rfl 37 (.tmp 40) rfl gs (os + k * 9 + 5) rfl (#[.int .i64 (Tr.id s.sub), .int .i64 (Tr.kind s.sub), .string (Tr.text s.sub), .slice Ak (Tr.kids s.sub).length ck] : Array Value).toList _ HS.out.1 Try.underlying37 rfl szNode ?_)
                  | fail)
                refine HS.out.2.1.mono ?_
                rintro e Z ⟨bz, rfl, hbz, hZ⟩
                have HZ := Lib.hid (And.intro hbz (And.intro (HK.out.1.trans hZ) (hZ.at HK.out.2.1 (by simp))))
                clear hbz hZ hz11
                cases bz with
                | true =>
                  go_wp2
                  go_ret
                  exact ⟨true, rfl, (fun h => by cases h), HJ.out.1.trans HZ.out.2.1⟩
                | false =>
                  go_wp2_with fail
                  go_roundw
                  case rel => exact ⟨k + 1, by omega, by go_num, Lib.hid ⟨HZ.out.2.1, HZ.out.2.2, fun q h h2 => HS.out.2.2 q h h2 (HZ.out.1 trivial)⟩⟩
                  case measure => simp [intOf]; omega
              · go_wp2_with fail
                go_roundw
                case rel =>
                  refine ⟨j + 1, by omega, by go_num, Lib.hid ⟨HJ.out.1.trans HK.out.1, fun q h h2 => HX.out.2.2.2.2.2.2.2.2 q h h2 (HJ.out.2 q h) ⟨HY.out.1 trivial, by omega, fun s hs => ?_⟩⟩⟩
                  obtain ⟨q, hq, rfl⟩ := List.getElem_of_mem hs
                  exact HK.out.2.2 q hq (by omega)
                case measure => simp [intOf]; omega
      · obtain rfl : j = xs.length := by omega
        go_wp2
        go_ret
        exact ⟨false, rfl, fun _ => ⟨hn11, fun i h => HJ.out.2 i h h⟩, HJ.out.1⟩
end Go.Proofs.Ytipijkpjmpejlaa
