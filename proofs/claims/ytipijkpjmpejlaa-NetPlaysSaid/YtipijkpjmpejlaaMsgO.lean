import Derived.Test.YtipijkpjmpejlaaGreatN
import Derived.Test.YtipijkpjmpejlaaTreeO
import Derived.Test.YtipijkpjmpejlaaOpen
/- What steps, messages and acts that can be read as data look like in memory. -/
set_option linter.unusedVariables false
set_option linter.unusedSimpArgs false
namespace Go.Proofs.Ytipijkpjmpejlaa
open Go.RowKit
theorem cellsStep : Try.prog.cellsOf 148 = 9 := by kernel_rfl
theorem cellsSTS : Try.prog.cellsOf 34 = 1 := by kernel_rfl
theorem cellsI8 : Try.prog.cellsOf 33 = 1 := by kernel_rfl
theorem cellsErr : Try.prog.cellsOf 25 = 1 := by kernel_rfl
theorem cellsMsg : Try.prog.cellsOf 39 = 16 := by kernel_rfl
theorem cellsAct : Try.prog.cellsOf 87 = 18 := by kernel_rfl
theorem list9 {α : Type} {l : List α} (h : l.length = 9) : ∃ a0 a1 a2 a3 a4 a5 a6 a7 a8, l = [a0, a1, a2, a3, a4, a5, a6, a7, a8] := by
  match l, h with
  | [a0, a1, a2, a3, a4, a5, a6, a7, a8], _ => exact ⟨_, _, _, _, _, _, _, _, _, rfl⟩
theorem step_of {H : Type} {enc : TypeId × Value → H} {w : World} {base : Nat} {sp : Nat → Bool} {held : Bool} (fuel : Nat) (cs : List Value) (x : DataW H × List MemPlace) (h : DataW.trod enc Try.prog w base sp held fuel 148 cs = some x) :
    ∃ s : Stp, StpC (fun b => b < w.heap.size) w s cs := by
  cases fuel with
  | zero => simp [DataW.trod] at h
  | succ fuel =>
    obtain ⟨hl, hfs⟩ := trod_struct Try.underlying148 h
    rw [cellsStep] at hl
    obtain ⟨a0, a1, a2, a3, a4, a5, a6, a7, a8, rfl⟩ := list9 hl
    simp only [List.forall_mem_cons] at hfs
    obtain ⟨⟨y0, e0⟩, ⟨y1, e1⟩, ⟨y2, e2⟩, ⟨y3, e3⟩, ⟨y4, e4⟩, ⟨y5, e5⟩, _⟩ := hfs
    obtain ⟨k0, f0, _⟩ := trod_int Try.underlying33 e0
    obtain ⟨k1, f1, _⟩ := trod_int Try.underlying3 e1
    obtain ⟨k2, f2, _⟩ := trod_int Try.underlying3 e2
    obtain ⟨k3, f3, _⟩ := trod_int Try.underlying3 e3
    obtain ⟨s, f4, hs⟩ := trod_string Try.underlying9 e4
    obtain ⟨t, hT⟩ := node_of _ _ _ e5
    obtain ⟨A, c, f5, _⟩ := hT.opens
    rw [f5] at hT
    simp [cellsI8, cellsInt', cellsStr, cellsNode] at f0 f1 f2 f3 f4 f5
    obtain ⟨g5, g6, g7, g8⟩ := f5
    subst f0 f1 f2 f3 f4 g5 g6 g7 g8
    unfold maxLen at hs
    exact ⟨⟨k0, k1, k2, k3, s, t⟩, A, c, rfl, hT, by omega⟩
theorem rangeN_flat {w : World} {b n : Nat} : ∀ (css : List (List Value)) (o : Nat), (∀ cs ∈ css, cs.length = n) → (∀ (i : Nat) cs, css[i]? = some cs → w.rangeAt b (o + i * n) cs) → w.rangeAt b o css.flatten
  | [], _, _, _ => fun q v hv => by simp at hv
  | cs :: css, o, h4, h => fun q v hv => by
    have hl := h4 cs (by simp)
    rw [List.flatten_cons] at hv
    by_cases hq : q < cs.length
    · rw [List.getElem?_append_left hq] at hv
      have := h 0 cs rfl q v hv
      simpa using this
    · rw [List.getElem?_append_right (by omega)] at hv
      have := rangeN_flat css (o + n) (fun c hc => h4 c (by simp [hc])) (fun i c hi => by
        have := h (i + 1) c (by simpa using hi)
        rwa [show o + (i + 1) * n = o + n + i * n by rw [Nat.succ_mul]; omega] at this) (q - cs.length) v hv
      rwa [hl, show o + n + (q - n) = o + q by omega] at this
theorem steps_of {H : Type} {enc : TypeId × Value → H} {w : World} {base : Nat} {sp : Nat → Bool} {held : Bool} {fuel : Nat} {cs : List Value} {x : DataW H × List MemPlace} (h : DataW.trod enc Try.prog w base sp held fuel 34 cs = some x) :
    ∃ (ss : List Stp) (B : Option Addr) (d : Nat), cs = [.slice B ss.length d] ∧ StepsC (fun b => b < w.heap.size) w B ss ∧ ss.length ≤ d ∧ d ≤ 9223372036854775807 ∧ (B = none → d = 0) := by
  obtain ⟨A, len, cap, n, rfl, hlc, hcm, _, hA, hel⟩ := trod_slice' Try.underlying34 (by rw [cellsStep]; omega) h
  unfold maxLen at hcm
  have hk : ∀ i, i < len → ∃ (s : Stp) (cs : List Value) (g o : Nat), A = some ⟨g, o, none⟩ ∧ g < w.heap.size ∧ w.rangeAt g (o + i * 9) cs ∧ StpC (fun b => b < w.heap.size) w s cs := by
    intro i hi
    obtain ⟨B, o, es, y, hA, hl, hr, ht⟩ := hel i hi
    rw [cellsStep] at hl hr
    obtain ⟨s, hT⟩ := step_of _ es y ht
    exact ⟨s, es, B, o, hA, range_lt hr (by omega), hr, hT⟩
  by_cases h0 : len = 0
  · subst h0
    exact ⟨[], A, cap, rfl, .inl rfl, Nat.zero_le _, by omega, fun h => (hA h).2⟩
  · let fs : Nat → Stp := fun i => if h : i < len then (hk i h).choose else ⟨0, 0, 0, 0, ⟨#[]⟩, ⟨0, 0, ⟨#[]⟩, []⟩⟩
    let fc : Nat → List Value := fun i => if h : i < len then (hk i h).choose_spec.choose else []
    have hall : ∀ i, i < len → ∃ g o, A = some ⟨g, o, none⟩ ∧ g < w.heap.size ∧ w.rangeAt g (o + i * 9) (fc i) ∧ StpC (fun b => b < w.heap.size) w (fs i) (fc i) := by
      intro i hi
      have := (hk i hi).choose_spec.choose_spec
      simpa [fs, fc, hi] using this
    obtain ⟨g, o, hAg, hg, _, _⟩ := hall 0 (by omega)
    refine ⟨(List.range len).map fs, A, cap, by simp, .inr ⟨g, o, (List.range len).map fc, hAg, hg, by simp, rangeN_flat (n := 9) _ _ (fun cs hcs => ?_) (fun i cs hi => ?_), fun i s cs hs hc => ?_⟩, by simpa using hlc, by omega, fun h => (hA h).2⟩
    · obtain ⟨i, hi, rfl⟩ := List.mem_map.1 hcs
      obtain ⟨_, _, _, _, _, h4⟩ := hall i (List.mem_range.1 hi)
      exact h4.nine
    · have hlt : i < len := by have := (List.getElem?_eq_some_iff.1 hi).1; simpa using this
      obtain ⟨g', o', h1, _, h3, _⟩ := hall i hlt
      rw [hAg] at h1
      cases h1
      simp [hlt] at hi
      rw [← hi]
      exact h3
    · have hlt : i < len := by have := (List.getElem?_eq_some_iff.1 hs).1; simpa using this
      obtain ⟨_, _, _, _, _, h4⟩ := hall i hlt
      simp [hlt] at hs hc
      rw [← hs, ← hc]
      exact h4
set_option maxRecDepth 100000 in
theorem msg_of {H : Type} {enc : TypeId × Value → H} {w : World} {base : Nat} {sp : Nat → Bool} {held : Bool} {fuel : Nat} {cs : List Value} {x : DataW H × List MemPlace} (h : DataW.trod enc Try.prog w base sp held fuel 39 cs = some x) :
    ∃ (m : Msg) (A : Option Addr) (c : Nat) (B : Option Addr) (d : Nat), cs = (#[.int .i8 (Msg.kind m), .int .i64 (Msg.frm m), .int .i64 (Msg.to m), .int .i64 (Msg.boot m), .int .i64 (Msg.server m), .int .i64 (Msg.number m), .int .i64 (Msg.node m), .int .i64 (Msg.lease m), .int .i64 (Msg.epoch m), .int .i64 (Msg.version m), .int .i64 (Msg.e m), .slice B (Msg.steps m).length d, .int .i64 (Msg.tree m).id, .int .i64 (Msg.tree m).kind, .string (Msg.tree m).text, .slice A (Msg.tree m).kids.length c] : Array Value).toList ∧ MsgC (fun b => b < w.heap.size) w m A c B d := by
  cases fuel with
  | zero => simp [DataW.trod] at h
  | succ fuel =>
    obtain ⟨hl, hf⟩ := trod_struct Try.underlying39 h
    rw [cellsMsg] at hl
    obtain ⟨a0, a1, a2, a3, a4, a5, a6, a7, a8, a9, a10, a11, a12, a13, a14, a15, rfl⟩ := list16 hl
    simp only [List.forall_mem_cons] at hf
    obtain ⟨⟨y0, h0⟩, ⟨y1, h1⟩, ⟨y2, h2⟩, ⟨y3, h3⟩, ⟨y4, h4⟩, ⟨y5, h5⟩, ⟨y6, h6⟩, ⟨y7, h7⟩, ⟨y8, h8⟩, ⟨y9, h9⟩, ⟨y10, h10⟩, ⟨y11, h11⟩, ⟨y12, h12⟩, _⟩ := hf
    obtain ⟨n0, e0, _⟩ := trod_int Try.underlying33 h0
    obtain ⟨n1, e1, _⟩ := trod_int Try.underlying3 h1
    obtain ⟨n2, e2, _⟩ := trod_int Try.underlying3 h2
    obtain ⟨n3, e3, _⟩ := trod_int Try.underlying3 h3
    obtain ⟨n4, e4, _⟩ := trod_int Try.underlying3 h4
    obtain ⟨n5, e5, _⟩ := trod_int Try.underlying3 h5
    obtain ⟨n6, e6, _⟩ := trod_int Try.underlying3 h6
    obtain ⟨n7, e7, _⟩ := trod_int Try.underlying3 h7
    obtain ⟨n8, e8, _⟩ := trod_int Try.underlying3 h8
    obtain ⟨n9, e9, _⟩ := trod_int Try.underlying3 h9
    obtain ⟨n10, e10, _⟩ := trod_int Try.underlying25 h10
    obtain ⟨ss, B, d, e11, hS, hc1, hc2, hc3⟩ := steps_of h11
    obtain ⟨t, hT⟩ := node_of _ _ _ h12
    obtain ⟨A, c, f5, _⟩ := hT.opens
    rw [f5] at hT
    simp [cellsI8, cellsInt', cellsErr, cellsSTS, cellsNode] at e0 e1 e2 e3 e4 e5 e6 e7 e8 e9 e10 e11 f5
    obtain ⟨g5, g6, g7, g8⟩ := f5
    subst e0 e1 e2 e3 e4 e5 e6 e7 e8 e9 e10 e11 g5 g6 g7 g8
    exact ⟨⟨n0, n1, n2, n3, n4, n5, n6, n7, n8, n9, n10, ss, t⟩, A, c, B, d, rfl, hT, hS, hc1, hc2, hc3⟩
set_option maxRecDepth 100000 in
theorem act_of {H : Type} {enc : TypeId × Value → H} {w : World} {base : Nat} {sp : Nat → Bool} {held : Bool} {fuel : Nat} {cs : List Value} {x : DataW H × List MemPlace} (h : DataW.trod enc Try.prog w base sp held fuel 87 cs = some x) :
    ∃ (a : ActM) (A : Option Addr) (c : Nat) (B : Option Addr) (d : Nat), cs = (#[.int .i64 (a.dv), .int .i64 (a.kv), .int .i8 (Msg.kind (a.m)), .int .i64 (Msg.frm (a.m)), .int .i64 (Msg.to (a.m)), .int .i64 (Msg.boot (a.m)), .int .i64 (Msg.server (a.m)), .int .i64 (Msg.number (a.m)), .int .i64 (Msg.node (a.m)), .int .i64 (Msg.lease (a.m)), .int .i64 (Msg.epoch (a.m)), .int .i64 (Msg.version (a.m)), .int .i64 (Msg.e (a.m)), .slice B (Msg.steps (a.m)).length d, .int .i64 (Msg.tree (a.m)).id, .int .i64 (Msg.tree (a.m)).kind, .string (Msg.tree (a.m)).text, .slice A (Msg.tree (a.m)).kids.length c] : Array Value).toList ∧ MsgC (fun b => b < w.heap.size) w a.m A c B d := by
  cases fuel with
  | zero => simp [DataW.trod] at h
  | succ fuel =>
    obtain ⟨hl, hf⟩ := trod_struct Try.underlying87 h
    rw [cellsAct] at hl
    match cs, hl with
    | a0 :: a1 :: r, hl =>
      have hr : r.length = 16 := by simpa using hl
      simp only [List.forall_mem_cons] at hf
      obtain ⟨⟨y0, h0⟩, ⟨y1, h1⟩, ⟨y2, h2⟩, _⟩ := hf
      obtain ⟨n0, e0, _⟩ := trod_int Try.underlying3 h0
      obtain ⟨n1, e1, _⟩ := trod_int Try.underlying3 h1
      obtain ⟨m, A, c, B, d, e2, hM⟩ := msg_of h2
      simp only [cellsInt', cellsMsg, List.drop_zero, List.drop_succ_cons, List.take_succ_cons, List.take_zero, List.cons.injEq, and_true] at e0 e1 e2
      rw [List.take_of_length_le (by omega)] at e2
      subst e0 e1 e2
      exact ⟨⟨n0, n1, m⟩, A, c, B, d, rfl, hM⟩
theorem acts_of {H : Type} {enc : TypeId × Value → H} {w : World} {base : Nat} {sp : Nat → Bool} {held : Bool} {A : Option Addr} {n c : Nat} {d : DataW H} {p : List MemPlace} (h : DataW.Trod enc Try.prog w base sp held 79 (.slice A n c) d p) :
    ∃ xs : List ActM, xs.length = n ∧ n ≤ 9223372036854775807 ∧ ActsC w A xs := by
  obtain ⟨fuel, hf⟩ := h
  obtain ⟨A', n', c', m, hcs, hnc, hcm, _, hA, hel⟩ := trod_slice' Try.underlying79 (by rw [cellsAct]; omega) hf
  simp [Value.cells] at hcs
  obtain ⟨rfl, rfl, rfl⟩ := hcs
  unfold maxLen at hcm
  have hb : ∀ i, i < n → ∃ a : ActM, ∃ B o At ct Bs ds, A = some ⟨B, o, none⟩ ∧ w.rangeAt B (o + i * 18) (#[.int .i64 (a.dv), .int .i64 (a.kv), .int .i8 (Msg.kind (a.m)), .int .i64 (Msg.frm (a.m)), .int .i64 (Msg.to (a.m)), .int .i64 (Msg.boot (a.m)), .int .i64 (Msg.server (a.m)), .int .i64 (Msg.number (a.m)), .int .i64 (Msg.node (a.m)), .int .i64 (Msg.lease (a.m)), .int .i64 (Msg.epoch (a.m)), .int .i64 (Msg.version (a.m)), .int .i64 (Msg.e (a.m)), .slice Bs (Msg.steps (a.m)).length ds, .int .i64 (Msg.tree (a.m)).id, .int .i64 (Msg.tree (a.m)).kind, .string (Msg.tree (a.m)).text, .slice At (Msg.tree (a.m)).kids.length ct] : Array Value).toList ∧ MsgC (fun b => b < w.heap.size) w a.m At ct Bs ds := by
    intro i hi
    obtain ⟨B, o, es, y, hA, hl, hr, ht⟩ := hel i hi
    rw [cellsAct] at hr
    obtain ⟨a, At, ct, Bs, ds, rfl, hM⟩ := act_of ht
    exact ⟨a, B, o, At, ct, Bs, ds, hA, hr, hM⟩
  let f : Nat → ActM := fun i => if h : i < n then (hb i h).choose else ⟨0, 0, ⟨0, 0, 0, 0, 0, 0, 0, 0, 0, 0, 0, [], ⟨0, 0, ⟨#[]⟩, []⟩⟩⟩
  refine ⟨(List.range n).map f, by simp, by omega, fun i hi => ?_⟩
  have hlt : i < n := by simpa using hi
  have e : ((List.range n).map f)[i] = (hb i hlt).choose := by simp [f, hlt]
  rw [e]
  exact (hb i hlt).choose_spec
end Go.Proofs.Ytipijkpjmpejlaa
