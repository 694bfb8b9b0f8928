/- The law LinkDoor: whatever messages come, the server's door of the program and the document's door answer alike. For every input that can be read; no condition. -/
import Derived.Test.YtipijkpjmpejlaaRows
import Derived.Test.YtipijkpjmpejlaaLink4
import Derived.Test.YtipijkpjmpejlaaOpen
namespace Go.Proofs.Ytipijkpjmpejlaa.linkDoor
open Go.ChangeShapes Go.WideShapes Go.ChangeAt Go.RowKit
open Go.ChangeMaps (open_string shut_string)
theorem own : ownKnob Try.prog.godebug = none := by kernel_rfl
theorem laidOut : laidOutB Try.prog = true := by kernel_rfl
theorem cellsM : Try.prog.cellsOf 39 = 16 := by kernel_rfl
theorem cells1 : Try.prog.cellsOf 3 = 1 := by kernel_rfl
theorem cells8 : Try.prog.cellsOf 33 = 1 := by kernel_rfl
theorem cellsE : Try.prog.cellsOf 25 = 1 := by kernel_rfl
theorem cellsN : Try.prog.cellsOf 37 = 4 := by kernel_rfl
set_option maxRecDepth 100000 in
/-- A message that can be read. -/
theorem msg {H : Type} {enc : TypeId × Value → H} {w : World} {base : Nat} {sp : Nat → Bool} {held : Bool} {fuel : Nat} {cs : List Value} {x : DataW H × List MemPlace} (h : DataW.trod enc Try.prog w base sp held fuel 39 cs = some x) :
    ∃ (k fr t b s nu no le ep ve ee i1 k1 : Int) (S T X : Value), cs = [.int .i8 k, .int .i64 fr, .int .i64 t, .int .i64 b, .int .i64 s, .int .i64 nu, .int .i64 no, .int .i64 le, .int .i64 ep, .int .i64 ve, .int .i64 ee, S, .int .i64 i1, .int .i64 k1, T, X] := by
  cases fuel with
  | zero => simp [DataW.trod] at h
  | succ fuel =>
    obtain ⟨hl, hf⟩ := trod_struct Try.underlying39 h
    rw [cellsM] at hl
    obtain ⟨a0, a1, a2, a3, a4, a5, a6, a7, a8, a9, a10, a11, a12, a13, a14, a15, rfl⟩ := list16 hl
    simp only [List.forall_mem_cons, List.mem_singleton, forall_eq] at hf
    obtain ⟨⟨y0, h0⟩, ⟨y1, h1⟩, ⟨y2, h2⟩, ⟨y3, h3⟩, ⟨y4, h4⟩, ⟨y5, h5⟩, ⟨y6, h6⟩, ⟨y7, h7⟩, ⟨y8, h8⟩, ⟨y9, h9⟩, ⟨y10, h10⟩, _, ⟨y12, h12⟩⟩ := hf
    obtain ⟨n0, e0, _⟩ := trod_int Try.underlying33 h0
    obtain ⟨n1, e1, _⟩ := trod_int Try.underlying3 h1
    obtain ⟨n2, e2, _⟩ := trod_int Try.underlying3 h2
    obtain ⟨n3, e3, _⟩ := trod_int Try.underlying3 h3
    obtain ⟨n4, e4, _⟩ := trod_int Try.underlying3 h4
    obtain ⟨n5, e5, _⟩ := trod_int Try.underlying3 h5
    obtain ⟨n6, e6, _⟩ := trod_int Try.underlying3 h6
    obtain ⟨n7, e7, _⟩ := trod_int Try.underlying3 h7
    obtain ⟨n8, e8, _⟩ := trod_int Try.underlying3 h8
    obtain ⟨n9, e9, _⟩ := trod_int Try.underlying3 h9
    obtain ⟨n10, e10, _⟩ := trod_int Try.underlying25 h10
    cases fuel with
    | zero => simp [DataW.trod] at h12
    | succ fuel =>
      obtain ⟨hl, hf⟩ := trod_struct Try.underlying37 h12
      simp only [List.forall_mem_cons] at hf
      obtain ⟨⟨z0, g0⟩, ⟨z1, g1⟩, _⟩ := hf
      obtain ⟨m0, d0, _⟩ := trod_int Try.underlying3 g0
      obtain ⟨m1, d1, _⟩ := trod_int Try.underlying3 g1
      simp [cells8, cells1, cellsE, cellsN] at e0 e1 e2 e3 e4 e5 e6 e7 e8 e9 e10 d0 d1
      subst e0 e1 e2 e3 e4 e5 e6 e7 e8 e9 e10 d0 d1
      exact ⟨_, _, _, _, _, _, _, _, _, _, _, _, _, _, _, _, rfl⟩
theorem msgs {H : Type} {enc : TypeId × Value → H} {w : World} {base : Nat} {sp : Nat → Bool} {held : Bool} {A : Option Addr} {n c : Nat} {d : DataW H} {p : List MemPlace} (h : DataW.Trod enc Try.prog w base sp held 22 (.slice A n c) d p) :
    n ≤ 9223372036854775807 ∧ MsgsAt w A n := by
  obtain ⟨fuel, hf⟩ := h
  obtain ⟨A', n', c', m, hcs, hnc, hcm, _, hA, hel⟩ := trod_slice' Try.underlying22 (by rw [cellsM]; omega) hf
  simp [Value.cells] at hcs
  obtain ⟨rfl, rfl, rfl⟩ := hcs
  unfold maxLen at hcm
  refine ⟨by omega, fun i hi => ?_⟩
  obtain ⟨B, o, es, y, hA, _, hr, ht⟩ := hel i hi
  obtain ⟨k, fr, t, b, s, nu, no, le, ep, ve, ee, i1, k1, S, T, X, rfl⟩ := msg ht
  rw [cellsM] at hr
  exact ⟨B, o, hA, k, fr, t, b, s, nu, no, le, ep, ve, ee, i1, k1, S, T, X, hr⟩
set_option maxRecDepth 100000 in
theorem lifted (os : Os) (started : os.Started) (H : Type) (enc : TypeId × Value → H) :
    ReturnsInHanded {} Try.checked os 3 .any (Rows.linkDoorSpec.pre6 enc Try.prog Try.f3 Rows.linkDoorRow.domain false) (Rows.linkDoorSpec.post enc Try.prog Try.f3 false true false false) := by
  refine returnsInHanded_of_change_sized (C := Try.checked) own started (by kernel_rfl) Try.func3
    (ChangeSpec.witness6 (enc := enc) (C := Try.checked) false ⟨#[], #[.int .i64 0, .slice none 0 0, .int .i64 0], []⟩ 8 (by kernel_rfl) (by kernel_rfl) (by kernel_rfl) (by kernel_rfl)) ?_
  intro W base args ds gs before hval0 hW hcnd hsz0 _
  have hval : ∀ (j : Nat) t v, Try.f3.params[j]? = some t → args[j]? = some v → Value.okWide Try.prog W .any base t v := hval0
  have hW' := hW
  obtain ⟨p, q, hA0, hV, rfl, hfz, hnd⟩ := hW
  have hA : DataW.TrodAll enc Try.prog W 0 (fun _ => true) true Try.f3.params.toList args.toList ds p := hA0
  rw [Try.params3] at hA hval
  obtain ⟨v0, vs0, d0, ds0, p0, q0, hargs, rfl, rfl, h0, r0⟩ := trodAll_cons hA
  obtain ⟨v1, vs1, d1, ds1, p1, q1, rfl, rfl, rfl, h1, r1⟩ := trodAll_cons r0
  obtain ⟨v2, vs2, d2, ds2, p2, q2, rfl, rfl, rfl, h2, r2⟩ := trodAll_cons r1
  obtain ⟨rfl, rfl, rfl⟩ := trodAll_nil r2
  obtain rfl : args = #[v0, v1, v2] := by cases args; simp_all
  obtain ⟨rfl, rfl⟩ := trodVars_none hV
  obtain ⟨a0, rfl, rfl, rfl, w0⟩ := open_int Try.underlying3 (hval 0 3 v0 rfl rfl) h0
  obtain ⟨a2, rfl, rfl, rfl, w2⟩ := open_int Try.underlying3 (hval 2 3 v2 rfl rfl) h2
  have k1 := h1
  have lt1 : ∀ x ∈ p1, x.block < W.heap.size := by obtain ⟨m, hm⟩ := k1; exact DataW.trod_lt m _ _ _ hm
  obtain ⟨A, n, c, rfl⟩ := okWide_slice Try.underlying22 (hval 1 22 v1 rfl rfl)
  obtain ⟨hn, hM⟩ := msgs h1
  clear hA0 hval0 hsz0
  refine (law_any a0 a2 A n c W hM hn).mono fun e W' ⟨he, hC⟩ => ?_
  have bel := hC.below
  subst he
  exact ⟨_, rfl, _, _, _, [], _, [], hW', trodAll_mk1 (shut_bool Try.underlying4 _), (trodAll_cons_mk (shut_int Try.underlying3 w0) (trodAll_cons_mk (Below.trod laidOut (by kernel_rfl) (of_decide_eq_true (by kernel_rfl)) k1 bel lt1) (trodAll_cons_mk (shut_int Try.underlying3 w2) trodAll_mk0))), rfl, bel.frame _, fun h => by cases h⟩
theorem over : Rows.linkDoorRow.holds Try.pinned (OpenSpec.ofChange Rows.linkDoorSpec) :=
  OpenClaim.holds_of_wide 3 Try.f3 rfl rfl rfl rfl rfl rfl rfl ⟨rfl, rfl, rfl, rfl, rfl⟩ rfl rfl rfl rfl rfl (by kernel_rfl) Try.func3 (by kernel_rfl)
    (of_decide_eq_true (by kernel_rfl)) (by unfold Func.isWrapper; first | (rw [if_pos (by decide +kernel)]; kernel_rfl) | (rw [if_neg (by decide +kernel)]; exact ⟨rfl, rfl⟩))
    (fun os started H enc _ => lifted os started H enc)
theorem proved : Rows.LinkDoorSaid := over
#print axioms proved
end Go.Proofs.Ytipijkpjmpejlaa.linkDoor
namespace Go.Proofs.Ytipijkpjmpejlaa
/-- The statement, under a short name. -/
theorem linkDoor_holds : Rows.LinkDoorSaid := linkDoor.proved
end Go.Proofs.Ytipijkpjmpejlaa
