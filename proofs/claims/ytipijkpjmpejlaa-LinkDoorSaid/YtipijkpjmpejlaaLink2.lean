/- The contracts of the reference door's hello and of the law's helpers bare and head, for every message. -/
import Derived.Test.YtipijkpjmpejlaaLink
namespace Go.Proofs.Ytipijkpjmpejlaa
open Go.RowKit
theorem rhello_any (r : Nat) (boot : Int) (c : Int → Int) (x : Int) (w : World) (h : RDoor w r boot c) :
    Calls Try.prog 25 #[.pointer (some ⟨r, 0, none⟩), .int .i64 x] w fun e w' => e = .returned (.agg #[.int .i8 1, .int .i64 0, .int .i64 x, .int .i64 0, .int .i64 boot, .int .i64 0, .int .i64 0, .int .i64 0, .int .i64 0, .int .i64 0, .int .i64 0, .slice none 0 0, .int .i64 0, .int .i64 0, .string ⟨#[]⟩, .slice none 0 0]) ∧ Chg [] w w' := by
  have c0 := h.boot0
  have hd := h.lt
  have hd1 : (r == w.heap.size) = false := by simp; omega
  go_enter Try.func25, Try.ntmps25
  go_wp2
  refine bodyPost_ret (v := .agg #[.int .i8 1, .int .i64 0, .int .i64 x, .int .i64 0, .int .i64 boot, .int .i64 0, .int .i64 0, .int .i64 0, .int .i64 0, .int .i64 0, .int .i64 0, .slice none 0 0, .int .i64 0, .int .i64 0, .string ⟨#[]⟩, .slice none 0 0]) ?_ rfl ⟨rfl, (by with_reducible repeat (first | exact Chg.refl _ _ | apply Chg.alloc | apply Chg.drew | apply Chg.drewN | (refine Chg.setCell ?_ _ _ (by simp))))⟩
  exact results_cell_row rfl _ _ w.heap.size _ _ _ _ rfl (heap_new _ _ (by simp)) Try.underlying39 rfl szM
theorem bare_any (k fr t b s nu no le ep ve ee i1 k1 : Int) (S T X : Value) (w : World) :
    Calls Try.prog 22 #[.agg #[.int .i8 k, .int .i64 fr, .int .i64 t, .int .i64 b, .int .i64 s, .int .i64 nu, .int .i64 no, .int .i64 le, .int .i64 ep, .int .i64 ve, .int .i64 ee, S, .int .i64 i1, .int .i64 k1, T, X]] w fun e w' => e = .returned (.agg #[.int .i8 k, .int .i64 fr, .int .i64 t, .int .i64 b, .int .i64 s, .int .i64 nu, .int .i64 no, .int .i64 le, .int .i64 ep, .int .i64 ve, .int .i64 ee, .slice none 0 0, .int .i64 0, .int .i64 0, .string ⟨#[]⟩, .slice none 0 0]) ∧ Chg [] w w' := by
  go_enter Try.func22, Try.ntmps22
  go_wp2
  refine bodyPost_ret (v := .agg #[.int .i8 k, .int .i64 fr, .int .i64 t, .int .i64 b, .int .i64 s, .int .i64 nu, .int .i64 no, .int .i64 le, .int .i64 ep, .int .i64 ve, .int .i64 ee, .slice none 0 0, .int .i64 0, .int .i64 0, .string ⟨#[]⟩, .slice none 0 0]) ?_ rfl ⟨rfl, (by with_reducible repeat (first | exact Chg.refl _ _ | apply Chg.alloc | apply Chg.drew | apply Chg.drewN | (refine Chg.setCell ?_ _ _ (by simp))))⟩
  exact results_cell_row rfl _ _ (w.heap.size + 1) _ _ _ _ rfl (heap_new _ _ (by simp)) Try.underlying39 rfl szM
set_option maxHeartbeats 4000000 in
set_option maxRecDepth 100000 in
theorem head_same (k fr t b s nu no le ep ve ee i1 k1 : Int) (S T X : Value) (S2 T2 X2 : Value) (j1 l1 : Int) (w : World) :
    Calls Try.prog 19 #[.agg #[.int .i8 k, .int .i64 fr, .int .i64 t, .int .i64 b, .int .i64 s, .int .i64 nu, .int .i64 no, .int .i64 le, .int .i64 ep, .int .i64 ve, .int .i64 ee, S, .int .i64 i1, .int .i64 k1, T, X], .agg #[.int .i8 k, .int .i64 fr, .int .i64 t, .int .i64 b, .int .i64 s, .int .i64 nu, .int .i64 no, .int .i64 le, .int .i64 ep, .int .i64 ve, .int .i64 ee, S2, .int .i64 j1, .int .i64 l1, T2, X2]] w fun e w' => e = .returned (.bool true) ∧ Chg [] w w' := by
  go_enter Try.func19, Try.ntmps19
  go_wp2
  go_ret
  exact ⟨rfl, (by with_reducible repeat (first | exact Chg.refl _ _ | apply Chg.alloc | apply Chg.drew | apply Chg.drewN | (refine Chg.setCell ?_ _ _ (by simp))))⟩
end Go.Proofs.Ytipijkpjmpejlaa
