/- The contract of the reference door's take, for every message. -/
import Derived.Test.YtipijkpjmpejlaaLink
namespace Go.Proofs.Ytipijkpjmpejlaa
open Go.RowKit
theorem RDoor.store {w : World} {r : Nat} {boot : Int} {c : Int → Int} (h : RDoor w r boot c) (n : Nat) (b : Int) (hn : n < 9) : RDoor (w.setCell ⟨r, 1 + n, none⟩ (.int .i64 b)) r boot (fun x => if x = n then b else c x) :=
  ⟨by rw [World.cell?_setCell_other _ _ _ _ (fun e => by injection e; omega)]; exact h.boot0, fun i hi => by
    refine ⟨?_, by rw [World.frozen?_setCell]; exact (h.cl i hi).2⟩
    by_cases e : i = n
    · subst e; rw [if_pos rfl]; exact World.cell?_setCell_same _ _ _ (h.cl i hi).1
    · rw [if_neg (by omega), World.cell?_setCell_other _ _ _ _ (fun e' => by injection e'; omega)]; exact (h.cl i hi).1⟩
theorem rtake_out (r : Nat) (boot : Int) (c : Int → Int) (k fr t b s nu no le ep ve ee i1 k1 : Int) (S T X : Value) (w : World) (hD : RDoor w r boot c) (h : fr < 1 ∨ 8 < fr ∨ b < 1) :
    Calls Try.prog 23 #[.pointer (some ⟨r, 0, none⟩), .agg #[.int .i8 k, .int .i64 fr, .int .i64 t, .int .i64 b, .int .i64 s, .int .i64 nu, .int .i64 no, .int .i64 le, .int .i64 ep, .int .i64 ve, .int .i64 ee, S, .int .i64 i1, .int .i64 k1, T, X]] w fun e w' => e = .returned (.tuple #[.bool false, .bool false]) ∧ Chg [] w w' := by
  by_cases h1 : fr < 1
  · have g1 : decide (fr < 1) = true := by simpa using h1
    go_enter Try.func23, Try.ntmps23
    go_wp2
    go_quiet (fail)
    go_wp2
    go_ret2
    exact ⟨rfl, (by with_reducible repeat (first | exact Chg.refl _ _ | apply Chg.alloc | apply Chg.drew | apply Chg.drewN | (refine Chg.setCell ?_ _ _ (by simp))))⟩
  · have g1 : decide (fr < 1) = false := by simpa using h1
    by_cases h2 : 8 < fr
    · have g2 : decide (8 < fr) = true := by simpa using h2
      go_enter Try.func23, Try.ntmps23
      go_wp2
      go_quiet (fail)
      go_wp2
      go_ret2
      exact ⟨rfl, (by with_reducible repeat (first | exact Chg.refl _ _ | apply Chg.alloc | apply Chg.drew | apply Chg.drewN | (refine Chg.setCell ?_ _ _ (by simp))))⟩
    · have g2 : decide (8 < fr) = false := by simpa using h2
      have g3 : decide (b < 1) = true := by simp; omega
      go_enter Try.func23, Try.ntmps23
      go_wp2
      go_quiet (fail)
      go_wp2
      go_ret2
      exact ⟨rfl, (by with_reducible repeat (first | exact Chg.refl _ _ | apply Chg.alloc | apply Chg.drew | apply Chg.drewN | (refine Chg.setCell ?_ _ _ (by simp))))⟩
theorem rtake_old (r : Nat) (boot : Int) (c : Int → Int) (k fr t b s nu no le ep ve ee i1 k1 : Int) (S T X : Value) (w : World) (hD : RDoor w r boot c) (h1 : 1 ≤ fr) (h2 : fr ≤ 8) (h3 : 1 ≤ b) (hb : b < c fr) :
    Calls Try.prog 23 #[.pointer (some ⟨r, 0, none⟩), .agg #[.int .i8 k, .int .i64 fr, .int .i64 t, .int .i64 b, .int .i64 s, .int .i64 nu, .int .i64 no, .int .i64 le, .int .i64 ep, .int .i64 ve, .int .i64 ee, S, .int .i64 i1, .int .i64 k1, T, X]] w fun e w' => e = .returned (.tuple #[.bool false, .bool false]) ∧ Chg [] w w' := by
  obtain ⟨n, rfl⟩ : ∃ n : Nat, fr = n := ⟨fr.toNat, by omega⟩
  have hcell := (hD.cl n (by omega)).1
  obtain ⟨last, hl⟩ : ∃ last, last = c n := ⟨_, rfl⟩
  rw [← hl] at hcell hb
  clear hl
  have g1 : decide ((n : Int) < 1) = false := by simp; omega
  have g2 : decide (8 < (n : Int)) = false := by simp; omega
  have g3 : decide (b < 1) = false := by simp; omega
  have g4 : decide (b < last) = true := by simp; omega
  have hd := hD.lt
  have hd1 : (r == w.heap.size) = false := by simp; omega
  have k1 : (0 : Int) ≤ n := by omega
  have k2 : (n : Int) < 9 := by omega
  have k3 : n < 9 := by omega
  go_enter Try.func23, Try.ntmps23
  go_wp2
  go_quiet (fail)
  go_wp2
  go_ret2
  exact ⟨rfl, (by with_reducible repeat (first | exact Chg.refl _ _ | apply Chg.alloc | apply Chg.drew | apply Chg.drewN | (refine Chg.setCell ?_ _ _ (by simp))))⟩
theorem rtake_new (r : Nat) (boot : Int) (c : Int → Int) (k fr t b s nu no le ep ve ee i1 k1 : Int) (S T X : Value) (w : World) (hD : RDoor w r boot c) (h1 : 1 ≤ fr) (h2 : fr ≤ 8) (h3 : 1 ≤ b) (hb : c fr ≤ b) :
    Calls Try.prog 23 #[.pointer (some ⟨r, 0, none⟩), .agg #[.int .i8 k, .int .i64 fr, .int .i64 t, .int .i64 b, .int .i64 s, .int .i64 nu, .int .i64 no, .int .i64 le, .int .i64 ep, .int .i64 ve, .int .i64 ee, S, .int .i64 i1, .int .i64 k1, T, X]] w fun e w' => e = .returned (.tuple #[.bool (s == boot), .bool (s != boot)]) ∧ RDoor w' r boot (fun n => if n = fr then b else c n) ∧ Chg [r] w w' := by
  obtain ⟨n, rfl⟩ : ∃ n : Nat, fr = n := ⟨fr.toNat, by omega⟩
  have hcell := (hD.cl n (by omega)).1
  have hfz := (hD.cl n (by omega)).2
  obtain ⟨last, hl⟩ : ∃ last, last = c n := ⟨_, rfl⟩
  rw [← hl] at hcell hb
  clear hl
  have g1 : decide ((n : Int) < 1) = false := by simp; omega
  have g2 : decide (8 < (n : Int)) = false := by simp; omega
  have g3 : decide (b < 1) = false := by simp; omega
  have g4 : decide (b < last) = false := by simp; omega
  have hd := hD.lt
  have hd1 : (r == w.heap.size) = false := by simp; omega
  have k1 : (0 : Int) ≤ n := by omega
  have k2 : (n : Int) < 9 := by omega
  have k3 : n < 9 := by omega
  have c0 := hD.boot0
  have HD := Lib.hid hD
  clear hD
  go_enter Try.func23, Try.ntmps23
  go_wp2
  go_quiet (fail)
  go_wp2
  go_region
  go_wp2
  go_quiet (fail)
  go_wp2
  go_ret2
  refine ⟨rfl, RDoor.kept (l := []) (w := World.setCell _ _ _) (RDoor.store (HD.out.kept (l := []) ?_ (by simp)) n b k3) ((Chg.refl _ _).drewN _) (by simp), (by with_reducible repeat (first | exact Chg.refl _ _ | apply Chg.alloc | apply Chg.drew | apply Chg.drewN | (refine Chg.setCell ?_ _ _ (by simp))))⟩
  exact (by with_reducible repeat (first | exact Chg.refl _ _ | apply Chg.alloc | apply Chg.drew | apply Chg.drewN | (refine Chg.setCell ?_ _ _ (by simp))))
end Go.Proofs.Ytipijkpjmpejlaa
