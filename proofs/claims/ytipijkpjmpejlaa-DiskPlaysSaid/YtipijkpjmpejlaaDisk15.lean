import Derived.Test.YtipijkpjmpejlaaDisk10
/- The contracts of the reference's disk: write, arm, up. -/
import Derived.Test.YtipijkpjmpejlaaDisk14
/- The program's disk and the reference's, side by side. -/
set_option linter.unusedVariables false
set_option linter.unusedSimpArgs false
namespace Go.Proofs.Ytipijkpjmpejlaa
open Go.RowKit
/-- Both disks after the same acts. -/
structure Two (w0 w : World) (d r k : Nat) (L : List (Int × List Int)) (down : Bool) : Prop where
  core : ∃ bm v rv bv armed left rleft, DiskA w d bm v L down armed left ∧ RDiskA w r rv L bv down armed rleft ∧ (armed = true → rleft = left) ∧ -(k : Int) ≤ left ∧ left ≤ 1073741824 ∧ -(k : Int) ≤ rleft ∧ rleft ≤ 1073741824 ∧ (w0.heap.size ≤ d ∧ w0.heap.size ≤ bm ∧ w0.heap.size ≤ r ∧ (∀ j, v.ownBlock = some j → w0.heap.size ≤ j) ∧ ∀ j, rv.ownBlock = some j → w0.heap.size ≤ j)
  chg : Chg [] w0 w
  len : L.length ≤ k
/-- The boxes of acts stand. -/
def KeepsAct (w w' : World) : Prop := ∀ (g : Nat) (cs : Array Value) (fr : Nat × Nat), w.heap[g]? = some (Obj.cells cs 51 fr) → w'.heap[g]? = some (Obj.cells cs 51 fr)
theorem KeepsAct.of {w w' : World} {l T : List Nat} (hc : Chg l w w') (ht : Typed w l T) (h : 51 ∉ T) : KeepsAct w w' := fun g cs fr hg => hc.at hg (ht _ _ _ _ hg h)
theorem Two.kept {w0 w w' : World} {d r k : Nat} {L : List (Int × List Int)} {down : Bool} (h : Two w0 w d r k L down) (hc : Chg [] w w') : Two w0 w' d r k L down := by
  obtain ⟨⟨bm, v, rv, bv, armed, left, rleft, h1, h2, h3⟩, h4, h5⟩ := h
  exact ⟨⟨bm, v, rv, bv, armed, left, rleft, h1.kept hc (by simp) (by simp) (by simp), h2.kept hc (typed_nil _ []) (by simp) (by simp) (by simp), h3⟩, h4.trans hc, h5⟩
theorem Two.more {w0 w : World} {d r k k' : Nat} {L : List (Int × List Int)} {down : Bool} (h : Two w0 w d r k L down) (hk : k ≤ k') : Two w0 w d r k' L down := by
  obtain ⟨⟨bm, v, rv, bv, armed, left, rleft, h1, h2, h3, h4, h5, h6, h7, h8⟩, h9, h10⟩ := h
  exact ⟨⟨bm, v, rv, bv, armed, left, rleft, h1, h2, h3, by omega, h5, by omega, h7, h8⟩, h9, by omega⟩
theorem own_old {w0 w w' : World} {v v' : Value} (hz : w0.heap.size ≤ w.heap.size) (h : ∀ j, v.ownBlock = some j → w0.heap.size ≤ j) (ho : v'.ownBlock = v.ownBlock ∨ ∃ b, v'.ownBlock = some b ∧ w.heap.size ≤ b) : ∀ j, v'.ownBlock = some j → w0.heap.size ≤ j := by
  intro j hj
  rcases ho with h1 | ⟨b, h1, hb⟩
  · exact h j (by rw [← h1]; exact hj)
  · rw [h1] at hj; cases hj; omega
/-- A write, at both. -/
theorem two_write (w0 w : World) (d r k : Nat) (L : List (Int × List Int)) (down : Bool) (n : Int) (A : Option Addr) (bs : List Int) (cap : Nat) (hT : Two w0 w d r k L down) (hk : k ≤ 200) (hB : BytesAt w0 A bs) :
    ∃ (ce : Int) (Mid : World → Prop), (Calls Try.prog 29 #[.pointer (some ⟨d, 0, none⟩), .int .i64 n, .slice A bs.length cap] w fun e w' => e = .returned (.int .i64 ce) ∧ Mid w' ∧ KeepsAct w w') ∧
      ∀ w', Mid w' → Calls Try.prog 33 #[.pointer (some ⟨r, 0, none⟩), .int .i64 n, .slice A bs.length cap] w' fun e w'' => e = .returned (.int .i64 ce) ∧ (∃ L' down', Two w0 w'' d r (k + 1) L' down') ∧ KeepsAct w' w'' := by
  obtain ⟨⟨bm, v, rv, bv, armed, left, rleft, hD, hR, hl, l1, l2, l3, l4, n1, n2, n3, n4, n5⟩, hC, hL⟩ := id hT
  have hdr : Typed w (d :: bm :: v.ownBlock.toList) [126, 130] := hD.typed
  have hsz := hC.size
  by_cases hdn : down = true
  · subst hdn
    refine ⟨5, fun w' => w = w', (write_down d bm v L armed left n A bs.length cap w hD).mono (by rintro e w' ⟨rfl, rfl⟩; exact ⟨rfl, rfl, fun _ _ _ h => h⟩), ?_⟩
    rintro w' rfl
    exact (rwrite_down r rv L bv armed rleft n A bs.length cap w hR).mono (by rintro e w' ⟨rfl, rfl⟩; exact ⟨rfl, ⟨L, true, hT.more (by omega)⟩, fun _ _ _ h => h⟩)
  obtain rfl : down = false := by simpa using hdn
  by_cases hv : n < 0 ∨ 2049 ≤ n ∨ 64 < bs.length
  · refine ⟨2, fun w' => w = w', (write_arg d bm v L armed left n A bs.length cap w hD hv).mono (by rintro e w' ⟨rfl, rfl⟩; exact ⟨rfl, rfl, fun _ _ _ h => h⟩), ?_⟩
    rintro w' rfl
    exact (rwrite_arg r rv L bv armed rleft n A bs.length cap w hR hv).mono (by rintro e w' ⟨rfl, rfl⟩; exact ⟨rfl, ⟨L, false, hT.more (by omega)⟩, fun _ _ _ h => h⟩)
  by_cases hlast : armed = true ∧ left = 0
  · obtain ⟨rfl, rfl⟩ := hlast
    obtain rfl := hl rfl
    refine ⟨5, fun w' => DiskA w' d bm v L true true 0 ∧ RDiskA w' r rv L bv false true 0 ∧ Chg [d] w w', (write_last d bm v L n A bs.length cap w hD (by omega) (by omega) (by omega)).mono ?_, ?_⟩
    · rintro e w' ⟨rfl, h1, h2⟩
      have ht : Typed w [d] [126] := fun g cs e fr hg hne hm => by
        simp at hm; subst hm
        rw [hD.blk] at hg; injection hg with hg; injection hg with _ he _; exact hne (by simp [← he])
      exact ⟨rfl, ⟨h1, hR.kept h2 ht (by decide) (by decide) (by decide), h2⟩, KeepsAct.of h2 ht (by decide)⟩
    · rintro w' ⟨h1, h2, h3⟩
      refine (rwrite_last r rv L bv n A bs.length cap w' h2 (by omega) (by omega) (by omega)).mono ?_
      rintro e w'' ⟨rfl, h4, h5⟩
      have ht : Typed w' [r] [62] := fun g cs e fr hg hne hm => by
        simp at hm; subst hm
        rw [h2.blk] at hg; injection hg with hg; injection hg with _ he _; exact hne (by simp [← he])
      refine ⟨rfl, ⟨L, true, ⟨bm, v, rv, bv, true, 0, 0, h1.kept2 h5 ht (fun g es c hg hm => ?_) (by decide) (by decide), h4, fun _ => rfl, by omega, by omega, by omega, by omega, n1, n2, n3, n4, n5⟩, ?_, by omega⟩, KeepsAct.of h5 ht (by decide)⟩
      · simp at hm; subst hm; rw [h2.blk] at hg; cases hg
      · exact (hC.andThen h3 (by simp; omega)).andThen h5 (by simp; omega)
  have hB' := hB.kept hC (by simp)
  refine ⟨0, fun w' => (∃ v', DiskA w' d bm v' (L ++ [(n, padB bs)]) false armed (left - 1) ∧ (∀ j, v'.ownBlock = some j → w0.heap.size ≤ j)) ∧ RDiskA w' r rv L bv false armed rleft ∧ Chg [] w0 w', (write_ok d bm v L armed left n A bs cap w hD (by omega) (by omega) (by omega) ?_ (by omega) (by omega) hB' (fun hp ad h e => by obtain ⟨ad', h', hb, _⟩ := hB hp; rw [h] at h'; cases h'; omega) (by omega)).mono ?_, ?_⟩
  · cases armed
    · exact .inl rfl
    · exact .inr (fun e => hlast ⟨rfl, e⟩)
  · rintro e w' ⟨rfl, v', h1, h2, h3⟩
    refine ⟨rfl, ⟨⟨v', h1, own_old (w' := w) hsz n4 h3⟩, hR.kept h2 hdr (by decide) (by decide) (by decide), hC.andThen h2 (fun i hi => ?_)⟩, KeepsAct.of h2 hdr (by decide)⟩
    simp only [List.mem_cons, Option.mem_toList] at hi
    rcases hi with h | h | h
    · subst h; exact .inr n1
    · subst h; exact .inr n2
    · exact .inr (n4 i h)
  · rintro w' ⟨⟨v', h1, hn4⟩, h2, h3⟩
    have hrl : armed = true → rleft ≠ 0 := fun e => by rw [hl e]; exact fun e' => hlast ⟨e, e'⟩
    refine (rwrite_ok r rv L bv armed rleft n A bs cap w' h2 (by omega) (by omega) (by omega) hrl (by omega) (by omega) (hB.kept h3 (by simp)) (fun hp ad h e => by obtain ⟨ad', h', hb, _⟩ := hB hp; rw [h] at h'; cases h'; omega) (by omega)).mono ?_
    rintro e w'' ⟨rfl, rv', ⟨bv', h4⟩, h5, h6⟩
    have ht := h2.typed
    refine ⟨rfl, ⟨_, false, ⟨bm, v', rv', bv', armed, left - 1, _, h1.kept2 h5 (fun g cs e fr hg hne => ht.1 g cs e fr hg hne) ht.2 (by decide) (by decide), h4, fun e => ?_, by omega, by omega, ?_, ?_, n1, n2, n3, hn4, own_old (w' := w') h3.size n5 h6⟩, h3.andThen h5 (fun i hi => ?_), by simp; omega⟩, KeepsAct.of h5 ht.1 (by decide)⟩
    · rw [if_pos e, hl e]
    · split <;> omega
    · split <;> omega
    · simp only [List.mem_cons, Option.mem_toList] at hi
      rcases hi with h | h
      · subst h; exact .inr n3
      · exact .inr (n5 i h)
end Go.Proofs.Ytipijkpjmpejlaa
