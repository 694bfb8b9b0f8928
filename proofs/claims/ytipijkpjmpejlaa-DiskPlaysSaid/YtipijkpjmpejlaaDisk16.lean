import Derived.Test.YtipijkpjmpejlaaDisk15
/- The program's disk and the reference's, side by side: reads, cuts, arms, ups. -/
set_option linter.unusedVariables false
set_option linter.unusedSimpArgs false
namespace Go.Proofs.Ytipijkpjmpejlaa
open Go.RowKit
def rdE (down : Bool) (n : Int) : Int := if down = true then 5 else readE n
def rdB (down : Bool) (L : List (Int × List Int)) (n : Int) : List Int := if down = true then [] else readB L n
/-- What a read answers, at either disk. -/
def ReadPost (down : Bool) (L : List (Int × List Int)) (n : Int) (w : World) (e : Ending) (w' : World) : Prop :=
  ∃ A c, e = .returned (.tuple #[.slice A (rdB down L n).length c, .int .i64 (rdE down n)]) ∧ (∀ W l, Chg l w' W → (∀ i, i ∈ l → i < w.heap.size) → (convert 49 9 (.slice A (rdB down L n).length c)).run Try.prog W = .ok (.string (strOfNums (rdB down L n))) W) ∧ Chg [] w w'
theorem conv_none (W : World) : (convert 49 9 (.slice none 0 0)).run Try.prog W = .ok (.string (strOfNums [])) W :=
  run_convert_bytes_nil W 49 5 Try.underlying49 Try.underlying5 0 0 9 Try.underlying9
theorem read_both (p bm : Nat) (v : Value) (L : List (Int × List Int)) (down armed : Bool) (left n : Int) (w : World) (hD : DiskA w p bm v L down armed left) :
    Calls Try.prog 30 #[.pointer (some ⟨p, 0, none⟩), .int .i64 n] w (ReadPost down L n w) := by
  cases down with
  | true => exact (read_down p bm v L armed left n w hD).mono (by rintro e w' ⟨rfl, rfl⟩; exact ⟨none, 0, rfl, fun W _ _ _ => conv_none W, Chg.refl _ _⟩)
  | false => exact (read_up p bm v L armed left n w hD).mono (by rintro e w' ⟨A, c, rfl, h, hC⟩; exact ⟨A, c, rfl, h, hC⟩)
theorem rread_both (r : Nat) (v : Value) (L : List (Int × List Int)) (bv : List Value) (down armed : Bool) (left n : Int) (w : World) (hD : RDiskA w r v L bv down armed left) (hL : L.length < 1048576) :
    Calls Try.prog 34 #[.pointer (some ⟨r, 0, none⟩), .int .i64 n] w (ReadPost down L n w) := by
  cases down with
  | true => exact (rread_down r v L bv armed left n w hD).mono (by rintro e w' ⟨rfl, rfl⟩; exact ⟨none, 0, rfl, fun W _ _ _ => conv_none W, Chg.refl _ _⟩)
  | false =>
    by_cases h : n < 0 ∨ 2049 ≤ n
    · refine (rread_arg r v L bv armed left n w hD h).mono ?_
      rintro e w' ⟨rfl, rfl⟩
      unfold ReadPost rdB rdE readB readE
      simp only [Bool.false_eq_true, if_false]
      rw [if_pos h, if_pos h]
      exact ⟨none, 0, rfl, fun W _ _ _ => conv_none W, Chg.refl _ _⟩
    · refine (rread_ok r v L bv armed left n w hD (by omega) (by omega) hL).mono ?_
      rintro e w' ⟨rfl, hB, hC⟩
      have hl := secOf_len L n hD.len
      unfold ReadPost rdB rdE readB readE
      simp only [Bool.false_eq_true, if_false]
      rw [if_neg h, if_neg h, hl]
      refine ⟨_, 64, rfl, fun W l hW hl' => ?_, hC⟩
      have hg := hW.at hB (fun hm => Nat.lt_irrefl _ (hl' _ hm))
      have := conv_str W w.heap.size 64 (secOf L n) (fun j u hu => by simpa [World.cell?, hg] using hu)
      rwa [hl] at this
theorem two_read (w0 w : World) (d r k : Nat) (L : List (Int × List Int)) (down : Bool) (n : Int) (hT : Two w0 w d r k L down) (hk : k ≤ 200) :
    Calls Try.prog 30 #[.pointer (some ⟨d, 0, none⟩), .int .i64 n] w (ReadPost down L n w) ∧ Calls Try.prog 34 #[.pointer (some ⟨r, 0, none⟩), .int .i64 n] w (ReadPost down L n w) := by
  obtain ⟨⟨bm, v, rv, bv, armed, left, rleft, hD, hR, _⟩, hC, hL⟩ := hT
  exact ⟨read_both d bm v L down armed left n w hD, rread_both r rv L bv down armed rleft n w hR (by omega)⟩
theorem two_cut (w0 w : World) (d r k : Nat) (L : List (Int × List Int)) (down : Bool) (n : Int) (hT : Two w0 w d r k L down) (hk : k ≤ 200) :
    ∃ (d' : Nat) (Mid : World → Prop), (Calls Try.prog 31 #[.pointer (some ⟨d, 0, none⟩), .int .i64 n] w fun e w' => e = .returned (.pointer (some ⟨d', 0, none⟩)) ∧ Mid w' ∧ Chg [] w w') ∧
      ∀ w', Mid w' → Calls Try.prog 35 #[.pointer (some ⟨r, 0, none⟩), .int .i64 n] w' fun e w'' => e = .returned (.pointer (some ⟨w'.heap.size, 0, none⟩)) ∧ (∃ L', Two w0 w'' d' w'.heap.size k L' false) ∧ Chg [] w' w'' := by
  obtain ⟨⟨bm, v, rv, bv, armed, left, rleft, hD, hR, hl, l1, l2, l3, l4, n1, n2, n3, n4, n5⟩, hC, hL⟩ := hT
  have hsz := hC.size
  refine ⟨w.heap.size + 1, fun w' => (∃ v', DiskA w' (w.heap.size + 1) w.heap.size v' (L.take (cutN n L.length)) false false 0 ∧ ∀ k, v'.ownBlock = some k → w.heap.size ≤ k) ∧ Chg [] w w', (cut_any d bm v L down armed left n w hD (by omega)).mono (by rintro e w' ⟨rfl, h1, h2⟩; exact ⟨rfl, ⟨h1, h2⟩, h2⟩), ?_⟩
  rintro w' ⟨⟨v', h1, h2⟩, h3⟩
  have hsz' := h3.size
  refine (rcut_any r rv L bv down armed rleft n w' (hR.kept h3 (typed_nil _ []) (by simp) (by simp) (by simp)) (by omega)).mono ?_
  rintro e w'' ⟨rfl, ⟨v'', bv'', h4, h5⟩, h6⟩
  refine ⟨rfl, ⟨_, ⟨w.heap.size, v', v'', bv'', false, 0, 0, h1.kept h6 (by simp) (by simp) (by simp), h4, (fun h => by cases h), by omega, by omega, by omega, by omega, by omega, by omega, by omega, fun j hj => by have := h2 j hj; omega, fun j hj => by have := h5 j hj; omega⟩, (hC.trans h3).trans h6, by simp; omega⟩, h6⟩
theorem two_arm (w0 w : World) (d r k : Nat) (L : List (Int × List Int)) (down : Bool) (n : Int) (hT : Two w0 w d r k L down) (hk : k ≤ 200) :
    ∃ (ce : Int) (Mid : World → Prop), (Calls Try.prog 36 #[.pointer (some ⟨d, 0, none⟩), .int .i64 n] w fun e w' => e = .returned (.int .i64 ce) ∧ Mid w' ∧ KeepsAct w w') ∧
      ∀ w', Mid w' → Calls Try.prog 37 #[.pointer (some ⟨r, 0, none⟩), .int .i64 n] w' fun e w'' => e = .returned (.int .i64 ce) ∧ (∃ L' down', Two w0 w'' d r k L' down') := by
  obtain ⟨⟨bm, v, rv, bv, armed, left, rleft, hD, hR, hl, l1, l2, l3, l4, n1, n2, n3, n4, n5⟩, hC, hL⟩ := id hT
  have hsz := hC.size
  cases down with
  | true =>
    refine ⟨5, fun w' => w = w', (arm_down d bm v L armed left n w hD).mono (by rintro e w' ⟨rfl, rfl⟩; exact ⟨rfl, rfl, fun _ _ _ h => h⟩), ?_⟩
    rintro w' rfl
    exact (rarm_down r rv L bv armed rleft n w hR).mono (by rintro e w' ⟨rfl, rfl⟩; exact ⟨rfl, L, true, hT⟩)
  | false =>
    by_cases hv : n < 0 ∨ 1073741824 < n
    · refine ⟨2, fun w' => w = w', (arm_arg d bm v L armed left n w hD hv).mono (by rintro e w' ⟨rfl, rfl⟩; exact ⟨rfl, rfl, fun _ _ _ h => h⟩), ?_⟩
      rintro w' rfl
      exact (rarm_arg r rv L bv armed rleft n w hR hv).mono (by rintro e w' ⟨rfl, rfl⟩; exact ⟨rfl, L, false, hT⟩)
    · have ht : Typed w [d] [126] := fun g cs e fr hg hne hm => by
        simp at hm; subst hm
        rw [hD.blk] at hg; injection hg with hg; injection hg with _ he _; exact hne (by simp [← he])
      refine ⟨0, fun w' => DiskA w' d bm v L false true n ∧ RDiskA w' r rv L bv false armed rleft ∧ Chg [d] w w', (arm_ok d bm v L armed left n w hD (by omega) (by omega)).mono ?_, ?_⟩
      · rintro e w' ⟨rfl, h1, h2⟩
        exact ⟨rfl, ⟨h1, hR.kept h2 ht (by decide) (by decide) (by decide), h2⟩, KeepsAct.of h2 ht (by decide)⟩
      · rintro w' ⟨h1, h2, h3⟩
        refine (rarm_ok r rv L bv armed rleft n w' h2 (by omega) (by omega)).mono ?_
        rintro e w'' ⟨rfl, h4, h5⟩
        have ht' : Typed w' [r] [62] := fun g cs e fr hg hne hm => by
          simp at hm; subst hm
          rw [h2.blk] at hg; injection hg with hg; injection hg with _ he _; exact hne (by simp [← he])
        refine ⟨rfl, L, false, ⟨bm, v, rv, bv, true, n, n, h1.kept2 h5 ht' (fun g es c hg hm => ?_) (by decide) (by decide), h4, fun _ => rfl, by omega, by omega, by omega, by omega, n1, n2, n3, n4, n5⟩, ?_, by omega⟩
        · simp at hm; subst hm; rw [h2.blk] at hg; cases hg
        · exact (hC.andThen h3 (by simp; omega)).andThen h5 (by simp; omega)
theorem two_up (w0 w : World) (d r k : Nat) (L : List (Int × List Int)) (down : Bool) (hT : Two w0 w d r k L down) (hk : k ≤ 200) :
    ∃ (Mid : World → Prop), (Calls Try.prog 38 #[.pointer (some ⟨d, 0, none⟩)] w fun e w' => e = .returned (.int .i64 0) ∧ Mid w') ∧
      ∀ w', Mid w' → Calls Try.prog 39 #[.pointer (some ⟨r, 0, none⟩)] w' fun e w'' => e = .returned (.int .i64 0) ∧ (∃ L' down', Two w0 w'' d r k L' down') := by
  obtain ⟨⟨bm, v, rv, bv, armed, left, rleft, hD, hR, hl, l1, l2, l3, l4, n1, n2, n3, n4, n5⟩, hC, hL⟩ := id hT
  have hsz := hC.size
  have ht : Typed w [d] [126] := fun g cs e fr hg hne hm => by
    simp at hm; subst hm
    rw [hD.blk] at hg; injection hg with hg; injection hg with _ he _; exact hne (by simp [← he])
  refine ⟨fun w' => DiskA w' d bm v L false false left ∧ RDiskA w' r rv L bv down armed rleft ∧ Chg [d] w w', (up_ok d bm v L down armed left w hD).mono ?_, ?_⟩
  · rintro e w' ⟨rfl, h1, h2⟩
    exact ⟨rfl, h1, hR.kept h2 ht (by decide) (by decide) (by decide), h2⟩
  · rintro w' ⟨h1, h2, h3⟩
    refine (rup_ok r rv L bv down armed rleft w' h2).mono ?_
    rintro e w'' ⟨rfl, h4, h5⟩
    have ht' : Typed w' [r] [62] := fun g cs e fr hg hne hm => by
      simp at hm; subst hm
      rw [h2.blk] at hg; injection hg with hg; injection hg with _ he _; exact hne (by simp [← he])
    refine ⟨rfl, L, false, ⟨bm, v, rv, bv, false, left, rleft, h1.kept2 h5 ht' (fun g es c hg hm => ?_) (by decide) (by decide), h4, (fun h => by cases h), l1, l2, l3, l4, n1, n2, n3, n4, n5⟩, ?_, by omega⟩
    · simp at hm; subst hm; rw [h2.blk] at hg; cases hg
    · exact (hC.andThen h3 (by simp; omega)).andThen h5 (by simp; omega)
/-- What the comparison behind each act sees. -/
theorem two_sees (w0 w : World) (d r k : Nat) (L : List (Int × List Int)) (down : Bool) (hT : Two w0 w d r k L down) :
    (∀ n, Calls Try.prog 32 #[.pointer (some ⟨d, 0, none⟩)] (w.drewN n) fun e w' => e = .returned (.int .i64 L.length) ∧ w.drewN n = w') ∧ (∀ n, Calls Try.prog 40 #[.pointer (some ⟨d, 0, none⟩)] (w.drewN n) fun e w' => e = .returned (.bool down) ∧ w.drewN n = w') ∧
      ∃ A c, w.cell? ⟨r, 0, none⟩ = some (.slice A L.length c) ∧ w.cell? ⟨r, 1, none⟩ = some (.bool down) := by
  obtain ⟨⟨bm, v, rv, bv, armed, left, rleft, hD, hR, _⟩, hC, hL⟩ := hT
  obtain ⟨A, c, rfl⟩ := own_slice hR.log
  exact ⟨fun n => writes_any d bm v L down armed left _ (hD.kept (l := []) ((Chg.refl _ _).drewN n) (by simp) (by simp) (by simp)), fun n => down_any d bm v L down armed left _ (hD.kept (l := []) ((Chg.refl _ _).drewN n) (by simp) (by simp) (by simp)), A, c, hR.c0, hR.c1⟩
end Go.Proofs.Ytipijkpjmpejlaa
