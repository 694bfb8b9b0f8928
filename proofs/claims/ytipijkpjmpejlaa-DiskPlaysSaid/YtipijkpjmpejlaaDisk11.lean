import Derived.Test.YtipijkpjmpejlaaDisk10
/- The contracts of the reference's disk: write, arm, up. -/
set_option linter.unusedVariables false
set_option linter.unusedSimpArgs false
namespace Go.Proofs.Ytipijkpjmpejlaa
open Go.RowKit
def rcells (L : List (Int × List Int)) (bv : List Value) : List Value := (L.zip bv).flatMap fun x => [.int .i64 x.1.1, x.2]
theorem rcells_length (L : List (Int × List Int)) : ∀ (bv : List Value), bv.length = L.length → (rcells L bv).length = L.length * 2 := by
  induction L with
  | nil => intro bv h; simp [rcells]
  | cons x L ih =>
    intro bv h
    cases bv with
    | nil => simp at h
    | cons u bv =>
      have := ih bv (by simpa using h)
      simp only [rcells, List.zip_cons_cons, List.flatMap_cons, List.length_append, List.length_cons, List.length_nil] at this ⊢
      omega
theorem rcells_snoc (L : List (Int × List Int)) (bv : List Value) (x : Int × List Int) (u : Value) (h : bv.length = L.length) : rcells (L ++ [x]) (bv ++ [u]) = rcells L bv ++ [.int .i64 x.1, u] := by
  unfold rcells
  rw [List.zip_append h.symm]
  simp
structure RDiskA (w : World) (r : Nat) (v : Value) (L : List (Int × List Int)) (bv : List Value) (dead armed : Bool) (left : Int) : Prop where
  blk : w.heap[r]? = some (.cells #[v, .bool dead, .bool armed, .int .i64 left] 62 (0, 0))
  log : w.ownsRow 0 134 2 v L.length (rcells L bv)
  len : ∀ x ∈ L, x.2.length = 64
  bvl : bv.length = L.length
  byt : ∀ (i : Nat) x u, L[i]? = some x → bv[i]? = some u → ∃ g c, u = .slice (some ⟨g, 0, none⟩) 64 c ∧ w.heap[g]? = some (.cells (u8s x.2).toArray 5 (0, 0))
/-- The blocks of l that are rows are rows of these types. -/
def Typed (w : World) (l : List Nat) (T : List Nat) : Prop := ∀ g cs e fr, w.heap[g]? = some (.cells cs e fr) → e ∉ T → g ∉ l
theorem DiskA.typed {w : World} {p bm : Nat} {v : Value} {L : List (Int × List Int)} {down armed : Bool} {left : Int} (h : DiskA w p bm v L down armed left) : Typed w (p :: bm :: v.ownBlock.toList) [126, 130] :=
  fun g cs e fr hg hne => h.other hg (fun e' => hne (by simp [e'])) (fun e' => hne (by simp [e']))
theorem RDiskA.typed {w : World} {r : Nat} {v : Value} {L : List (Int × List Int)} {bv : List Value} {dead armed : Bool} {left : Int} (h : RDiskA w r v L bv dead armed left) : Typed w (r :: v.ownBlock.toList) [62, 134] ∧ ∀ g es c, w.heap[g]? = some (.map es c) → g ∉ r :: v.ownBlock.toList := by
  constructor
  · intro g cs e fr hg hne hmem
    simp only [List.mem_cons, Option.mem_toList] at hmem
    rcases hmem with rfl | hk
    · rw [h.blk] at hg; injection hg with hg; injection hg with _ he _; exact hne (by simp [← he])
    · rcases h.log.2 with ⟨rfl, _⟩ | ⟨g', cap, cur, rfl, _, hh, _⟩
      · cases hk
      · cases hk
        rw [hh] at hg; injection hg with hg; injection hg with _ he _; exact hne (by simp [← he])
  · intro g es c hg hmem
    simp only [List.mem_cons, Option.mem_toList] at hmem
    rcases hmem with rfl | hk
    · rw [h.blk] at hg; cases hg
    · rcases h.log.2 with ⟨rfl, _⟩ | ⟨g', cap, cur, rfl, _, hh, _⟩
      · cases hk
      · cases hk; rw [hh] at hg; cases hg
theorem RDiskA.kept {w w' : World} {r : Nat} {v : Value} {L : List (Int × List Int)} {bv : List Value} {dead armed : Bool} {left : Int} (h : RDiskA w r v L bv dead armed left) {l T : List Nat} (hc : Chg l w w') (ht : Typed w l T) (h1 : 62 ∉ T) (h2 : 134 ∉ T) (h3 : 5 ∉ T) : RDiskA w' r v L bv dead armed left := by
  refine ⟨hc.at h.blk (ht _ _ _ _ h.blk h1), ⟨h.log.1, ?_⟩, h.len, h.bvl, fun i x u hx hu => ?_⟩
  · rcases h.log.2 with h0 | ⟨g, cap, cur, rfl, hg, hh, r⟩
    · exact .inl h0
    · exact .inr ⟨g, cap, cur, rfl, hg, hc.at hh (ht _ _ _ _ hh h2), r⟩
  · obtain ⟨g, c, hu, hg⟩ := h.byt i x u hx hu
    exact ⟨g, c, hu, hc.at hg (ht _ _ _ _ hg h3)⟩
theorem typed_nil (w : World) (T : List Nat) : Typed w [] T := fun _ _ _ _ _ _ => by simp
theorem DiskA.kept2 {w w' : World} {p bm : Nat} {v : Value} {L : List (Int × List Int)} {down armed : Bool} {left : Int} (h : DiskA w p bm v L down armed left) {l T : List Nat} (hc : Chg l w w') (ht : Typed w l T) (hm : ∀ g es c, w.heap[g]? = some (.map es c) → g ∉ l) (h1 : 126 ∉ T) (h2 : 130 ∉ T) : DiskA w' p bm v L down armed left := by
  obtain ⟨m, ⟨es, cl, hmb, _⟩, _⟩ := h.map
  refine h.kept hc (ht _ _ _ _ h.blk h1) (hm _ _ _ hmb) (fun k hk => ?_)
  rcases h.log.2 with ⟨h0, _⟩ | ⟨g, cap, cur, h0, hg, hh, r⟩
  · rw [h0] at hk; cases hk
  · rw [h0] at hk; cases hk; exact ht _ _ _ _ hh h2
theorem RDiskA.c0 {w : World} {r : Nat} {v : Value} {L : List (Int × List Int)} {bv : List Value} {dead armed : Bool} {left : Int} (h : RDiskA w r v L bv dead armed left) : w.cell? ⟨r, 0, none⟩ = some v := by simp [World.cell?, h.blk]
theorem RDiskA.c1 {w : World} {r : Nat} {v : Value} {L : List (Int × List Int)} {bv : List Value} {dead armed : Bool} {left : Int} (h : RDiskA w r v L bv dead armed left) : w.cell? ⟨r, 1, none⟩ = some (.bool dead) := by simp [World.cell?, h.blk]
theorem RDiskA.c2 {w : World} {r : Nat} {v : Value} {L : List (Int × List Int)} {bv : List Value} {dead armed : Bool} {left : Int} (h : RDiskA w r v L bv dead armed left) : w.cell? ⟨r, 2, none⟩ = some (.bool armed) := by simp [World.cell?, h.blk]
theorem RDiskA.c3 {w : World} {r : Nat} {v : Value} {L : List (Int × List Int)} {bv : List Value} {dead armed : Bool} {left : Int} (h : RDiskA w r v L bv dead armed left) : w.cell? ⟨r, 3, none⟩ = some (.int .i64 left) := by simp [World.cell?, h.blk]
theorem RDiskA.fr {w : World} {r : Nat} {v : Value} {L : List (Int × List Int)} {bv : List Value} {dead armed : Bool} {left : Int} (h : RDiskA w r v L bv dead armed left) (i : Nat) : w.frozen? ⟨r, i, none⟩ = false := by simp [World.frozen?, h.blk]
theorem RDiskA.turn {w w' : World} {r : Nat} {v : Value} {L : List (Int × List Int)} {bv : List Value} {dead armed dead' armed' : Bool} {left left' : Int} (h : RDiskA w r v L bv dead armed left) (hc : Chg [r] w w')
    (hb : w'.heap[r]? = some (.cells #[v, .bool dead', .bool armed', .int .i64 left'] 62 (0, 0))) : RDiskA w' r v L bv dead' armed' left' := by
  have ht : Typed w [r] [62] := fun g cs e fr hg hne hm => by
    simp at hm; subst hm
    rw [h.blk] at hg; injection hg with hg; injection hg with _ he _; exact hne (by simp [← he])
  refine ⟨hb, ⟨h.log.1, ?_⟩, h.len, h.bvl, fun i x u hx hu => ?_⟩
  · rcases h.log.2 with h0 | ⟨g, cap, cur, rfl, hg, hh, r⟩
    · exact .inl h0
    · exact .inr ⟨g, cap, cur, rfl, hg, hc.at hh (ht _ _ _ _ hh (by decide)), r⟩
  · obtain ⟨g, c, hu, hg⟩ := h.byt i x u hx hu
    exact ⟨g, c, hu, hc.at hg (ht _ _ _ _ hg (by decide))⟩
theorem rup_ok (r : Nat) (v : Value) (L : List (Int × List Int)) (bv : List Value) (dead armed : Bool) (left : Int) (w : World) (hD : RDiskA w r v L bv dead armed left) :
    Calls Try.prog 39 #[.pointer (some ⟨r, 0, none⟩)] w fun e w' => e = .returned (.int .i64 0) ∧ RDiskA w' r v L bv false false left ∧ Chg [r] w w' := by
  have c1 := hD.c1
  have c2 := hD.c2
  have f1 := hD.fr 1
  have f2 := hD.fr 2
  have HD := Lib.hid hD
  clear hD
  go_enter Try.func39, Try.ntmps39
  go_wp2
  go_ret
  have hC : Chg [r] w ((w.setCell ⟨r, 1, none⟩ (.bool false)).setCell ⟨r, 2, none⟩ (.bool false)) := ((Chg.refl _ _).setCell _ _ (by simp)).setCell _ _ (by simp)
  exact ⟨rfl, HD.out.turn hC (heap_setCell_same _ r 2 _ _ _ (heap_setCell_same w r 1 _ _ _ HD.out.blk)), hC⟩
theorem rarm_down (r : Nat) (v : Value) (L : List (Int × List Int)) (bv : List Value) (armed : Bool) (left n : Int) (w : World) (hD : RDiskA w r v L bv true armed left) :
    Calls Try.prog 37 #[.pointer (some ⟨r, 0, none⟩), .int .i64 n] w fun e w' => e = .returned (.int .i64 5) ∧ w = w' := by
  have c1 := hD.c1
  go_enter Try.func37, Try.ntmps37
  go_wp2
  go_ret
  exact ⟨rfl, rfl⟩
theorem rarm_arg (r : Nat) (v : Value) (L : List (Int × List Int)) (bv : List Value) (armed : Bool) (left n : Int) (w : World) (hD : RDiskA w r v L bv false armed left) (h : n < 0 ∨ 1073741824 < n) :
    Calls Try.prog 37 #[.pointer (some ⟨r, 0, none⟩), .int .i64 n] w fun e w' => e = .returned (.int .i64 2) ∧ w = w' := by
  have c1 := hD.c1
  by_cases h1 : n < 0
  · have g1 : decide (n < 0) = true := by simpa using h1
    go_enter Try.func37, Try.ntmps37
    go_wp2
    go_ret
    exact ⟨rfl, rfl⟩
  · have g1 : decide (n < 0) = false := by simpa using h1
    have g2 : decide (1073741824 < n) = true := by simp; omega
    go_enter Try.func37, Try.ntmps37
    go_wp2
    go_ret
    exact ⟨rfl, rfl⟩
theorem rarm_ok (r : Nat) (v : Value) (L : List (Int × List Int)) (bv : List Value) (armed : Bool) (left n : Int) (w : World) (hD : RDiskA w r v L bv false armed left) (h1 : 0 ≤ n) (h2 : n ≤ 1073741824) :
    Calls Try.prog 37 #[.pointer (some ⟨r, 0, none⟩), .int .i64 n] w fun e w' => e = .returned (.int .i64 0) ∧ RDiskA w' r v L bv false true n ∧ Chg [r] w w' := by
  have c1 := hD.c1
  have c2 := hD.c2
  have c3 := hD.c3
  have f2 := hD.fr 2
  have f3 := hD.fr 3
  have HD := Lib.hid hD
  clear hD
  have g1 : decide (n < 0) = false := by simp; omega
  have g2 : decide (1073741824 < n) = false := by simp; omega
  go_enter Try.func37, Try.ntmps37
  go_wp2
  go_ret
  have hC : Chg [r] w ((w.setCell ⟨r, 2, none⟩ (.bool true)).setCell ⟨r, 3, none⟩ (.int .i64 n)) := ((Chg.refl _ _).setCell _ _ (by simp)).setCell _ _ (by simp)
  exact ⟨rfl, HD.out.turn hC (heap_setCell_same _ r 3 _ _ _ (heap_setCell_same w r 2 _ _ _ HD.out.blk)), hC⟩
theorem rwrite_down (r : Nat) (v : Value) (L : List (Int × List Int)) (bv : List Value) (armed : Bool) (left n : Int) (A : Option Addr) (len cap : Nat) (w : World) (hD : RDiskA w r v L bv true armed left) :
    Calls Try.prog 33 #[.pointer (some ⟨r, 0, none⟩), .int .i64 n, .slice A len cap] w fun e w' => e = .returned (.int .i64 5) ∧ w = w' := by
  have c1 := hD.c1
  go_enter Try.func33, Try.ntmps33
  go_wp2
  go_ret
  exact ⟨rfl, rfl⟩
theorem rwrite_arg (r : Nat) (v : Value) (L : List (Int × List Int)) (bv : List Value) (armed : Bool) (left n : Int) (A : Option Addr) (len cap : Nat) (w : World) (hD : RDiskA w r v L bv false armed left) (h : n < 0 ∨ 2049 ≤ n ∨ 64 < len) :
    Calls Try.prog 33 #[.pointer (some ⟨r, 0, none⟩), .int .i64 n, .slice A len cap] w fun e w' => e = .returned (.int .i64 2) ∧ w = w' := by
  have c1 := hD.c1
  by_cases h1 : n < 0
  · have g1 : decide (n < 0) = true := by simpa using h1
    go_enter Try.func33, Try.ntmps33
    go_wp2
    go_ret
    exact ⟨rfl, rfl⟩
  · have g1 : decide (n < 0) = false := by simpa using h1
    by_cases h2 : 2049 ≤ n
    · have g2 : decide (2049 ≤ n) = true := by simpa using h2
      go_enter Try.func33, Try.ntmps33
      go_wp2
      go_ret
      exact ⟨rfl, rfl⟩
    · have g2 : decide (2049 ≤ n) = false := by simpa using h2
      have g3 : decide (64 < len) = true := by simp; omega
      go_enter Try.func33, Try.ntmps33
      go_wp2
      go_ret
      exact ⟨rfl, rfl⟩
theorem rwrite_last (r : Nat) (v : Value) (L : List (Int × List Int)) (bv : List Value) (n : Int) (A : Option Addr) (len cap : Nat) (w : World) (hD : RDiskA w r v L bv false true 0) (h1 : 0 ≤ n) (h2 : n < 2049) (h3 : len ≤ 64) :
    Calls Try.prog 33 #[.pointer (some ⟨r, 0, none⟩), .int .i64 n, .slice A len cap] w fun e w' => e = .returned (.int .i64 5) ∧ RDiskA w' r v L bv true true 0 ∧ Chg [r] w w' := by
  have c1 := hD.c1
  have c2 := hD.c2
  have c3 := hD.c3
  have f1 := hD.fr 1
  have HD := Lib.hid hD
  clear hD
  have g1 : decide (n < 0) = false := by simp; omega
  have g2 : decide (2049 ≤ n) = false := by simp; omega
  have g3 : decide (64 < len) = false := by simp; omega
  go_enter Try.func33, Try.ntmps33
  go_wp2
  go_ret
  have hC : Chg [r] w (w.setCell ⟨r, 1, none⟩ (.bool true)) := (Chg.refl _ _).setCell _ _ (by simp)
  exact ⟨rfl, HD.out.turn hC (heap_setCell_same w r 1 _ _ _ HD.out.blk), hC⟩
end Go.Proofs.Ytipijkpjmpejlaa
