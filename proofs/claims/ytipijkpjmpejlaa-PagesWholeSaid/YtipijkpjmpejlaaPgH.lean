import Derived.Test.YtipijkpjmpejlaaPgG
/- What calls on pages may change, by the kinds of blocks; a disk's state and one write, told whole; the contract of pages.first. -/
set_option linter.unusedVariables false
set_option linter.unusedSimpArgs false
namespace Go.Proofs.Ytipijkpjmpejlaa
open Go.RowKit
/-- A block's kind: its cells' type; none for all else. -/
def okind : Obj → Option TypeId
  | .cells _ t _ => some t
  | _ => none
/-- Nothing older than w0 has changed, and nothing newer but of the kinds of T. -/
structure ChgT (w0 : World) (T : List (Option TypeId)) (w w' : World) : Prop where
  os : w'.os = w.os
  tape : w'.tape = w.tape
  output : w'.output = w.output
  size : w.heap.size ≤ w'.heap.size
  block : ∀ k, k < w.heap.size → (k < w0.heap.size ∨ ∀ o, w.heap[k]? = some o → okind o ∉ T) → w'.heap[k]? = w.heap[k]?
theorem ChgT.refl (w0 : World) (T : List (Option TypeId)) (w : World) : ChgT w0 T w w := ⟨rfl, rfl, rfl, Nat.le_refl _, fun _ _ _ => rfl⟩
theorem ChgT.trans {w0 a b c : World} {T : List (Option TypeId)} (h : ChgT w0 T a b) (k : ChgT w0 T b c) : ChgT w0 T a c :=
  ⟨k.os.trans h.os, k.tape.trans h.tape, k.output.trans h.output, Nat.le_trans h.size k.size, fun i hi hl => by
    have h1 := h.block i hi hl
    refine (k.block i (Nat.lt_of_lt_of_le hi h.size) ?_).trans h1
    rcases hl with hl | hl
    · exact .inl hl
    · exact .inr (fun o ho => hl o (by rw [← h1]; exact ho))⟩
theorem ChgT.of_chg {w0 w w' : World} {T : List (Option TypeId)} {l : List Nat} (h : Chg l w w') (hl : ∀ k ∈ l, k < w.heap.size → w0.heap.size ≤ k ∧ ∀ o, w.heap[k]? = some o → okind o ∈ T) : ChgT w0 T w w' :=
  ⟨h.os, h.tape, h.output, h.size, fun k hk hn => h.block k hk (fun hm => by
    obtain ⟨h1, h2⟩ := hl k hm hk
    rcases hn with hn | hn
    · omega
    · exact hn _ (Array.getElem?_eq_getElem hk) (h2 _ (Array.getElem?_eq_getElem hk)))⟩
theorem ChgT.of_nil {w0 w w' : World} {T : List (Option TypeId)} (h : Chg [] w w') : ChgT w0 T w w' := ChgT.of_chg h (by simp)
theorem ChgT.mono {w0 w w' : World} {T T' : List (Option TypeId)} (h : ChgT w0 T w w') (hT : ∀ x ∈ T, x ∈ T') : ChgT w0 T' w w' :=
  ⟨h.os, h.tape, h.output, h.size, fun k hk hn => h.block k hk (hn.imp id fun hn o ho hm => hn o ho (hT _ hm))⟩
theorem ChgT.chg {w0 w : World} {T : List (Option TypeId)} (h : ChgT w0 T w0 w) : Chg [] w0 w := ⟨h.os, h.tape, h.output, h.size, fun k hk _ => h.block k hk (.inl hk)⟩
theorem ChgT.old {w0 w w' : World} {T : List (Option TypeId)} (h : Chg [] w0 w) (k : ChgT w0 T w w') : Chg [] w0 w' :=
  ⟨k.os.trans h.os, k.tape.trans h.tape, k.output.trans h.output, Nat.le_trans h.size k.size, fun i hi hn => (k.block i (Nat.lt_of_lt_of_le hi h.size) (.inl hi)).trans (h.block i hi hn)⟩
theorem ChgT.at {w0 w w' : World} {T : List (Option TypeId)} (h : ChgT w0 T w w') {b : Nat} {o : Obj} (hb : w.heap[b]? = some o) (hn : okind o ∉ T) : w'.heap[b]? = some o :=
  (h.block b (lt_of_block hb) (.inr fun o' ho => by rw [hb] at ho; cases ho; exact hn)).trans hb
theorem ChgT.own {w0 w w' : World} {T : List (Option TypeId)} (hc : ChgT w0 T w w') {base n : Nat} {e : TypeId} {size : Nat} {v : Value} {xs : List Value} (h : w.ownsRow base e size v n xs) (hn : some e ∉ T) : w'.ownsRow base e size v n xs := by
  refine ⟨h.1, ?_⟩
  rcases h.2 with h0 | ⟨g, cap, cur, rfl, hg, hh, r⟩
  · exact .inl h0
  · exact .inr ⟨g, cap, cur, rfl, hg, hc.at hh hn, r⟩
/-- What a disk's write touches. -/
def TD : List (Option TypeId) := [some 126, some 130, none]
/-- A disk's state. -/
structure DS where
  L : List (Int × List Int)
  down : Bool
  armed : Bool
  left : Int
def DS.new : DS := ⟨[], false, false, 0⟩
def DS.err (D : DS) (n : Int) (bs : List Int) : Int := if D.down then 5 else if n < 0 ∨ 2049 ≤ n ∨ 64 < bs.length then 2 else if D.armed = true ∧ D.left = 0 then 5 else 0
def DS.write (D : DS) (n : Int) (bs : List Int) : DS := if D.down then D else if n < 0 ∨ 2049 ≤ n ∨ 64 < bs.length then D else if D.armed = true ∧ D.left = 0 then ⟨D.L, true, D.armed, D.left⟩ else ⟨D.L ++ [(n, padB bs)], false, D.armed, D.left - 1⟩
/-- There is room for k writes more. -/
def DS.Room (D : DS) (k : Nat) : Prop := D.L.length + k < 1048576 ∧ (k : Int) - 1125899906842624 ≤ D.left ∧ D.left ≤ 1125899906842624
theorem DS.Room.less {D : DS} {k j : Nat} (h : D.Room k) (hj : j ≤ k) : D.Room j := ⟨by have := h.1; omega, by have := h.2.1; omega, h.2.2⟩
theorem DS.Room.write {D : DS} {k : Nat} (h : D.Room (k + 1)) (n : Int) (bs : List Int) : (D.write n bs).Room k := by
  obtain ⟨h1, h2, h3⟩ := h
  unfold DS.write
  split
  · exact ⟨by omega, by omega, h3⟩
  · split
    · exact ⟨by omega, by omega, h3⟩
    · split
      · exact ⟨by show D.L.length + k < _; omega, by show _ ≤ D.left; omega, h3⟩
      · exact ⟨by simp; omega, by show _ ≤ D.left - 1; omega, by show D.left - 1 ≤ _; omega⟩
/-- All sectors hold bytes. -/
def DS.Byt (D : DS) : Prop := ∀ x ∈ D.L, Bytes x.2
theorem padB_bytes {bs : List Int} (h : Bytes bs) : Bytes (padB bs) := fun x hx => by
  rcases List.mem_append.1 hx with h1 | h1
  · exact h x h1
  · rw [List.eq_of_mem_replicate h1]; decide
theorem DS.Byt.write {D : DS} (h : D.Byt) (n : Int) {bs : List Int} (hb : Bytes bs) : (D.write n bs).Byt := by
  unfold DS.write
  split
  · exact h
  · split
    · exact h
    · split
      · exact h
      · intro x hx
        rcases List.mem_append.1 hx with h1 | h1
        · exact h x h1
        · simp at h1; subst h1; exact padB_bytes hb
theorem secOf_bytes : ∀ (L : List (Int × List Int)) (k : Int), (∀ x ∈ L, Bytes x.2) → Bytes (secOf L k)
  | [], _, _ => fun x hx => by rw [List.eq_of_mem_replicate hx]; decide
  | y :: L, k, h => by
    simp only [secOf]
    split
    · exact secOf_bytes L k (fun x hx => h x (by simp [hx]))
    · split
      · exact h y (by simp)
      · intro x hx; rw [List.eq_of_mem_replicate hx]; decide
/-- A disk of a state, whose blocks are newer than w0. -/
def DiskI (w0 w : World) (p : Nat) (D : DS) : Prop := ∃ bm v, DiskA w p bm v D.L D.down D.armed D.left ∧ w0.heap.size ≤ p ∧ w0.heap.size ≤ bm ∧ (∀ k, v.ownBlock = some k → w0.heap.size ≤ k) ∧ D.Byt
theorem DiskI.kept {w0 w w' : World} {p : Nat} {D : DS} (h : DiskI w0 w p D) {T : List (Option TypeId)} (hc : ChgT w0 T w w') (h1 : some 126 ∉ T) (h2 : some 130 ∉ T) (h3 : none ∉ T) : DiskI w0 w' p D := by
  obtain ⟨bm, v, hA, h4, h5, h6, h7⟩ := h
  refine ⟨bm, v, ⟨hc.at hA.blk h1, ?_, hc.own hA.log h2, hA.len⟩, h4, h5, h6, h7⟩
  obtain ⟨m, ⟨es, cl, hm, hr⟩, hv⟩ := hA.map
  exact ⟨m, ⟨es, cl, hc.at hm h3, hr⟩, hv⟩
theorem DiskI.kept0 {w0 w w' : World} {p : Nat} {D : DS} (h : DiskI w0 w p D) (hc : Chg [] w w') : DiskI w0 w' p D := h.kept (T := []) (ChgT.of_nil hc) (by simp) (by simp) (by simp)
theorem DiskI.base {w0 w1 w : World} {p : Nat} {D : DS} (h : DiskI w1 w p D) (hb : w0.heap.size ≤ w1.heap.size) : DiskI w0 w p D := by
  obtain ⟨bm, v, hA, h4, h5, h6, h7⟩ := h
  exact ⟨bm, v, hA, Nat.le_trans hb h4, Nat.le_trans hb h5, fun k hk => Nat.le_trans hb (h6 k hk), h7⟩
theorem DiskI.chg {w0 w w' : World} {p bm : Nat} {v : Value} {L : List (Int × List Int)} {down armed : Bool} {left : Int} (h : DiskA w p bm v L down armed left) (hp : w0.heap.size ≤ p) (hb : w0.heap.size ≤ bm) (hv : ∀ k, v.ownBlock = some k → w0.heap.size ≤ k)
    (hc : Chg (p :: bm :: v.ownBlock.toList) w w') : ChgT w0 TD w w' := ChgT.of_chg hc fun k hk _ => by
  simp only [List.mem_cons, Option.mem_toList] at hk
  obtain ⟨m, ⟨es, cl, hm, _⟩, _⟩ := h.map
  rcases hk with rfl | rfl | hk
  · exact ⟨hp, fun o ho => by rw [h.blk] at ho; cases ho; simp [okind, TD]⟩
  · exact ⟨hb, fun o ho => by rw [hm] at ho; cases ho; simp [okind, TD]⟩
  · refine ⟨hv k hk, fun o ho => ?_⟩
    rcases h.log.2 with ⟨rfl, _⟩ | ⟨g, cap, cur, rfl, _, hh, _⟩
    · cases hk
    · cases hk; rw [hh] at ho; cases ho; simp [okind, TD]
set_option maxHeartbeats 1000000 in
theorem write_any (w0 : World) (p : Nat) (D : DS) (n : Int) (A : Option Addr) (bs : List Int) (cap : Nat) (w : World) (hD : DiskI w0 w p D) (hr : D.Room 1) (hB : BytesAt w A bs) (hBp : 0 < bs.length → ∀ ad, A = some ad → ad.block ≠ p) (hby : Bytes bs) :
    Calls Try.prog 29 #[.pointer (some ⟨p, 0, none⟩), .int .i64 n, .slice A bs.length cap] w fun e w' => e = .returned (.int .i64 (D.err n bs)) ∧ DiskI w0 w' p (D.write n bs) ∧ ChgT w0 TD w w' := by
  have hby' := fun (h : D.Byt) => h.write n hby
  obtain ⟨bm, v, hA, h4, h5, h6, h7⟩ := hD
  obtain ⟨L, down, armed, left⟩ := D
  dsimp only at hA
  have hW := hby' h7
  unfold DS.err DS.write at *
  dsimp only at *
  cases down with
  | true =>
    refine (write_down p bm v L armed left n A bs.length cap w hA).mono ?_
    rintro e w' ⟨rfl, rfl⟩
    exact ⟨rfl, ⟨bm, v, hA, h4, h5, h6, h7⟩, ChgT.refl _ _ _⟩
  | false =>
    simp only [Bool.false_eq_true, if_false] at *
    by_cases h : n < 0 ∨ 2049 ≤ n ∨ 64 < bs.length
    · rw [if_pos h] at hW ⊢
      rw [if_pos h]
      refine (write_arg p bm v L armed left n A bs.length cap w hA h).mono ?_
      rintro e w' ⟨rfl, rfl⟩
      exact ⟨rfl, ⟨bm, v, hA, h4, h5, h6, h7⟩, ChgT.refl _ _ _⟩
    · rw [if_neg h] at hW ⊢
      rw [if_neg h]
      by_cases hl : armed = true ∧ left = 0
      · rw [if_pos hl] at hW ⊢
        rw [if_pos hl]
        obtain ⟨rfl, rfl⟩ := hl
        refine (write_last p bm v L n A bs.length cap w hA (by omega) (by omega) (by omega)).mono ?_
        rintro e w' ⟨rfl, hD, hC⟩
        exact ⟨rfl, ⟨bm, v, hD, h4, h5, h6, h7⟩, DiskI.chg hA h4 h5 h6 (hC.mono (by simp))⟩
      · rw [if_neg hl] at hW ⊢
        rw [if_neg hl]
        refine (write_ok p bm v L armed left n A bs cap w hA (by omega) (by omega) (by omega) (by cases armed <;> simp_all) (by have := hr.2.1; simp at this; omega) hr.2.2 hB hBp (by have := hr.1; simp at this; omega)).mono ?_
        rintro e w' ⟨rfl, v', hD, hC, hO⟩
        refine ⟨rfl, ⟨bm, v', hD, h4, h5, fun k hk => ?_, hW⟩, DiskI.chg hA h4 h5 h6 hC⟩
        rcases hO with h | ⟨b, h, hb⟩
        · exact h6 k (by rw [← h]; exact hk)
        · rw [h] at hk; cases hk
          have := lt_of_block hA.blk
          omega
end Go.Proofs.Ytipijkpjmpejlaa
