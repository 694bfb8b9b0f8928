/- Laws over any program: what a call may change, maps keyed by ints, rows of cells. No condition. -/
import Derived.WalkKit
import Derived.Lib.Hide
import Derived.Deep.RegionHeld3
import Derived.Deep.QuietTactic
import Derived.BigQuiet
import Derived.Deep.MidRow
/-! Laws of the work's own, over any program: what a call may change (Chg), maps keyed by int, copies of cells. -/
namespace Go.Proofs.Ytipijkpjmpejlaa
open Go.RowKit

/-! ### What may have changed: the blocks of a list, and new ones -/
structure Chg (l : List Nat) (w w' : World) : Prop where
  os : w'.os = w.os
  tape : w'.tape = w.tape
  output : w'.output = w.output
  size : w.heap.size ≤ w'.heap.size
  block : ∀ k, k < w.heap.size → k ∉ l → w'.heap[k]? = w.heap[k]?
theorem Chg.refl (l : List Nat) (w : World) : Chg l w w := ⟨rfl, rfl, rfl, Nat.le_refl _, fun _ _ _ => rfl⟩
theorem Chg.trans {l : List Nat} {a b c : World} (h : Chg l a b) (k : Chg l b c) : Chg l a c :=
  ⟨k.os.trans h.os, k.tape.trans h.tape, k.output.trans h.output, Nat.le_trans h.size k.size, fun i hi hl => (k.block i (Nat.lt_of_lt_of_le hi h.size) hl).trans (h.block i hi hl)⟩
/-- The second step may touch what is new since the first began. -/
theorem Chg.andThen {l l' : List Nat} {a b c : World} (h : Chg l a b) (k : Chg l' b c) (hl : ∀ i, i ∈ l' → i ∈ l ∨ a.heap.size ≤ i) : Chg l a c :=
  ⟨k.os.trans h.os, k.tape.trans h.tape, k.output.trans h.output, Nat.le_trans h.size k.size, fun i hi hn => (k.block i (Nat.lt_of_lt_of_le hi h.size) (fun hm => by
    rcases hl i hm with h1 | h1
    · exact hn h1
    · omega)).trans (h.block i hi hn)⟩
theorem Chg.mono {l l' : List Nat} {a b : World} (h : Chg l a b) (hl : ∀ i, i ∈ l → i ∈ l' ∨ a.heap.size ≤ i) : Chg l' a b := (Chg.refl l' a).andThen h hl
theorem Chg.alloc {l : List Nat} {a w : World} (h : Chg l a w) (o : Obj) : Chg l a (w.alloc o) :=
  h.andThen (l' := []) ⟨rfl, rfl, rfl, by simp, fun k hk _ => Below.heap_alloc _ _ _ hk⟩ (by simp)
theorem Chg.drew {l : List Nat} {a w : World} (h : Chg l a w) : Chg l a w.drew := ⟨h.os, h.tape, h.output, h.size, h.block⟩
theorem Chg.drewN {l : List Nat} {a w : World} (h : Chg l a w) (n : Nat) : Chg l a (w.drewN n) := ⟨h.os, h.tape, h.output, h.size, h.block⟩
theorem Chg.setCell {l : List Nat} {a w : World} (h : Chg l a w) (p : Addr) (u : Value) (hp : p.block ∈ l ∨ a.heap.size ≤ p.block) : Chg l a (w.setCell p u) :=
  h.andThen (l' := [p.block]) ⟨rfl, rfl, rfl, by simp [World.setCell], fun k hk hn => Below.heap_setCell _ _ _ _ (by simpa using hn)⟩ (by simpa using hp)
theorem Chg.below {w w' : World} (h : Chg [] w w') : Below w.heap.size w w' := ⟨h.os, h.tape, h.output, h.size, fun k hk => h.block k hk (by simp)⟩
theorem Chg.of_below {w w' : World} (h : Below w.heap.size w w') : Chg [] w w' := ⟨h.os, h.tape, h.output, h.size, fun k hk _ => h.block k hk⟩
theorem Chg.at {l : List Nat} {w w' : World} (h : Chg l w w') {b : Nat} {o : Obj} (hb : w.heap[b]? = some o) (hn : b ∉ l) : w'.heap[b]? = some o :=
  (h.block b (Array.getElem?_eq_some_iff.1 hb).1 hn).trans hb
theorem Chg.cell {l : List Nat} {w w' : World} (h : Chg l w w') {p : Addr} {v : Value} (hb : w.cell? p = some v) (hn : p.block ∉ l) : w'.cell? p = some v :=
  (World.cell?_of_block (w := w) (h.block p.block (World.block_lt_of_cell? w p hb) hn)).trans hb
theorem lt_of_block {w : World} {b : Nat} {o : Obj} (h : w.heap[b]? = some o) : b < w.heap.size := (Array.getElem?_eq_some_iff.1 h).1

theorem heap_new (w : World) (o : Obj) {n : Nat} (h : n = w.heap.size) : (w.alloc o).heap[n]? = some o := by subst h; exact (Go.MapKept.heap_alloc w o).1
theorem heap_old {w : World} {b : Nat} {v : Obj} (h : w.heap[b]? = some v) (o : Obj) : (w.alloc o).heap[b]? = some v := by rw [(Go.MapKept.heap_alloc w o).2 b (lt_of_block h)]; exact h

/-! ### Maps whose keys are ints: what is read at a key -/
def keyInt : Value → Int | .int _ n => n | _ => 0
def findI : List MapEntry → Int → Option Value
  | [], _ => none
  | e :: es, n => if keyInt e.key = n then some e.val else findI es n
structure KeysI (l : List MapEntry) : Prop where
  ints : ∀ e ∈ l, e.key = .int .i64 (keyInt e.key)
  apart : l.Pairwise fun a b => keyInt a.key ≠ keyInt b.key
def MapI (w : World) (b : Nat) (m : Int → Option Value) : Prop :=
  ∃ es clock, w.heap[b]? = some (.map es clock) ∧ KeysI es.toList ∧ ∀ n, findI es.toList n = m n
theorem MapI.lt {w : World} {b : Nat} {m : Int → Option Value} (h : MapI w b m) : b < w.heap.size := by
  obtain ⟨es, clock, h, _⟩ := h; exact lt_of_block h
theorem MapI.of_block {w w' : World} {b : Nat} {m : Int → Option Value} (h : MapI w b m) (hb : w'.heap[b]? = w.heap[b]?) : MapI w' b m := by
  obtain ⟨es, clock, h1, h2, h3⟩ := h; exact ⟨es, clock, hb.trans h1, h2, h3⟩
theorem MapI.kept {l : List Nat} {w w' : World} {b : Nat} {m : Int → Option Value} (h : MapI w b m) (hc : Chg l w w') (hn : b ∉ l) : MapI w' b m := h.of_block (hc.block b h.lt hn)
theorem MapI.made (w : World) : MapI (w.alloc (.map #[] 0)) w.heap.size (fun _ => none) :=
  ⟨#[], 0, by show (w.heap.push _)[w.heap.size]? = _; simp, ⟨by simp, by simp⟩, fun n => by simp [findI]⟩
theorem findNow_I (n : Int) : ∀ (l : List MapEntry) (i : Nat), (∀ e ∈ l, e.key = .int .i64 (keyInt e.key)) →
    (∃ j v, Instr.findNow (.int .i64) (.int .i64 n) l i = some (some (i + j, v)) ∧ findI l n = some v ∧ (∃ e, l[j]? = some e ∧ keyInt e.key = n ∧ e.val = v) ∧ ∀ k, k < j → ∀ e, l[k]? = some e → keyInt e.key ≠ n)
    ∨ (Instr.findNow (.int .i64) (.int .i64 n) l i = some none ∧ findI l n = none ∧ ∀ e ∈ l, keyInt e.key ≠ n) := by
  intro l
  induction l with
  | nil => intro i _; exact .inr ⟨rfl, rfl, by simp⟩
  | cons e l ih =>
    intro i hk
    have he := hk e (by simp)
    by_cases hn : keyInt e.key = n
    · refine .inl ⟨0, e.val, ?_, by simp [findI, hn], ⟨e, by simp, hn, rfl⟩, by simp⟩
      rw [Instr.findNow, he, hn]; simp [Instr.sameNow]
    · have hs : Instr.sameNow (.int .i64) (.int .i64 n) e.key = some false := by
        rw [he]; simp [Instr.sameNow]; exact fun h => hn h.symm
      rcases ih (i + 1) (fun e he => hk e (by simp [he])) with ⟨j, v, h1, h2, ⟨e', h3, h4⟩, h5⟩ | ⟨h1, h2, h3⟩
      · refine .inl ⟨j + 1, v, ?_, by simp [findI, hn, h2], ⟨e', by simpa using h3, h4⟩, ?_⟩
        · rw [Instr.findNow, hs]; simp only []; rw [h1, Nat.add_assoc, Nat.add_comm 1 j]
        · intro k hk' e'' he''
          cases k with
          | zero => simp at he''; subst he''; exact hn
          | succ k => exact h5 k (by omega) e'' (by simpa using he'')
      · refine .inr ⟨by rw [Instr.findNow, hs]; exact h1, by simp [findI, hn, h2], ?_⟩
        intro e' he'
        rcases List.mem_cons.1 he' with rfl | h
        · exact hn
        · exact h3 e' h

/-- A block that is written whole. -/
def putBlk (w : World) (b : Nat) (o : Obj) : World := { w with heap := w.heap.setIfInBounds b o }
theorem Chg.putBlk (w : World) (b : Nat) (o : Obj) : Chg [b] w (putBlk w b o) :=
  ⟨rfl, rfl, rfl, by simp [Proofs.Ytipijkpjmpejlaa.putBlk], fun k _ hn => by
    show (w.heap.setIfInBounds b o)[k]? = _
    rw [Array.getElem?_setIfInBounds, if_neg (fun e => hn (by simp [e]))]⟩
theorem putBlk_at {w : World} {b : Nat} (o : Obj) (h : b < w.heap.size) : (putBlk w b o).heap[b]? = some o := by
  show (w.heap.setIfInBounds b o)[b]? = _
  simp [h]

theorem findI_modify (n : Int) (v : Value) : ∀ (l : List MapEntry) (j : Nat) (e : MapEntry) (f : MapEntry → MapEntry), l[j]? = some e → keyInt e.key = n → (∀ k, k < j → ∀ e, l[k]? = some e → keyInt e.key ≠ n) → (∀ e, keyInt (f e).key = n) → (∀ e, (f e).val = v) →
    ∀ x, findI (l.modify j f) x = if x = n then some v else findI l x
  | [], j, e, f, h, _, _, _, _ => by simp at h
  | a :: l, 0, e, f, h, hn, _, hf, hv => by
    intro x
    simp at h; subst h
    rw [show (a :: l).modify 0 f = f a :: l from rfl]
    simp only [findI, hf, hv, hn]
    by_cases hx : x = n
    · rw [if_pos hx.symm, if_pos hx]
    · rw [if_neg (fun e => hx e.symm), if_neg hx, if_neg (fun e => hx e.symm)]
  | a :: l, j + 1, e, f, h, hn, hb, hf, hv => by
    intro x
    have ih := findI_modify n v l j e f (by simpa using h) hn (fun k hk e he => hb (k + 1) (by omega) e (by simpa using he)) hf hv x
    rw [show (a :: l).modify (j + 1) f = a :: l.modify j f from rfl]
    simp only [findI, ih]
    have := hb 0 (by omega) a (by simp)
    by_cases hx : x = n
    · subst hx; rw [if_neg this, if_pos rfl, if_pos rfl]
    · rw [if_neg hx, if_neg hx]
theorem findI_append (x : Int) (e : MapEntry) : ∀ l : List MapEntry, (∀ a ∈ l, keyInt a.key ≠ keyInt e.key) → findI (l ++ [e]) x = if x = keyInt e.key then some e.val else findI l x
  | [], _ => by simp [findI, eq_comm]
  | a :: l, h => by
    have ih := findI_append x e l (fun a ha => h a (by simp [ha]))
    simp only [List.cons_append, findI, ih]
    have := h a (by simp)
    by_cases hx : x = keyInt e.key
    · subst hx; rw [if_neg this, if_pos rfl, if_pos rfl]
    · rw [if_neg hx, if_neg hx]
theorem findI_none (n : Int) : ∀ l : List MapEntry, (∀ a ∈ l, keyInt a.key ≠ n) → findI l n = none
  | [], _ => rfl
  | a :: l, h => by simp only [findI]; rw [if_neg (h a (by simp))]; exact findI_none n l (fun a ha => h a (by simp [ha]))
theorem findI_erase (n : Int) : ∀ (l : List MapEntry) (j : Nat) (e : MapEntry), KeysI l → l[j]? = some e → keyInt e.key = n → ∀ x, findI (l.eraseIdx j) x = if x = n then none else findI l x
  | [], j, e, _, h, _ => by simp at h
  | a :: l, 0, e, hk, h, hn => by
    intro x
    simp at h; subst h
    have ha := (List.pairwise_cons.1 hk.apart).1
    rw [show (a :: l).eraseIdx 0 = l from rfl]
    by_cases hx : x = n
    · rw [if_pos hx, hx]; exact findI_none n l (fun b hb => by rw [← hn]; exact (ha b hb).symm)
    · simp only [findI]; rw [if_neg hx, if_neg (by rw [hn]; exact fun e => hx e.symm)]
  | a :: l, j + 1, e, hk, h, hn => by
    intro x
    have hk' : KeysI l := ⟨fun e he => hk.ints e (by simp [he]), (List.pairwise_cons.1 hk.apart).2⟩
    have ih := findI_erase n l j e hk' (by simpa using h) hn x
    have hmem : e ∈ l := List.mem_of_getElem? (by simpa using h)
    have ha : keyInt a.key ≠ n := by rw [← hn]; exact (List.pairwise_cons.1 hk.apart).1 e hmem
    rw [show (a :: l).eraseIdx (j + 1) = a :: l.eraseIdx j from rfl]
    simp only [findI, ih]
    by_cases hx : x = n
    · subst hx; rw [if_neg ha, if_pos rfl, if_pos rfl]
    · rw [if_neg hx, if_neg hx]
theorem KeysI.modify {l : List MapEntry} (h : KeysI l) (j : Nat) (f : MapEntry → MapEntry) (hf : ∀ e, l[j]? = some e → (f e).key = e.key) : KeysI (l.modify j f) := by
  have hm : (l.modify j f).map (·.key) = l.map (·.key) := by
    apply List.ext_getElem?
    intro i
    simp only [List.getElem?_map, List.getElem?_modify]
    by_cases e : j = i
    · subst e
      cases hl : l[j]? with
      | none => simp
      | some x => simp [hf x hl]
    · simp [e]
  constructor
  · intro e he
    have : e.key ∈ (l.modify j f).map (·.key) := List.mem_map.2 ⟨e, he, rfl⟩
    rw [hm] at this
    obtain ⟨e', he', hk⟩ := List.mem_map.1 this
    rw [← hk]; exact h.ints e' he'
  · have h1 : (l.map (·.key)).Pairwise (fun a b => keyInt a ≠ keyInt b) := List.pairwise_map.2 h.apart
    rw [← hm] at h1
    exact (List.pairwise_map (f := fun x : MapEntry => x.key) (R := fun a b => keyInt a ≠ keyInt b)).1 h1
theorem KeysI.push {l : List MapEntry} (h : KeysI l) (e : MapEntry) (he : e.key = .int .i64 (keyInt e.key)) (hn : ∀ a ∈ l, keyInt a.key ≠ keyInt e.key) : KeysI (l ++ [e]) :=
  ⟨fun a ha => by
    rcases List.mem_append.1 ha with h1 | h1
    · exact h.ints a h1
    · simp at h1; subst h1; exact he, List.pairwise_append.2 ⟨h.apart, by simp, fun a ha b hb => by simp at hb; subst hb; exact hn a ha⟩⟩
theorem KeysI.erase {l : List MapEntry} (h : KeysI l) (j : Nat) : KeysI (l.eraseIdx j) :=
  ⟨fun e he => h.ints e (List.mem_of_mem_eraseIdx he), h.apart.sublist (List.eraseIdx_sublist l j)⟩
/-- A map with the value v at the key n. -/
def updI (m : Int → Option Value) (n : Int) (v : Option Value) : Int → Option Value := fun x => if x = n then v else m x
theorem updI_same (m : Int → Option Value) (n : Int) (v : Option Value) : updI m n v n = v := by simp [updI]
theorem updI_other (m : Int → Option Value) {n x : Int} (v : Option Value) (h : x ≠ n) : updI m n v x = m x := by simp [updI, h]
section
open Go.MapKept
variable {P : Program} {T K E : TypeId} {w : World} {b : Nat} {m : Int → Option Value}
theorem isKey_int (n : Int) : IsKey (.int .i64) (.int .i64 n) := by simp [IsKey]
theorem lookup_run (hT : P.underlying T = some (.map K E)) (hK : P.underlying K = some (.int .i64)) {z : Value} (hz : (zeroValue E).run P w = .ok z w) (h : MapI w b m) (n : Int) (ok : Bool) :
    (Instr.lookup T (.map (some b)) (.int .i64 n) ok).run P w = .ok (if ok then .tuple #[(m n).getD z, .bool (m n).isSome] else (m n).getD z) w := by
  obtain ⟨es, clock, h1, hk, hm⟩ := h
  rw [← hm n]
  rcases findNow_I n es.toList 0 hk.ints with ⟨j, v, h2, h3, _⟩ | ⟨h2, h3, _⟩
  · simp [Instr.lookup, run_underlying hT, Go.MapKept.run_getObj_map h1, Go.MapKept.run_checkKey hK (isKey_int n), run_findKey hK h2, Result.andThen, h3]
  · simp [Instr.lookup, run_underlying hT, Go.MapKept.run_getObj_map h1, Go.MapKept.run_checkKey hK (isKey_int n), run_findKey hK h2, Result.andThen, h3, hz]
theorem update_run (hT : P.underlying T = some (.map K E)) (hK : P.underlying K = some (.int .i64)) (h : MapI w b m) (n : Int) (v : Value) :
    ∃ es c, (Instr.mapUpdate T (.map (some b)) (.int .i64 n) v).run P w = .ok () (putBlk w b (.map es c)) ∧ MapI (putBlk w b (.map es c)) b (updI m n (some v)) := by
  obtain ⟨es, clock, h1, hk, hm⟩ := h
  have hb := lt_of_block h1
  rcases findNow_I n es.toList 0 hk.ints with ⟨j, u, h2, h3, ⟨e, he, hn, hv⟩, hlt⟩ | ⟨h2, h3, hne⟩
  · have hj : es[j]? = some e := by simpa using he
    have hek : e.key = .int .i64 n := by rw [hk.ints e (List.mem_of_getElem? he), hn]
    refine ⟨es.modify (0 + j) fun e => { e with key := .int .i64 n, val := v }, clock, ?_, _, _, putBlk_at _ hb, ?_, ?_⟩
    · simp [Instr.mapUpdate, run_underlying hT, Go.MapKept.run_getObj_map h1, Go.MapKept.run_checkKey hK (isKey_int n), run_findKey hK h2, hj, hek, run_keyThatStays (isKey_int n), Go.MapKept.run_setObj_map _ h1, Result.andThen]
      rfl
    · rw [Array.toList_modify]
      refine hk.modify _ _ (fun e' he' => ?_)
      rw [Nat.zero_add, he] at he'
      cases he'; exact hek.symm
    · intro x
      rw [Array.toList_modify]
      simp only [updI, ← hm]
      exact findI_modify n v es.toList _ e _ (by rw [Nat.zero_add]; exact he) hn (fun k hk' => hlt k (by omega)) (fun _ => rfl) (fun _ => rfl) x
  · refine ⟨es.push { key := .int .i64 n, val := v, born := clock }, clock + 1, ?_, _, _, putBlk_at _ hb, ?_, ?_⟩
    · simp [Instr.mapUpdate, run_underlying hT, Go.MapKept.run_getObj_map h1, Go.MapKept.run_checkKey hK (isKey_int n), run_findKey hK h2, Go.MapKept.run_setObj_map _ h1, Result.andThen]
      rfl
    · rw [Array.toList_push]
      exact hk.push _ rfl (fun a ha => hne a ha)
    · intro x
      rw [Array.toList_push]
      simp only [updI, ← hm]
      exact findI_append x _ es.toList (fun a ha => hne a ha)
theorem delete_run (t0 t : TypeId) (hT : P.underlying T = some (.map K E)) (hK : P.underlying K = some (.int .i64)) (h : MapI w b m) (n : Int) :
    ∃ es c, (Builtin.delete_ #[T, t0] t #[.map (some b), .int .i64 n]).run P w = .ok (.tuple #[]) (putBlk w b (.map es c)) ∧ MapI (putBlk w b (.map es c)) b (updI m n none) := by
  obtain ⟨es, clock, h1, hk, hm⟩ := h
  have hb := lt_of_block h1
  rcases findNow_I n es.toList 0 hk.ints with ⟨j, u, h2, h3, ⟨e, he, hn, hv⟩, hlt⟩ | ⟨h2, h3, hne⟩
  · refine ⟨es.eraseIdxIfInBounds (0 + j), clock, ?_, _, _, putBlk_at _ hb, ?_, ?_⟩
    · simp [Builtin.delete_, run_underlying hT, Go.MapKept.run_getObj_map h1, Go.MapKept.run_checkKey hK (isKey_int n), run_findKey hK h2, Go.MapKept.run_setObj_map _ h1, Result.andThen]
      rfl
    · rw [Array.toList_eraseIdxIfInBounds]
      exact hk.erase _
    · intro x
      rw [Array.toList_eraseIdxIfInBounds]
      simp only [updI, ← hm]
      rw [Nat.zero_add]; exact findI_erase n es.toList j e hk he hn x
  · refine ⟨es, clock, ?_, _, _, putBlk_at _ hb, hk, ?_⟩
    · simp [Builtin.delete_, run_underlying hT, Go.MapKept.run_getObj_map h1, Go.MapKept.run_checkKey hK (isKey_int n), run_findKey hK h2, Go.MapKept.run_setObj_map _ h1, Result.andThen]
      rfl
    · intro x
      simp only [updI]
      by_cases hx : x = n
      · rw [if_pos hx, hx]; exact h3
      · rw [if_neg hx]; exact hm x
end

/-! ### The world at hand gets a name; what is kept of it is told -/
theorem wp_world {P : Program} {c : Code} {Q : Exit → Act → World → Prop} {a : Act} {w : World} (R : World → Prop) (h : R w) (k : ∀ w', R w' → c.wp P Q a w') : c.wp P Q a w := k w h
theorem wpList_world {P : Program} {ops : Array Oper} {l : List Oper} {Q : Exit → Act → World → Prop} {a : Act} {w : World} (R : World → Prop) (h : R w) (k : ∀ w', R w' → wpList P ops Q l a w') : wpList P ops Q l a w := k w h
theorem cell_putBlk {w : World} {b : Nat} {o : Obj} {p : Addr} (h : p.block ≠ b) : (putBlk w b o).cell? p = w.cell? p :=
  World.cell?_of_block (w := w) (by show (w.heap.setIfInBounds b o)[p.block]? = _; rw [Array.getElem?_setIfInBounds, if_neg (fun e => h e.symm)])
theorem putBlk_drew (w : World) (b : Nat) (o : Obj) : putBlk w.drew b o = (putBlk w b o).drew := rfl
theorem Chg.range {l : List Nat} {w w' : World} (h : Chg l w w') {b o : Nat} {cs : List Value} (hr : w.rangeAt b o cs) (hn : b ∉ l) : w'.rangeAt b o cs := fun j v hv => h.cell (hr j v hv) hn
end Go.Proofs.Ytipijkpjmpejlaa
