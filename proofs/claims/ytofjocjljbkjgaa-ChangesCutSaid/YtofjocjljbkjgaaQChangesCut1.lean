/- Parts of the proof of the law ChangesCut, number 1 of 5: laws over memory, contracts of functions, walks. No condition. -/
import Derived.WalkKit
import Derived.Lib.Hide
import Derived.Deep.RegionHeld3
import Derived.Deep.QuietTactic
import Derived.BigQuiet
import Derived.Deep.MidRow
import Derived.OrdersHeld
import Derived.Laws.CopyOwn
import Derived.Maps.AppendAt
import Derived.Laws.StructEq
import Derived.Deep.Slices
import Derived.OpenShut
import Derived.ShutString
import Derived.ChangeOld
import Derived.SizedLaws
import Derived.ProofKit
import Derived.Test.YtofjocjljbkjgaaProg
import Derived.Deep.Upon
import Derived.Laws.ResultCell
import Derived.Laws.EntriesVeiled
set_option linter.unusedVariables false
set_option linter.unusedSimpArgs false
namespace Go.Proofs.Ytofjocjljbkjgaa
open Go.RowKit
structure Chg (l : List Nat) (w w' : World) : Prop where
  os : w'.os = w.os
  tape : w'.tape = w.tape
  output : w'.output = w.output
  size : w.heap.size ≤ w'.heap.size
  block : ∀ k, k < w.heap.size → k ∉ l → w'.heap[k]? = w.heap[k]?
theorem Chg.refl (l : List Nat) (w : World) : Chg l w w := ⟨rfl, rfl, rfl, Nat.le_refl _, fun _ _ _ => rfl⟩
theorem Chg.trans {l : List Nat} {a b c : World} (h : Chg l a b) (k : Chg l b c) : Chg l a c :=
  ⟨k.os.trans h.os, k.tape.trans h.tape, k.output.trans h.output, Nat.le_trans h.size k.size, fun i hi hl => (k.block i (Nat.lt_of_lt_of_le hi h.size) hl).trans (h.block i hi hl)⟩
theorem Chg.andThen {l l' : List Nat} {a b c : World} (h : Chg l a b) (k : Chg l' b c) (hl : ∀ i, i ∈ l' → i ∈ l ∨ a.heap.size ≤ i) : Chg l a c :=
  ⟨k.os.trans h.os, k.tape.trans h.tape, k.output.trans h.output, Nat.le_trans h.size k.size, fun i hi hn => (k.block i (Nat.lt_of_lt_of_le hi h.size) (fun hm => by
    rcases hl i hm with h1 | h1
    · exact hn h1
    · omega)).trans (h.block i hi hn)⟩
theorem Chg.mono {l l' : List Nat} {a b : World} (h : Chg l a b) (hl : ∀ i, i ∈ l → i ∈ l' ∨ a.heap.size ≤ i) : Chg l' a b := (Chg.refl l' a).andThen h hl
theorem Chg.alloc {l : List Nat} {a w : World} (h : Chg l a w) (o : Obj) : Chg l a (w.alloc o) :=
  h.andThen (l' := []) ⟨rfl, rfl, rfl, by simp, fun k hk _ => Below.heap_alloc _ _ _ hk⟩ (by simp)
theorem Chg.drew {l : List Nat} {a w : World} (h : Chg l a w) : Chg l a w.drew := ⟨h.os, h.tape, h.output, h.size, h.block⟩
theorem Chg.drewN {l : List Nat} {a w : World} (h : Chg l a w) (n : Nat) : Chg l a (w.drewN n) := ⟨h.os, h.tape, h.output, h.size, h.block⟩
theorem Chg.setCell {l : List Nat} {a w : World} (h : Chg l a w) (p : Addr) (u : Value) (hp : p.block ∈ l ∨ a.heap.size ≤ p.block) : Chg l a (w.setCell p u) :=
  h.andThen (l' := [p.block]) ⟨rfl, rfl, rfl, by simp [World.setCell], fun k hk hn => Below.heap_setCell _ _ _ _ (by simpa using hn)⟩ (by simpa using hp)
theorem Chg.below {w w' : World} (h : Chg [] w w') : Below w.heap.size w w' := ⟨h.os, h.tape, h.output, h.size, fun k hk => h.block k hk (by simp)⟩
theorem Chg.at {l : List Nat} {w w' : World} (h : Chg l w w') {b : Nat} {o : Obj} (hb : w.heap[b]? = some o) (hn : b ∉ l) : w'.heap[b]? = some o :=
  (h.block b (Array.getElem?_eq_some_iff.1 hb).1 hn).trans hb
theorem Chg.cell {l : List Nat} {w w' : World} (h : Chg l w w') {p : Addr} {v : Value} (hb : w.cell? p = some v) (hn : p.block ∉ l) : w'.cell? p = some v :=
  (World.cell?_of_block (w := w) (h.block p.block (World.block_lt_of_cell? w p hb) hn)).trans hb
theorem lt_of_block {w : World} {b : Nat} {o : Obj} (h : w.heap[b]? = some o) : b < w.heap.size := (Array.getElem?_eq_some_iff.1 h).1
theorem heap_new (w : World) (o : Obj) {n : Nat} (h : n = w.heap.size) : (w.alloc o).heap[n]? = some o := by subst h; exact (Go.MapKept.heap_alloc w o).1
theorem heap_old {w : World} {b : Nat} {v : Obj} (h : w.heap[b]? = some v) (o : Obj) : (w.alloc o).heap[b]? = some v := by rw [(Go.MapKept.heap_alloc w o).2 b (lt_of_block h)]; exact h
def keyInt : Value → Int | .int _ n => n | _ => 0
def findI : List MapEntry → Int → Option Value
  | [], _ => none
  | e :: es, n => if keyInt e.key = n then some e.val else findI es n
structure KeysI (l : List MapEntry) : Prop where
  ints : ∀ e ∈ l, e.key = .int .i64 (keyInt e.key)
  apart : l.Pairwise fun a b => keyInt a.key ≠ keyInt b.key
def MapI (w : World) (b : Nat) (m : Int → Option Value) : Prop :=
  ∃ es clock, w.heap[b]? = some (.map es clock) ∧ (KeysI es.toList ∧ Go.MapKept.Stamped es clock) ∧ ∀ n, findI es.toList n = m n
theorem MapI.lt {w : World} {b : Nat} {m : Int → Option Value} (h : MapI w b m) : b < w.heap.size := by
  obtain ⟨es, clock, h, _⟩ := h; exact lt_of_block h
theorem MapI.of_block {w w' : World} {b : Nat} {m : Int → Option Value} (h : MapI w b m) (hb : w'.heap[b]? = w.heap[b]?) : MapI w' b m := by
  obtain ⟨es, clock, h1, h2, h3⟩ := h; exact ⟨es, clock, hb.trans h1, h2, h3⟩
theorem MapI.kept {l : List Nat} {w w' : World} {b : Nat} {m : Int → Option Value} (h : MapI w b m) (hc : Chg l w w') (hn : b ∉ l) : MapI w' b m := h.of_block (hc.block b h.lt hn)
theorem MapI.made (w : World) : MapI (w.alloc (.map #[] 0)) w.heap.size (fun _ => none) :=
  ⟨#[], 0, by show (w.heap.push _)[w.heap.size]? = _; simp, ⟨⟨by simp, by simp⟩, Go.MapKept.stamped_empty 0⟩, fun n => by simp [findI]⟩
theorem findNow_I (n : Int) : ∀ (l : List MapEntry) (i : Nat), (∀ e ∈ l, e.key = .int .i64 (keyInt e.key)) →
    (∃ j v, Instr.findNow (.int .i64) (.int .i64 n) l i = some (some (i + j, v)) ∧ findI l n = some v ∧ (∃ e, l[j]? = some e ∧ keyInt e.key = n ∧ e.val = v) ∧ ∀ k, k < j → ∀ e, l[k]? = some e → keyInt e.key ≠ n)
    ∨ (Instr.findNow (.int .i64) (.int .i64 n) l i = some none ∧ findI l n = none ∧ ∀ e ∈ l, keyInt e.key ≠ n) := by
  intro l
  induction l with
  | nil => intro i _; exact .inr ⟨rfl, rfl, by simp⟩
  | cons e l ih =>
    intro i hk
    have he := hk e (by simp)
    by_cases hn : keyInt e.key = n
    · refine .inl ⟨0, e.val, ?_, by simp [findI, hn], ⟨e, by simp, hn, rfl⟩, by simp⟩
      rw [Instr.findNow, he, hn]; simp [Instr.sameNow]
    · have hs : Instr.sameNow (.int .i64) (.int .i64 n) e.key = some false := by
        rw [he]; simp [Instr.sameNow]; exact fun h => hn h.symm
      rcases ih (i + 1) (fun e he => hk e (by simp [he])) with ⟨j, v, h1, h2, ⟨e', h3, h4⟩, h5⟩ | ⟨h1, h2, h3⟩
      · refine .inl ⟨j + 1, v, ?_, by simp [findI, hn, h2], ⟨e', by simpa using h3, h4⟩, ?_⟩
        · rw [Instr.findNow, hs]; simp only []; rw [h1, Nat.add_assoc, Nat.add_comm 1 j]
        · intro k hk' e'' he''
          cases k with
          | zero => simp at he''; subst he''; exact hn
          | succ k => exact h5 k (by omega) e'' (by simpa using he'')
      · refine .inr ⟨by rw [Instr.findNow, hs]; exact h1, by simp [findI, hn, h2], ?_⟩
        intro e' he'
        rcases List.mem_cons.1 he' with rfl | h
        · exact hn
        · exact h3 e' h
def putBlk (w : World) (b : Nat) (o : Obj) : World := { w with heap := w.heap.setIfInBounds b o }
theorem Chg.putBlk (w : World) (b : Nat) (o : Obj) : Chg [b] w (putBlk w b o) :=
  ⟨rfl, rfl, rfl, by simp [Proofs.Ytofjocjljbkjgaa.putBlk], fun k _ hn => by
    show (w.heap.setIfInBounds b o)[k]? = _
    rw [Array.getElem?_setIfInBounds, if_neg (fun e => hn (by simp [e]))]⟩
theorem putBlk_at {w : World} {b : Nat} (o : Obj) (h : b < w.heap.size) : (putBlk w b o).heap[b]? = some o := by
  show (w.heap.setIfInBounds b o)[b]? = _
  simp [h]
theorem findI_modify (n : Int) (v : Value) : ∀ (l : List MapEntry) (j : Nat) (e : MapEntry) (f : MapEntry → MapEntry), l[j]? = some e → keyInt e.key = n → (∀ k, k < j → ∀ e, l[k]? = some e → keyInt e.key ≠ n) → (∀ e, keyInt (f e).key = n) → (∀ e, (f e).val = v) →
    ∀ x, findI (l.modify j f) x = if x = n then some v else findI l x
  | [], j, e, f, h, _, _, _, _ => by simp at h
  | a :: l, 0, e, f, h, hn, _, hf, hv => by
    intro x
    simp at h; subst h
    rw [show (a :: l).modify 0 f = f a :: l from rfl]
    simp only [findI, hf, hv, hn]
    by_cases hx : x = n
    · rw [if_pos hx.symm, if_pos hx]
    · rw [if_neg (fun e => hx e.symm), if_neg hx, if_neg (fun e => hx e.symm)]
  | a :: l, j + 1, e, f, h, hn, hb, hf, hv => by
    intro x
    have ih := findI_modify n v l j e f (by simpa using h) hn (fun k hk e he => hb (k + 1) (by omega) e (by simpa using he)) hf hv x
    rw [show (a :: l).modify (j + 1) f = a :: l.modify j f from rfl]
    simp only [findI, ih]
    have := hb 0 (by omega) a (by simp)
    by_cases hx : x = n
    · subst hx; rw [if_neg this, if_pos rfl, if_pos rfl]
    · rw [if_neg hx, if_neg hx]
theorem findI_append (x : Int) (e : MapEntry) : ∀ l : List MapEntry, (∀ a ∈ l, keyInt a.key ≠ keyInt e.key) → findI (l ++ [e]) x = if x = keyInt e.key then some e.val else findI l x
  | [], _ => by simp [findI, eq_comm]
  | a :: l, h => by
    have ih := findI_append x e l (fun a ha => h a (by simp [ha]))
    simp only [List.cons_append, findI, ih]
    have := h a (by simp)
    by_cases hx : x = keyInt e.key
    · subst hx; rw [if_neg this, if_pos rfl, if_pos rfl]
    · rw [if_neg hx, if_neg hx]
theorem KeysI.modify {l : List MapEntry} (h : KeysI l) (j : Nat) (f : MapEntry → MapEntry) (hf : ∀ e, l[j]? = some e → (f e).key = e.key) : KeysI (l.modify j f) := by
  have hm : (l.modify j f).map (·.key) = l.map (·.key) := by
    apply List.ext_getElem?
    intro i
    simp only [List.getElem?_map, List.getElem?_modify]
    by_cases e : j = i
    · subst e
      cases hl : l[j]? with
      | none => simp
      | some x => simp [hf x hl]
    · simp [e]
  constructor
  · intro e he
    have : e.key ∈ (l.modify j f).map (·.key) := List.mem_map.2 ⟨e, he, rfl⟩
    rw [hm] at this
    obtain ⟨e', he', hk⟩ := List.mem_map.1 this
    rw [← hk]; exact h.ints e' he'
  · have h1 : (l.map (·.key)).Pairwise (fun a b => keyInt a ≠ keyInt b) := List.pairwise_map.2 h.apart
    rw [← hm] at h1
    exact (List.pairwise_map (f := fun x : MapEntry => x.key) (R := fun a b => keyInt a ≠ keyInt b)).1 h1
theorem KeysI.push {l : List MapEntry} (h : KeysI l) (e : MapEntry) (he : e.key = .int .i64 (keyInt e.key)) (hn : ∀ a ∈ l, keyInt a.key ≠ keyInt e.key) : KeysI (l ++ [e]) :=
  ⟨fun a ha => by
    rcases List.mem_append.1 ha with h1 | h1
    · exact h.ints a h1
    · simp at h1; subst h1; exact he, List.pairwise_append.2 ⟨h.apart, by simp, fun a ha b hb => by simp at hb; subst hb; exact hn a ha⟩⟩
def updI (m : Int → Option Value) (n : Int) (v : Option Value) : Int → Option Value := fun x => if x = n then v else m x
section
open Go.MapKept
variable {P : Program} {T K E : TypeId} {w : World} {b : Nat} {m : Int → Option Value}
theorem isKey_int (n : Int) : IsKey (.int .i64) (.int .i64 n) := by simp [IsKey]
theorem lookup_run (hT : P.underlying T = some (.map K E)) (hK : P.underlying K = some (.int .i64)) {z : Value} (hz : (zeroValue E).run P w = .ok z w) (h : MapI w b m) (n : Int) (ok : Bool) :
    (Instr.lookup T (.map (some b)) (.int .i64 n) ok).run P w = .ok (if ok then .tuple #[(m n).getD z, .bool (m n).isSome] else (m n).getD z) w := by
  obtain ⟨es, clock, h1, ⟨hk, hst⟩, hm⟩ := h
  rw [← hm n]
  rcases findNow_I n es.toList 0 hk.ints with ⟨j, v, h2, h3, _⟩ | ⟨h2, h3, _⟩
  · simp [Instr.lookup, run_underlying hT, Go.MapKept.run_getObj_map h1, Go.MapKept.run_checkKey hK (isKey_int n), run_findKey hK h2, Result.andThen, h3]
  · simp [Instr.lookup, run_underlying hT, Go.MapKept.run_getObj_map h1, Go.MapKept.run_checkKey hK (isKey_int n), run_findKey hK h2, Result.andThen, h3, hz]
theorem update_run (hT : P.underlying T = some (.map K E)) (hK : P.underlying K = some (.int .i64)) (h : MapI w b m) (n : Int) (v : Value) :
    ∃ es c, (Instr.mapUpdate T (.map (some b)) (.int .i64 n) v).run P w = .ok () (putBlk w b (.map es c)) ∧ MapI (putBlk w b (.map es c)) b (updI m n (some v)) := by
  obtain ⟨es, clock, h1, ⟨hk, hst⟩, hm⟩ := h
  have hb := lt_of_block h1
  rcases findNow_I n es.toList 0 hk.ints with ⟨j, u, h2, h3, ⟨e, he, hn, hv⟩, hlt⟩ | ⟨h2, h3, hne⟩
  · have hj : es[j]? = some e := by simpa using he
    have hek : e.key = .int .i64 n := by rw [hk.ints e (List.mem_of_getElem? he), hn]
    refine ⟨es.modify (0 + j) fun e => { e with key := .int .i64 n, val := v }, clock, ?_, _, _, putBlk_at _ hb, ?_, ?_⟩
    · simp [Instr.mapUpdate, run_underlying hT, Go.MapKept.run_getObj_map h1, Go.MapKept.run_checkKey hK (isKey_int n), run_findKey hK h2, hj, hek, run_keyThatStays (isKey_int n), Go.MapKept.run_setObj_map _ h1, Result.andThen]
      rfl
    · refine ⟨?_, Go.MapKept.stamped_modify hst _ _ (fun _ _ => rfl) (fun e' _ he' => ?_)⟩
      · rw [Array.toList_modify]
        refine hk.modify _ _ (fun e' he' => ?_)
        rw [Nat.zero_add, he] at he'
        cases he'; exact hek.symm
      · rw [Nat.zero_add, hj] at he'
        cases he'; exact hek.symm
    · intro x
      rw [Array.toList_modify]
      simp only [updI, ← hm]
      exact findI_modify n v es.toList _ e _ (by rw [Nat.zero_add]; exact he) hn (fun k hk' => hlt k (by omega)) (fun _ => rfl) (fun _ => rfl) x
  · refine ⟨es.push { key := .int .i64 n, val := v, born := clock }, clock + 1, ?_, _, _, putBlk_at _ hb, ?_, ?_⟩
    · simp [Instr.mapUpdate, run_underlying hT, Go.MapKept.run_getObj_map h1, Go.MapKept.run_checkKey hK (isKey_int n), run_findKey hK h2, Go.MapKept.run_setObj_map _ h1, Result.andThen]
      rfl
    · refine ⟨?_, Go.MapKept.stamped_push hst (fun x hx e => hne x hx (by rw [e]; rfl))⟩
      rw [Array.toList_push]
      exact hk.push _ rfl (fun a ha => hne a ha)
    · intro x
      rw [Array.toList_push]
      simp only [updI, ← hm]
      exact findI_append x _ es.toList (fun a ha => hne a ha)
end
theorem wp_world {P : Program} {c : Code} {Q : Exit → Act → World → Prop} {a : Act} {w : World} (R : World → Prop) (h : R w) (k : ∀ w', R w' → c.wp P Q a w') : c.wp P Q a w := k w h
theorem wpList_world {P : Program} {ops : Array Oper} {l : List Oper} {Q : Exit → Act → World → Prop} {a : Act} {w : World} (R : World → Prop) (h : R w) (k : ∀ w', R w' → wpList P ops Q l a w') : wpList P ops Q l a w := k w h
theorem Chg.range {l : List Nat} {w w' : World} (h : Chg l w w') {b o : Nat} {cs : List Value} (hr : w.rangeAt b o cs) (hn : b ∉ l) : w'.rangeAt b o cs := fun j v hv => h.cell (hr j v hv) hn
end Go.Proofs.Ytofjocjljbkjgaa
namespace Go.Proofs.Ytofjocjljbkjgaa
open Go.RowKit
section
variable {P : Program} {ops : Array Oper} {Q : Exit → Act → World → Prop} {md : Region.Mode} {S : World → Prop} {eff brk : Nat → Bool}
def wpAnyM (P : Program) (md : Region.Mode) (ops : Array Oper) (Q : Exit → Act → World → Prop) (S : World → Prop) (eff brk : Nat → Bool) : Nat → Array Bool → Act → World → Prop
  | 0, listed, a, w => Region.ready md ops listed = [] ∧ Q .normal a w
  | fuel + 1, listed, a, w =>
    (Region.ready md ops listed = [] → Q .normal a w) ∧
    ∀ i ∈ Region.ready md ops listed, wpOp P ops Q i (fun a' w' => (eff i = false → w' = w) ∧ (brk i = false → S w → S w') ∧ wpAnyM P md ops Q S eff brk fuel (listed.setIfInBounds i true) a' w') a w
theorem wpAny_of_M : ∀ (fuel : Nat) (listed : Array Bool) (a : Act) (w : World), wpAnyM P md ops Q S eff brk fuel listed a w → wpAny P md ops Q fuel listed a w
  | 0, _, _, _, h => h
  | fuel + 1, _, _, _, h => ⟨h.1, fun i hi => wpOp_mono (fun a' w' h' => wpAny_of_M fuel _ a' w' h'.2.2) (h.2 i hi)⟩
def Anch (md : Region.Mode) (ops : Array Oper) (bad : Nat → Bool) (i : Nat) (C : Nat → Bool) (listed : Array Bool) : Prop :=
  (∀ k, listed.getD k false = true → C k = true) ∧
  (∀ j oj, ops[j]? = some oj → j ≠ i → (∀ e ∈ oj.after, Region.binds md e = true → C e.on = true) → C j = true) ∧
  (∀ j, C j = true → listed.getD j true = false → bad j = false)
theorem wpAnyM_gen {i : Nat} {oi : Oper} {v : Value} (hi : ops[i]? = some oi) (hsel : ∀ (j : Nat) (o : Oper) cs b, ops[j]? = some o → o.op ≠ .select cs b)
    (hQ : ∀ c a w, Q (.panic c) (a.put oi.dst v) w → Q (.panic c) a w) (C : Nat → Bool) (S0 : World → Prop) (bad : Nat → Bool)
    (hkeep : ∀ j w w', bad j = false → (eff j = false → w' = w) → (brk j = false → S w → S w') → S0 w → S0 w') :
    ∀ (fuel : Nat) (listed : Array Bool) (a : Act) (w : World),
      (∀ j oj, ops[j]? = some oj → j ≠ i → listed.getD j true = false → (∀ e ∈ oj.after, Region.binds md e = true → e.on ≠ i) → oi.apart ops oj = true) →
      Anch md ops bad i C listed →
      i ∈ Region.ready md ops listed → YieldsIf P ops S0 oi v a → S0 w →
      wpAnyM P md ops Q S eff brk fuel (listed.setIfInBounds i true) (a.put oi.dst v) w → wpAnyM P md ops Q S eff brk (fuel + 1) listed a w := by
  intro fuel
  induction fuel with
  | zero =>
    intro listed a w _ _ hr hy hS H
    refine ⟨fun h => (by rw [h] at hr; cases hr), fun j hj => ?_⟩
    by_cases hji : j = i
    · subst hji; exact hy.wpOp hi hS ⟨fun _ => rfl, fun _ h => h, H⟩
    · have := ready_mono hj hji
      rw [H.1] at this
      cases this
  | succ fuel ih =>
    intro listed a w hfree hA hr hy hS H
    refine ⟨fun h => (by rw [h] at hr; cases hr), fun j hj => ?_⟩
    by_cases hji : j = i
    · subst hji; exact hy.wpOp hi hS ⟨fun _ => rfl, fun _ h => h, H⟩
    · have h1 := H.2 j (ready_mono hj hji)
      obtain ⟨hjun, oj, hoj, hall⟩ := mem_ready.1 hj
      have hnot : ∀ e ∈ oj.after, Region.binds md e = true → e.on ≠ i := fun e he hb heq => by
        have h1 := hall e he hb
        have h0 := (mem_ready.1 hr).1
        rw [heq] at h1
        rcases Nat.lt_or_ge i listed.size with h' | h'
        · simp [h'] at h0 h1; rw [h0] at h1; cases h1
        · simp [Array.getElem?_eq_none h'] at h1
      have hCj : C j = true := hA.2.1 j oj hoj hji (fun e he hb => hA.1 _ (hall e he hb))
      have hej : bad j = false := hA.2.2 j hCj hjun
      have h2 := wpOp_putIf hoj (hfree j oj hoj hji hjun hnot) (fun cs b => hsel i oi cs b hi) (fun cs b => hsel j oj cs b hoj) hQ hy h1
      have hfree' : ∀ k ok, ops[k]? = some ok → k ≠ i → (listed.setIfInBounds j true).getD k true = false →
          (∀ e ∈ ok.after, Region.binds md e = true → e.on ≠ i) → oi.apart ops ok = true := fun k ok hk hki hun hno => by
        refine hfree k ok hk hki ?_ hno
        by_cases hjk : j = k
        · subst hjk; exact hjun
        · rw [getD_set_ne true hjk] at hun; exact hun
      have hA' : Anch md ops bad i C (listed.setIfInBounds j true) := by
        refine ⟨fun k hk => ?_, hA.2.1, fun k hk hun => ?_⟩
        · by_cases hjk : j = k
          · subst hjk; exact hCj
          · rw [getD_set_ne false hjk] at hk; exact hA.1 k hk
        · by_cases hjk : j = k
          · subst hjk; exact hej
          · rw [getD_set_ne true hjk] at hun; exact hA.2.2 k hk hun
      refine wpOp_mono (fun a' w' h3 => ?_) h2
      obtain ⟨h4, h5, h6, h7⟩ := h3
      refine ⟨h5, h6, ih (listed.setIfInBounds j true) a' w' hfree' hA' (ready_mono hr (Ne.symm hji)) h4 (hkeep j w w' hej h5 h6 hS) ?_⟩
      rw [Array.setIfInBounds_comm _ _ hji]
      exact h7
def afterIn (md : Region.Mode) (o : Oper) (C : Array Bool) : Bool := o.after.all fun e => !Region.binds md e || C.getD e.on false
def closeB (md : Region.Mode) (ops : Array Oper) (i : Nat) : Nat → Array Bool → Array Bool
  | 0, C => C
  | n + 1, C => closeB md ops i n ((List.range ops.size).foldl (fun C j => if j != i && ((ops[j]?).map (afterIn md · C)).getD false then C.setIfInBounds j true else C) C)
def anchB (md : Region.Mode) (ops : Array Oper) (bad : Nat → Bool) (i : Nat) (listed : Array Bool) : Bool :=
  let C := closeB md ops i ops.size listed
  C.size == ops.size && listed.size == ops.size && (List.range ops.size).all fun j =>
    (!(listed.getD j false) || C.getD j false) && (j == i || !((ops[j]?).map (afterIn md · C)).getD false || C.getD j false) && (!(C.getD j false) || listed.getD j true || !bad j)
theorem anchB_spec {bad : Nat → Bool} {i : Nat} {listed : Array Bool} (h : anchB md ops bad i listed = true) : listed.size = ops.size ∧ Anch md ops bad i (fun k => (closeB md ops i ops.size listed).getD k false) listed := by
  unfold anchB at h
  generalize closeB md ops i ops.size listed = C at h ⊢
  simp only [Bool.and_eq_true, beq_iff_eq, List.all_eq_true, List.mem_range, Bool.or_eq_true, Bool.not_eq_true'] at h
  obtain ⟨⟨h1, h2⟩, h3⟩ := h
  refine ⟨h2, fun k hk => ?_, fun j oj hj hne hall => ?_, fun j hj hun => ?_⟩
  · have hlt : k < ops.size := by
      rcases Nat.lt_or_ge k listed.size with h | h
      · omega
      · simp [Array.getElem?_eq_none h] at hk
    rcases (h3 k hlt).1.1 with h | h
    · rw [hk] at h; cases h
    · exact h
  · have hlt : j < ops.size := (Array.getElem?_eq_some_iff.1 hj).1
    rcases (h3 j hlt).1.2 with (h | h) | h
    · exact absurd h hne
    · rw [hj] at h
      have hb : afterIn md oj C = true := by
        unfold afterIn
        rw [Array.all_eq_true_iff_forall_mem]
        intro e he
        cases hbd : Region.binds md e with
        | false => rfl
        | true => simp only [Bool.not_true, Bool.false_or]; exact hall e he hbd
      simp [hb] at h
    · exact h
  · have hlt : j < ops.size := by
      rcases Nat.lt_or_ge j C.size with h | h
      · omega
      · simp [Array.getElem?_eq_none h] at hj
    rcases (h3 j hlt).2 with (h | h) | h
    · have hj' : C.getD j false = true := hj
      rw [hj'] at h; cases h
    · rw [hun] at h; cases h
    · exact h
theorem wp_region_M {id : Nat} {a : Act} {w : World} (S : World → Prop) (eff brk : Nat → Bool) (hm : P.follows .mixedOrders = true)
    (h : wpAnyM P .any ops Q S eff brk ops.size (Array.replicate ops.size false) a w.drew) : (Code.region id ops true).wp P Q a w :=
  wp_region_any hm (wpAny_of_M _ _ _ _ h)
theorem anch_true (listed : Array Bool) (i : Nat) : Anch md ops (fun _ => false) i (fun _ => true) listed := ⟨fun _ _ => rfl, fun _ _ _ _ _ => rfl, fun _ _ _ => rfl⟩
theorem M_take {i : Nat} {oi : Oper} {v : Value} {fuel : Nat} {listed : Array Bool} {a : Act} {w : World} (hi0 : ops.toList[i]? = some oi)
    (hs : Region.noSelect ops = true) (hf : Region.free md ops listed i = true) (hr : (Region.ready md ops listed).contains i = true) (hA : anchB md ops eff i listed = true)
    (hQ : ∀ c a w, Q (.panic c) (a.put oi.dst v) w → Q (.panic c) a w) (hw : Region.wanted oi (yielded ops a.tmps) = true) (hy : (execOp a.eval oi).run P w = .ok (.value v) w)
    (h : wpAnyM P md ops Q S eff brk fuel (listed.setIfInBounds i true) (a.put oi.dst v) w) : wpAnyM P md ops Q S eff brk (fuel + 1) listed a w :=
  wpAnyM_gen (by simpa using hi0) (Region.noSelect_spec hs) hQ _ (fun W => W = w) eff (fun j w1 w2 hb he _ e => by rw [he hb]; exact e) fuel listed a w (Region.free_spec (by simpa using hi0) hf) (anchB_spec hA).2 (by simpa using hr) (.inl ⟨hw, fun W e => by rw [e]; exact hy⟩) rfl h
theorem M_semi {i : Nat} {oi : Oper} {v : Value} {fuel : Nat} {listed : Array Bool} {a : Act} {w : World} (hi0 : ops.toList[i]? = some oi)
    (hs : Region.noSelect ops = true) (hf : Region.free md ops listed i = true) (hr : (Region.ready md ops listed).contains i = true) (hA : anchB md ops brk i listed = true)
    (hQ : ∀ c a w, Q (.panic c) (a.put oi.dst v) w → Q (.panic c) a w) (hw : Region.wanted oi (yielded ops a.tmps) = true) (hS : S w) (hy : ∀ w, S w → (execOp a.eval oi).run P w = .ok (.value v) w)
    (h : wpAnyM P md ops Q S eff brk fuel (listed.setIfInBounds i true) (a.put oi.dst v) w) : wpAnyM P md ops Q S eff brk (fuel + 1) listed a w :=
  wpAnyM_gen (by simpa using hi0) (Region.noSelect_spec hs) hQ _ S brk (fun j w1 w2 hb _ hk hs => hk hb hs) fuel listed a w (Region.free_spec (by simpa using hi0) hf) (anchB_spec hA).2 (by simpa using hr) (.inl ⟨hw, hy⟩) hS h
theorem M_pure {i : Nat} {oi : Oper} {v : Value} {fuel : Nat} {listed : Array Bool} {a : Act} {w : World} (hi0 : ops.toList[i]? = some oi)
    (hs : Region.noSelect ops = true) (hf : Region.free md ops listed i = true) (hr : (Region.ready md ops listed).contains i = true)
    (hQ : ∀ c a w, Q (.panic c) (a.put oi.dst v) w → Q (.panic c) a w) (hw : Region.wanted oi (yielded ops a.tmps) = true) (hy : ∀ w, (execOp a.eval oi).run P w = .ok (.value v) w)
    (h : wpAnyM P md ops Q S eff brk fuel (listed.setIfInBounds i true) (a.put oi.dst v) w) : wpAnyM P md ops Q S eff brk (fuel + 1) listed a w :=
  wpAnyM_gen (by simpa using hi0) (Region.noSelect_spec hs) hQ (fun _ => true) (fun _ => True) (fun _ => false) (fun _ _ _ _ _ _ _ => trivial) fuel listed a w (Region.free_spec (by simpa using hi0) hf) (anch_true _ _) (by simpa using hr) (.inl ⟨hw, fun w _ => hy w⟩) trivial h
theorem M_skip {i : Nat} {oi : Oper} {fuel : Nat} {listed : Array Bool} {a : Act} {w : World} (hi0 : ops.toList[i]? = some oi)
    (hs : Region.noSelect ops = true) (hf : Region.free md ops listed i = true) (hr : (Region.ready md ops listed).contains i = true)
    (hQ : ∀ c a w, Q (.panic c) (a.put oi.dst undef) w → Q (.panic c) a w) (hw : Region.wanted oi (yielded ops a.tmps) = false)
    (h : wpAnyM P md ops Q S eff brk fuel (listed.setIfInBounds i true) (a.put oi.dst undef) w) : wpAnyM P md ops Q S eff brk (fuel + 1) listed a w :=
  wpAnyM_gen (by simpa using hi0) (Region.noSelect_spec hs) hQ (fun _ => true) (fun _ => True) (fun _ => false) (fun _ _ _ _ _ _ _ => trivial) fuel listed a w (Region.free_spec (by simpa using hi0) hf) (anch_true _ _) (by simpa using hr) (.inr ⟨hw, rfl⟩) trivial h
def EffQ (Q : Exit → Act → World → Prop) (K : Act → World → Prop) : Exit → Act → World → Prop
  | .normal, a, w => K a w
  | e, a, w => Q e a w
theorem wp_of_EffQ {o : Oper} {a : Act} {w : World} {K : Act → World → Prop} (hh : o.wp P a w K (EffQ Q K)) : o.wp P a w K Q := by
  unfold Oper.wp at *
  generalize (execOp a.eval o).run P w = r at *
  cases r with
  | ok n w' =>
    cases n <;> simp only [Oper.upon] at hh ⊢ <;> exact hh
  | halt x w' => cases x <;> simp only [Oper.upon] at hh ⊢ <;> exact hh
theorem M_effect {i : Nat} {oi : Oper} {fuel : Nat} {listed : Array Bool} {a : Act} {w : World} {K : Act → World → Prop} (hi0 : ops.toList[i]? = some oi) (hr : Region.ready md ops listed = [i]) (he : eff i = true)
    (hK : ∀ a' w', K a' w' → (brk i = false → S w → S w') ∧ wpAnyM P md ops Q S eff brk fuel (listed.setIfInBounds i true) a' w')
    (h : wpList P ops (EffQ Q K) [oi] a w) : wpAnyM P md ops Q S eff brk (fuel + 1) listed a w := by
  have hi : ops[i]? = some oi := by simpa using hi0
  refine ⟨fun h0 => (by rw [h0] at hr; cases hr), fun j hj => ?_⟩
  rw [hr] at hj
  obtain rfl := List.mem_singleton.1 hj
  refine wpOp_mono (K := K) (fun a' w' h => ⟨fun h0 => (by rw [he] at h0; cases h0), hK a' w' h⟩) ?_
  unfold wpOp
  simp only [hi]
  unfold wpList at h
  split
  · rename_i hw
    rw [if_pos hw] at h
    rcases h with h | ⟨h1, a', w', h2⟩
    · exact .inl (wp_of_EffQ (Oper.wp_mono (fun a w h => h) h))
    · exact .inr ⟨h1, a', w', h2⟩
  · rename_i hw
    rw [if_neg hw] at h
    exact h
theorem M_eff {i : Nat} {oi : Oper} {fuel : Nat} {listed : Array Bool} {a : Act} {w : World} (hi0 : ops.toList[i]? = some oi) (hr : Region.ready md ops listed = [i]) (he : eff i = true)
    (h : wpList P ops (EffQ Q (fun a' w' => S w' ∧ wpAnyM P md ops Q S eff brk fuel (listed.setIfInBounds i true) a' w')) [oi] a w) : wpAnyM P md ops Q S eff brk (fuel + 1) listed a w :=
  M_effect hi0 hr he (fun _ _ h => ⟨fun _ _ => h.1, h.2⟩) h
theorem M_brk {i : Nat} {oi : Oper} {fuel : Nat} {listed : Array Bool} {a : Act} {w : World} (hi0 : ops.toList[i]? = some oi) (hr : Region.ready md ops listed = [i]) (he : eff i = true) (hb : brk i = true)
    (h : wpList P ops (EffQ Q (fun a' w' => wpAnyM P md ops Q S eff brk fuel (listed.setIfInBounds i true) a' w')) [oi] a w) : wpAnyM P md ops Q S eff brk (fuel + 1) listed a w :=
  M_effect hi0 hr he (fun _ _ h => ⟨fun h0 => (by rw [hb] at h0; cases h0), h⟩) h
theorem M_done {listed : Array Bool} {a : Act} {w : World} (hr : Region.ready md ops listed = []) (h : Q .normal a w) : ∀ fuel, wpAnyM P md ops Q S eff brk fuel listed a w
  | 0 => ⟨hr, h⟩
  | _ + 1 => ⟨fun _ => h, by rw [hr]; simp⟩
end
end Go.Proofs.Ytofjocjljbkjgaa
namespace Go.Proofs.Ytofjocjljbkjgaa
open Go.RowKit
section
variable {P : Program} {ops : Array Oper} {rest : List Oper} {o : Oper} {a : Act} {w : World} {Q : Exit → Act → World → Prop}
theorem wpList_runv (hgd : o.guard = none) {v : Value} {w' : World} (hrun : (execOp a.eval o).run P w = .ok (.value v) w') (h : wpList P ops Q rest (a.put o.dst v) w') : wpList P ops Q (o :: rest) a w :=
  wpList_plain hgd fun K hK => by unfold Oper.wp; rw [hrun]; exact hK _ _ h
theorem wpList_runs (hgd : o.guard = none) {w' : World} (hrun : (execOp a.eval o).run P w = .ok .skip w') (h : wpList P ops Q rest (a.put o.dst undef) w') : wpList P ops Q (o :: rest) a w :=
  wpList_plain hgd fun K hK => by unfold Oper.wp; rw [hrun]; exact hK _ _ h
theorem wpList_alloc (hgd : o.guard = none) (T : TypeId) (ho : o.op = .alloc T) (z : Value) (hz : ∀ w, (zeroValue T).run P w = .ok z w)
    (h : wpList P ops Q rest (a.put o.dst (.pointer (some ⟨w.heap.size, 0, none⟩))) (w.alloc (.cells z.cells T))) : wpList P ops Q (o :: rest) a w := by
  refine wpList_runv hgd (w' := w.alloc (.cells z.cells T)) ?_ h
  simp [execOp, ho, Instr.alloc, hz, newVar, newRow, newObj, Sem.run, Result.andThen, World.alloc_eq]
end
theorem foldl_put (off : Nat) : ∀ (l : List Value) (i : Nat) (cs : Array Value), off + i + l.length ≤ cs.size →
    ((l.zipIdx i).foldl (fun (cs : Array Value) (x : Value × Nat) => cs.setIfInBounds (off + x.2) x.1) cs).toList = cs.toList.take (off + i) ++ l ++ cs.toList.drop (off + i + l.length)
  | [], i, cs, _ => by simp
  | v :: l, i, cs, h => by
    simp only [List.length_cons] at h
    rw [List.zipIdx_cons, List.foldl_cons, foldl_put off l (i + 1) _ (by simp; omega)]
    simp only [Array.toList_setIfInBounds]
    have e1 : (cs.toList.set (off + i) v).take (off + (i + 1)) = cs.toList.take (off + i) ++ [v] := by
      rw [show off + (i + 1) = (off + i) + 1 from by omega, List.take_succ_eq_append_getElem (by simp; omega), List.take_set_of_le (Nat.le_refl _)]
      simp
    have e2 : (cs.toList.set (off + i) v).drop (off + (i + 1) + l.length) = cs.toList.drop (off + i + (l.length + 1)) := by
      rw [List.drop_set_of_lt (by omega)]
      congr 1; omega
    rw [e1, e2]
    simp
section
variable {P : Program} {ops : Array Oper} {rest : List Oper} {o : Oper} {a : Act} {w : World} {Q : Exit → Act → World → Prop}
theorem buildSlice_one (T E : TypeId) (hT : P.underlying T = some (.slice E)) (i : TypeInfo) (z : Value) (hi : P.info? E = some i) (hz : i.zero = some z) (hzs : z.cells.size = i.size) (hpos : 0 < i.size) (hle : i.size ≤ 16777216)
    (v : Value) (hv : v.cells.size = i.size) : (Instr.buildSlice T 1 #[(0, v)]).run P w = .ok (.slice (some ⟨w.heap.size, 0, none⟩) 1 1) (w.alloc (.cells v.cells E)) := by
  have hne : ¬ i.size = 0 := by omega
  have hfold : v.cells.zipIdx.foldl (fun (cs : Array Value) (x : Value × Nat) => cs.setIfInBounds (0 + x.2) x.1) ((Array.range i.size).map (fun k => z.cells[k % z.cells.size]!)) = v.cells := by
    apply Array.toList_inj.1
    rw [← Array.foldl_toList, Array.toList_zipIdx, foldl_put 0 v.cells.toList 0 _ (by simp; omega)]
    simp [hv]
  simp only [Nat.zero_add] at hfold
  have hf : Instr.fill (fun i' => some (i' * i.size, i.size)) ((Array.range i.size).map (fun k => z.cells[k % z.cells.size]!)) [(0, v)] = some v.cells := by
    simp only [Instr.fill, Nat.zero_mul, Nat.zero_add]
    rw [if_neg (by simp [hv])]
    simp only [hfold]
  have hz' : (zeroValue E).run P w = .ok z w := by simp [zeroValue, typeInfo, hi, hz, Result.andThen]
  have hgt : ¬ 16777216 < i.size := by omega
  simp [Instr.buildSlice, run_underlying hT, sizeOf, typeInfo, hi, hne, hz', hf, newRow, newObj, Result.andThen, hgt]
  rfl
theorem wpList_store_row (hgd : o.guard = none) (T : TypeId) (x y : Operand) (ho : o.op = .store T x y) (g : Nat) (hx : a.eval x = .pointer (some ⟨g, 0, none⟩)) (cells : Array Value) (hy : a.eval y = .agg cells)
    (old : Array Value) (t : TypeId) (hg : w.heap[g]? = some (.cells old t (0, 0))) (hi : (P.info? T).map (·.size) = some cells.size) (hsz : old.size = cells.size) (h1 : cells.all (·.oneCell') = true)
    (h : wpList P ops Q rest (a.put o.dst undef) (w.setRow g cells)) : wpList P ops Q (o :: rest) a w := by
  refine wpList_runs hgd (w' := w.setRow g cells) ?_ h
  simp [execOp, ho, hx, hy, Instr.storeAt, Instr.sureAddr, run_storeVar_row w g t T old cells hg hi hsz h1, Result.andThen]
theorem setRow_chg (w : World) (g : Nat) (cs : Array Value) : Chg [g] w (w.setRow g cs) :=
  ⟨rfl, rfl, rfl, by simp [World.setRow], fun k _ hn => by
    show (w.heap.modify g _)[k]? = _
    rw [Array.getElem?_modify, if_neg (fun e => hn (by simp [e]))]⟩
theorem Chg.grown {l : List Nat} {a w w' : World} {row : Option Nat} (h : Chg l a w) (hg : w.grownBy w' row) (hr : ∀ k, row = some k → k ∈ l ∨ a.heap.size ≤ k) : Chg l a w' :=
  h.andThen (l' := row.toList) ⟨hg.os, hg.tape, hg.output, hg.size, fun k hk hn => hg.block k hk (fun e => hn (by simp [← e]))⟩ (fun i hi => by cases row <;> simp at hi; subst hi; exact hr _ rfl)
theorem exec_load_mid (T : TypeId) (x : Operand) (ho : o.op = .load T x) (b k : Nat) (hx : a.eval x = .pointer (some ⟨b, k, none⟩)) (cs : List Value) (d : TypeDesc) (hc : w.rangeAt b k cs)
    (hu : P.underlying T = some d) (hd : d.isRow = true) (hi : (P.info? T).map (·.size) = some cs.length) : (execOp a.eval o).run P w = .ok (.value (.agg cs.toArray)) w := by
  simp [execOp, ho, hx, run_loadAt_mid w b k T cs d hc hu hd hi, Result.andThen]
theorem range_of_block {g : Nat} {cs : List Value} {t : TypeId} {fr : Nat × Nat} (hg : w.heap[g]? = some (.cells cs.toArray t fr)) (k n : Nat) : w.rangeAt g k ((cs.drop k).take n) := by
  intro j v hv
  simp only [World.cell?, hg]
  have hj : j < ((cs.drop k).take n).length := (List.getElem?_eq_some_iff.1 hv).1
  rw [List.getElem?_take_of_lt (by simp at hj; omega), List.getElem?_drop] at hv
  simpa using hv
theorem range_all {g : Nat} {cs : List Value} {t : TypeId} {fr : Nat × Nat} (hg : w.heap[g]? = some (.cells cs.toArray t fr)) : w.rangeAt g 0 cs := by
  intro j v hv
  simp only [World.cell?, hg]
  simpa using hv
theorem wpList_slice_one (hgd : o.guard = none) (T E : TypeId) (x : Operand) (ho : o.op = .buildSlice T 1 #[(0, x)]) (hT : P.underlying T = some (.slice E)) (i : TypeInfo) (z : Value) (hi : P.info? E = some i) (hz : i.zero = some z) (hzs : z.cells.size = i.size) (hpos : 0 < i.size) (hle : i.size ≤ 16777216)
    (v : Value) (hx : a.eval x = v) (hv : v.cells.size = i.size)
    (h : wpList P ops Q rest (a.put o.dst (.slice (some ⟨w.heap.size, 0, none⟩) 1 1)) (w.alloc (.cells v.cells E))) : wpList P ops Q (o :: rest) a w := by
  refine wpList_runv hgd (w' := w.alloc (.cells v.cells E)) ?_ h
  simp [execOp, ho, hx, buildSlice_one T E hT i z hi hz hzs hpos hle v hv, Result.andThen]
theorem own_slice {base n : Nat} {e : TypeId} {size : Nat} {v : Value} {xs : List Value} (h : w.ownsRow base e size v n xs) : ∃ A c, v = .slice A n c := by
  rcases h.2 with ⟨rfl, rfl⟩ | ⟨g, cap, cur, rfl, _⟩
  · exact ⟨none, 0, rfl⟩
  · exact ⟨_, cap, rfl⟩
theorem own_kept {base n : Nat} {e : TypeId} {size : Nat} {v : Value} {xs : List Value} {w' : World} {l : List Nat} (h : w.ownsRow base e size v n xs) (hc : Chg l w w') (hl : ∀ k, v.ownBlock = some k → k ∉ l) : w'.ownsRow base e size v n xs := by
  refine ⟨h.1, ?_⟩
  rcases h.2 with h0 | ⟨g, cap, cur, rfl, hg, hh, r⟩
  · exact .inl h0
  · exact .inr ⟨g, cap, cur, rfl, hg, hc.at hh (hl g rfl), r⟩
theorem wpList_build (hgd : o.guard = none) (T : TypeId) (parts : Array (Nat × Operand)) (ho : o.op = .build T parts) (pv : Array (Nat × Value)) (hp : (parts.map fun (i, x) => (i, a.eval x)) = pv) (v : Value) (hrun : ∀ w, (Instr.build T pv).run P w = .ok v w)
    (h : wpList P ops Q rest (a.put o.dst v) w) : wpList P ops Q (o :: rest) a w := by
  refine wpList_runv hgd (w' := w) ?_ h
  have hp' : (parts.map fun x => (x.1, a.eval x.2)) = pv := hp
  simp [execOp, ho, hp', hrun, Result.andThen]
theorem wpList_update_I {T K E : TypeId} {b : Nat} {m : Int → Option Value} (hgd : o.guard = none) (x y z : Operand) (ho : o.op = .mapUpdate T x y z)
    (hT : P.underlying T = some (.map K E)) (hK : P.underlying K = some (.int .i64)) (h : MapI w b m) (n : Int) (v : Value) (hx : a.eval x = .map (some b)) (hy : a.eval y = .int .i64 n) (hz : a.eval z = v)
    (k : ∀ w', MapI w' b (updI m n (some v)) → Chg [b] w w' → w'.heap.size = w.heap.size → wpList P ops Q rest (a.put o.dst undef) w') : wpList P ops Q (o :: rest) a w := by
  obtain ⟨es, c, hrun, hm⟩ := update_run hT hK h n v
  refine wpList_runs hgd ?_ (k _ hm (Chg.putBlk w b _) (by simp [putBlk]))
  simp [execOp, ho, hx, hy, hz, hrun, Result.andThen]
theorem own_row {base n : Nat} {e : TypeId} {A : Option Addr} {c : Nat} {xs : List Value} (h : w.ownsRow base e 1 (.slice A n c) n xs) (hn : 0 < n) : ∃ g, A = some ⟨g, 0, none⟩ ∧ base ≤ g ∧ g < w.heap.size ∧ n ≤ c ∧ ∀ j u, xs[j]? = some u → w.cell? ⟨g, j, none⟩ = some u := by
  rcases h.2 with ⟨_, h1⟩ | ⟨g, cap, cur, hv, hg, hh, hcap, _⟩
  · omega
  · injection hv with hA _ hc
    subst hA hc
    refine ⟨g, rfl, hg, lt_of_block hh, hcap, fun j u hu => ?_⟩
    have := h.cells (g := g) rfl j u hu
    rwa [Addr.add_mid, Nat.zero_add] at this
end
end Go.Proofs.Ytofjocjljbkjgaa
namespace Go.Proofs.Ytofjocjljbkjgaa
open Go.RowKit
section
variable {H : Type} {enc : TypeId × Value → H} {P : Program} {w : World} {base : Nat} {sp : Nat → Bool} {held : Bool}
theorem trod_int {t : TypeId} {k : IntKind} {fuel : Nat} {cs : List Value} {x : DataW H × List MemPlace} (ht : P.underlying t = some (.int k)) (h : DataW.trod enc P w base sp held fuel t cs = some x) :
    ∃ n, cs = [.int k n] ∧ (Lit.int k n).wf = true := by
  cases fuel with
  | zero => simp [DataW.trod] at h
  | succ fuel =>
    simp only [DataW.trod, ht] at h
    split at h <;> simp_all
theorem trod_bool {t : TypeId} {fuel : Nat} {cs : List Value} {x : DataW H × List MemPlace} (ht : P.underlying t = some .bool) (h : DataW.trod enc P w base sp held fuel t cs = some x) :
    ∃ b, cs = [.bool b] := by
  cases fuel with
  | zero => simp [DataW.trod] at h
  | succ fuel =>
    simp only [DataW.trod, ht] at h
    split at h <;> simp_all
theorem trod_string {t : TypeId} {fuel : Nat} {cs : List Value} {x : DataW H × List MemPlace} (ht : P.underlying t = some .string) (h : DataW.trod enc P w base sp held fuel t cs = some x) :
    ∃ s, cs = [.string s] ∧ s.size ≤ maxLen := by
  cases fuel with
  | zero => simp [DataW.trod] at h
  | succ fuel =>
    simp only [DataW.trod, ht] at h
    split at h <;> simp_all
theorem trod_struct {t : TypeId} {fs : Array Field} {fuel : Nat} {cs : List Value} {x : DataW H × List MemPlace} (ht : P.underlying t = some (.struct fs)) (h : DataW.trod enc P w base sp held (fuel + 1) t cs = some x) :
    cs.length = P.cellsOf t ∧ ∀ f ∈ fs.toList, ∃ y, DataW.trod enc P w base sp held fuel f.type ((cs.drop f.offset).take (P.cellsOf f.type)) = some y := by
  simp only [DataW.trod, ht] at h
  split at h
  · rename_i hl
    refine ⟨hl, ?_⟩
    obtain ⟨ys, hys, _⟩ := Option.map_eq_some_iff.1 h
    intro f hf
    obtain ⟨i, hi⟩ := List.getElem?_of_mem hf
    have h1 := mapM_some_get hys i f hi
    have hl2 := mapM_some_length hys
    have hlt : i < ys.length := by rw [hl2]; exact (List.getElem?_eq_some_iff.1 hi).1
    rw [List.getElem?_eq_getElem hlt] at h1
    exact ⟨_, h1⟩
  · cases h
theorem cells_row {a : Addr} {n : Nat} {cs : List Value} (h : w.cells? base a n = some cs) (hn : 0 < n) : a.spot = none ∧ cs.length = n ∧ w.rangeAt a.block a.off cs := by
  unfold World.cells? at h
  split at h
  · have hl := mapM_some_length h
    rw [List.length_range] at hl
    have hat : ∀ i, i < n → w.cell? (a.add i) = cs[i]? := fun i hi => mapM_some_get h i i (by simp [hi])
    have h0 := hat 0 hn
    rw [List.getElem?_eq_getElem (by omega)] at h0
    have hs : a.spot = none := by
      have : (a.add 0) = a := by simp [Addr.add]
      rw [this] at h0
      unfold World.cell? at h0
      cases hsp : a.spot with
      | none => rfl
      | some x => simp only [hsp] at h0; split at h0 <;> simp_all
    refine ⟨hs, hl, fun j v hv => ?_⟩
    have hj : j < n := by rw [← hl]; exact (List.getElem?_eq_some_iff.1 hv).1
    have := hat j hj
    rw [hv] at this
    rw [← this]
    congr 1
    unfold Addr.add
    split
    · rename_i e; subst e; cases a; simp_all
    · simp
  · cases h
theorem trod_slice' {t e : TypeId} {fuel : Nat} {cs : List Value} {x : DataW H × List MemPlace} (ht : P.underlying t = some (.slice e)) (hpos : 0 < P.cellsOf e) (h : DataW.trod enc P w base sp held fuel t cs = some x) :
    ∃ A len cap n, cs = [.slice A len cap] ∧ len ≤ cap ∧ cap ≤ maxLen ∧ fuel = n + 1 ∧ (A = none → len = 0 ∧ cap = 0) ∧ ∀ i, i < len → ∃ B o es y, A = some ⟨B, o, none⟩ ∧ es.length = P.cellsOf e ∧ w.rangeAt B (o + i * P.cellsOf e) es ∧ DataW.trod enc P w base sp held n e es = some y := by
  rcases DataW.trod_slice ht h with ⟨rfl, _⟩ | ⟨a, len, cap, elems, rest, n, rfl, rfl, _, hb, hl, hm, hlen, hel, _, _⟩
  · cases fuel with
    | zero => simp [DataW.trod] at h
    | succ n => exact ⟨none, 0, 0, n, rfl, Nat.le_refl _, Nat.zero_le _, rfl, fun _ => ⟨rfl, rfl⟩, fun i hi => absurd hi (Nat.not_lt_zero _)⟩
  · refine ⟨some a, len, cap, n, rfl, hl, hm, rfl, (fun h => by cases h), fun i hi => ?_⟩
    have hat : ∀ i, i < len → ∃ es y, w.cells? base (a.add (i * P.cellsOf e)) (P.cellsOf e) = some es ∧ DataW.trod enc P w base sp held n e es = some y := by
      intro i hi
      have h1 := hel i hi
      rw [List.getElem?_eq_getElem (by omega)] at h1
      obtain ⟨es, h2, h3⟩ := Option.bind_eq_some_iff.1 h1
      exact ⟨es, _, h2, h3⟩
    obtain ⟨es0, y0, h0, _⟩ := hat 0 (by omega)
    have hsp : a.spot = none := by
      have := (cells_row h0 hpos).1
      simpa [Addr.add] using this
    obtain ⟨es, y, h1, h2⟩ := hat i hi
    obtain ⟨_, h3, h4⟩ := cells_row h1 hpos
    have e1 : (a.add (i * P.cellsOf e)).block = a.block := by unfold Addr.add; split <;> rfl
    have e2 : (a.add (i * P.cellsOf e)).off = a.off + i * P.cellsOf e := by
      unfold Addr.add; split
      · rename_i h; rw [h]; rfl
      · rfl
    rw [e1, e2] at h4
    exact ⟨a.block, a.off, es, y, by cases a; simp_all, h3, h4, h2⟩
end
end Go.Proofs.Ytofjocjljbkjgaa
namespace Go.Proofs.Ytofjocjljbkjgaa
open Go.RowKit
structure Tr where
  id : Int
  kind : Int
  text : ByteArray
  kids : List Tr
theorem Tr.ind {P : Tr → Prop} (h : ∀ t : Tr, (∀ k ∈ t.kids, P k) → P t) : ∀ t, P t := by
  have key : ∀ (n : Nat) (t : Tr), SizeOf.sizeOf t < n → P t := by
    intro n
    induction n with
    | zero => intro t h; omega
    | succ n ih =>
      intro t ht
      refine h t (fun k hk => ih k ?_)
      have := List.sizeOf_lt_of_mem hk
      cases t; simp at ht this; omega
  exact fun t => key _ t (Nat.lt_succ_self _)
mutual
def Tr.nodes : Tr → Nat
  | ⟨_, _, _, ks⟩ => 1 + nodesL ks
def nodesL : List Tr → Nat
  | [] => 0
  | k :: ks => k.nodes + nodesL ks
end
theorem Tr.nodes_eq (t : Tr) : t.nodes = 1 + nodesL t.kids := by cases t; rfl
theorem Tr.nodes_pos (t : Tr) : 0 < t.nodes := by rw [Tr.nodes_eq]; omega
theorem nodesL_mem {k : Tr} : ∀ {ks : List Tr}, k ∈ ks → k.nodes ≤ nodesL ks
  | x :: ks, h => by
    rcases List.mem_cons.1 h with rfl | h
    · unfold nodesL; omega
    · have := nodesL_mem h; unfold nodesL; omega
theorem nodesL_len : ∀ ks : List Tr, ks.length ≤ nodesL ks
  | [] => Nat.le_refl _
  | k :: ks => by have := nodesL_len ks; have := k.nodes_pos; unfold nodesL; simp; omega
theorem nodesL_append (a b : List Tr) : nodesL (a ++ b) = nodesL a + nodesL b := by
  induction a with
  | nil => simp [nodesL]
  | cons x a ih => simp only [List.cons_append, nodesL, ih]; omega
inductive TrC (ok : Nat → Prop) (w : World) : Tr → List Value → Prop
  | none (t : Tr) (A : Option Addr) (c : Nat) (h0 : t.kids = []) (hc : c ≤ 9223372036854775807) (ht : t.text.size ≤ 9223372036854775807) : TrC ok w t [.int .i64 t.id, .int .i64 t.kind, .string t.text, .slice A 0 c]
  | some (t : Tr) (g o c : Nat) (cs : Nat → List Value) (hl : t.kids.length ≤ c) (hc : c ≤ 9223372036854775807) (ht : t.text.size ≤ 9223372036854775807) (hok : ok g)
      (hr : ∀ i, i < t.kids.length → w.rangeAt g (o + i * 4) (cs i)) (hk : ∀ i k, t.kids[i]? = Option.some k → TrC ok w k (cs i)) : TrC ok w t [.int .i64 t.id, .int .i64 t.kind, .string t.text, .slice (Option.some ⟨g, o, Option.none⟩) t.kids.length c]
def KidsC (ok : Nat → Prop) (w : World) (A : Option Addr) (ks : List Tr) : Prop :=
  ∀ (i : Nat) k, ks[i]? = some k → ∃ g o cs, A = some ⟨g, o, none⟩ ∧ ok g ∧ w.rangeAt g (o + i * 4) cs ∧ TrC ok w k cs
theorem TrC.opens {ok : Nat → Prop} {w : World} {t : Tr} {cs : List Value} (h : TrC ok w t cs) :
    ∃ A c, cs = [.int .i64 t.id, .int .i64 t.kind, .string t.text, .slice A t.kids.length c] ∧ t.kids.length ≤ c ∧ c ≤ 9223372036854775807 ∧ t.text.size ≤ 9223372036854775807 ∧ KidsC ok w A t.kids := by
  cases h with
  | none _ A c h0 hc ht => exact ⟨A, c, by rw [h0]; rfl, by rw [h0]; exact Nat.zero_le _, hc, ht, fun i k hk => by rw [h0] at hk; simp at hk⟩
  | some _ g o c cs hl hc ht hok hr hk => exact ⟨_, c, rfl, hl, hc, ht, fun i k h => ⟨g, o, cs i, rfl, hok, hr i (List.getElem?_eq_some_iff.1 h).1, hk i k h⟩⟩
theorem TrC.mk {ok : Nat → Prop} {w : World} (t : Tr) {A : Option Addr} {c : Nat} (hl : t.kids.length ≤ c) (hc : c ≤ 9223372036854775807) (ht : t.text.size ≤ 9223372036854775807) (h : KidsC ok w A t.kids) :
    TrC ok w t [.int .i64 t.id, .int .i64 t.kind, .string t.text, .slice A t.kids.length c] := by
  cases hk : t.kids with
  | nil => rw [show ([] : List Tr).length = 0 from rfl]; exact TrC.none t A c hk hc ht
  | cons k0 ks =>
    rw [← hk]
    obtain ⟨g, o, cs0, rfl, hok, _, _⟩ := h 0 k0 (by rw [hk]; rfl)
    have h' : ∀ i, i < t.kids.length → ∃ cs, w.rangeAt g (o + i * 4) cs ∧ ∀ k, t.kids[i]? = Option.some k → TrC ok w k cs := by
      intro i hi
      obtain ⟨g', o', cs, e, _, h1, h2⟩ := h i _ (List.getElem?_eq_getElem hi)
      cases e
      exact ⟨cs, h1, fun k hk => by rw [List.getElem?_eq_getElem hi] at hk; cases hk; exact h2⟩
    let f : Nat → List Value := fun i => if hi : i < t.kids.length then (h' i hi).choose else []
    have hf : ∀ i (hi : i < t.kids.length), f i = (h' i hi).choose := fun i hi => by simp [f, hi]
    exact TrC.some t g o c f hl hc ht hok (fun i hi => by rw [hf i hi]; exact (h' i hi).choose_spec.1) (fun i k hk => by
      have hi := (List.getElem?_eq_some_iff.1 hk).1
      rw [hf i hi]; exact (h' i hi).choose_spec.2 k hk)
theorem TrC.four {ok : Nat → Prop} {w : World} {t : Tr} {cs : List Value} (h : TrC ok w t cs) : cs.length = 4 := by
  obtain ⟨A, c, rfl, _⟩ := h.opens; rfl
theorem range_lt {w : World} {g o : Nat} {cs : List Value} (h : w.rangeAt g o cs) (hl : 0 < cs.length) : g < w.heap.size := by
  have := h 0 _ (List.getElem?_eq_getElem hl)
  exact World.block_lt_of_cell? w _ this
theorem TrC.move {ok ok' : Nat → Prop} {w w' : World} (hb : ∀ g, ok g → g < w.heap.size → w'.heap[g]? = w.heap[g]? ∧ ok' g) {t : Tr} {cs : List Value} (h : TrC ok w t cs) : TrC ok' w' t cs := by
  induction h with
  | none t A c h0 hc ht => exact .none t A c h0 hc ht
  | some t g o c cs hl hc ht hok hr hk ih =>
    by_cases h0 : t.kids = []
    · rw [h0]; exact .none t _ c h0 hc ht
    · have hpos : 0 < t.kids.length := List.length_pos_iff.2 h0
      have hlt : g < w.heap.size := range_lt (hr 0 hpos) (by rw [(hk 0 _ (List.getElem?_eq_getElem hpos)).four]; omega)
      exact .some t g o c cs hl hc ht (hb g hok hlt).2 (fun i hi j v hv => by
        have := hr i hi j v hv
        simp only [World.cell?] at this ⊢
        rw [(hb g hok hlt).1]; exact this) ih
theorem TrC.kept {ok : Nat → Prop} {w w' : World} {l : List Nat} {t : Tr} {cs : List Value} (h : TrC ok w t cs) (hc : Chg l w w') (hl : ∀ g, ok g → g ∉ l) : TrC ok w' t cs :=
  h.move fun g hg hlt => ⟨hc.block g hlt (hl g hg), hg⟩
theorem TrC.weak {ok ok' : Nat → Prop} {w : World} {t : Tr} {cs : List Value} (h : TrC ok w t cs) (hl : ∀ g, ok g → g < w.heap.size → ok' g) : TrC ok' w t cs :=
  h.move fun g hg hlt => ⟨rfl, hl g hg hlt⟩
theorem KidsC.move {ok ok' : Nat → Prop} {w w' : World} (hb : ∀ g, ok g → g < w.heap.size → w'.heap[g]? = w.heap[g]? ∧ ok' g) {A : Option Addr} {ks : List Tr} (h : KidsC ok w A ks) : KidsC ok' w' A ks := fun i k hk => by
  obtain ⟨g, o, cs, hA, hok, hr, hc⟩ := h i k hk
  have hlt := range_lt hr (by rw [hc.four]; omega)
  refine ⟨g, o, cs, hA, (hb g hok hlt).2, fun j v hv => ?_, hc.move hb⟩
  have := hr j v hv
  simp only [World.cell?] at this ⊢
  rw [(hb g hok hlt).1]; exact this
theorem KidsC.kept {ok : Nat → Prop} {w w' : World} {l : List Nat} {A : Option Addr} {ks : List Tr} (h : KidsC ok w A ks) (hc : Chg l w w') (hl : ∀ g, ok g → g ∉ l) : KidsC ok w' A ks :=
  h.move fun g hg hlt => ⟨hc.block g hlt (hl g hg), hg⟩
theorem KidsC.weak {ok ok' : Nat → Prop} {w : World} {A : Option Addr} {ks : List Tr} (h : KidsC ok w A ks) (hl : ∀ g, ok g → g < w.heap.size → ok' g) : KidsC ok' w A ks :=
  h.move fun g hg hlt => ⟨rfl, hl g hg hlt⟩
theorem KidsC.nil (ok : Nat → Prop) (w : World) (A : Option Addr) : KidsC ok w A [] := fun i k hk => by simp at hk
def TrAt (ok : Nat → Prop) (w : World) (g o : Nat) (t : Tr) : Prop := ∃ cs, w.rangeAt g o cs ∧ TrC ok w t cs
theorem KidsC.at {ok : Nat → Prop} {w : World} {A : Option Addr} {ks : List Tr} (h : KidsC ok w A ks) {i : Nat} (hi : i < ks.length) : ∃ g o, A = some ⟨g, o, none⟩ ∧ ok g ∧ TrAt ok w g (o + i * 4) (ks[i]'hi) := by
  obtain ⟨g, o, cs, hA, hok, hr, hc⟩ := h i _ (List.getElem?_eq_getElem hi)
  exact ⟨g, o, hA, hok, cs, hr, hc⟩
theorem one4 {ok : Nat → Prop} {w : World} {t : Tr} {cs : List Value} (h : TrC ok w t cs) : ∀ u ∈ cs, u.oneCell' = true := by
  obtain ⟨A, c, rfl, _⟩ := h.opens
  intro u hu
  simp at hu
  rcases hu with rfl | rfl | rfl | rfl <;> rfl
theorem infoNode : (Try.prog.info? 24).map (fun i => (i.zero, i.size, i.bytes)) = some (some (.agg #[.int .i64 0, .int .i64 0, .string ⟨#[]⟩, .slice none 0 0]), 4, 56) := by kernel_rfl
theorem szNode : (Try.prog.info? 24).map (·.size) = some 4 := by kernel_rfl
def RowT (ok : Nat → Prop) (w : World) (base : Nat) (v : Value) (ks : List Tr) : Prop :=
  ∃ css : List (List Value), w.ownsRow base 24 4 v ks.length css.flatten ∧ css.length = ks.length ∧ (∀ (i : Nat) k cs, ks[i]? = some k → css[i]? = some cs → TrC ok w k cs) ∧ ∀ b, v.ownBlock = some b → ¬ ok b
theorem RowT.nil (ok : Nat → Prop) (w : World) (base : Nat) : RowT ok w base (.slice none 0 0) [] :=
  ⟨[], World.ownsRow_nil _ _ _ _, rfl, fun i k cs h => by simp at h, fun b h => by cases h⟩
theorem flat_len4 : ∀ css : List (List Value), (∀ cs ∈ css, cs.length = 4) → css.flatten.length = css.length * 4
  | [], _ => rfl
  | c :: css, h => by
    rw [List.flatten_cons, List.length_append, flat_len4 css (fun x hx => h x (by simp [hx])), h c (by simp)]
    simp; omega
theorem flat_at4 : ∀ (css : List (List Value)) (i : Nat) (cs : List Value) (j : Nat) (v : Value), (∀ cs ∈ css, cs.length = 4) → css[i]? = some cs → cs[j]? = some v → css.flatten[i * 4 + j]? = some v
  | [], i, cs, j, v, _, h, _ => by simp at h
  | c :: css, 0, cs, j, v, h, h1, h2 => by
    simp at h1; subst h1
    rw [List.flatten_cons, Nat.zero_mul, Nat.zero_add, List.getElem?_append_left (List.getElem?_eq_some_iff.1 h2).1]; exact h2
  | c :: css, i + 1, cs, j, v, h, h1, h2 => by
    have h4 := h c (by simp)
    rw [List.flatten_cons, List.getElem?_append_right (by omega), h4, show (i + 1) * 4 + j - 4 = i * 4 + j from by omega]
    exact flat_at4 css i cs j v (fun x hx => h x (by simp [hx])) (by simpa using h1) h2
theorem RowT.all4 {ok : Nat → Prop} {w : World} {ks : List Tr} {css : List (List Value)} (hl : css.length = ks.length) (h : ∀ (i : Nat) k cs, ks[i]? = some k → css[i]? = some cs → TrC ok w k cs) : ∀ cs ∈ css, cs.length = 4 := by
  intro cs hcs
  obtain ⟨i, hi, rfl⟩ := List.getElem_of_mem hcs
  exact (h i (ks[i]'(by omega)) _ (List.getElem?_eq_getElem _) (List.getElem?_eq_getElem _)).four
theorem RowT.kept {ok : Nat → Prop} {w w' : World} {base : Nat} {v : Value} {ks : List Tr} (h : RowT ok w base v ks) {l : List Nat} (hc : Chg l w w') (h1 : ∀ b, v.ownBlock = some b → b ∉ l) (h2 : ∀ g, ok g → g ∉ l) : RowT ok w' base v ks := by
  obtain ⟨css, ho, hl, hk, hn⟩ := h
  exact ⟨css, own_kept ho hc h1, hl, fun i k cs a b => (hk i k cs a b).kept hc h2, hn⟩
theorem RowT.weak {ok ok' : Nat → Prop} {w : World} {base : Nat} {v : Value} {ks : List Tr} (h : RowT ok w base v ks) (h1 : ∀ g, ok g → g < w.heap.size → ok' g) (h2 : ∀ b, v.ownBlock = some b → ¬ ok' b) : RowT ok' w base v ks := by
  obtain ⟨css, ho, hl, hk, hn⟩ := h
  exact ⟨css, ho, hl, fun i k cs a b => (hk i k cs a b).weak h1, h2⟩
theorem RowT.kids {ok ok' : Nat → Prop} {w : World} {base : Nat} {v : Value} {ks : List Tr} (h : RowT ok w base v ks) (h1 : ∀ g, ok g → g < w.heap.size → ok' g) (h2 : ∀ b, v.ownBlock = some b → ok' b) : ∃ A c, v = .slice A ks.length c ∧ ks.length ≤ c ∧ c ≤ 9223372036854775807 ∧ KidsC ok' w A ks := by
  obtain ⟨css, ho, hl, hk, hn⟩ := h
  have h4 := RowT.all4 hl hk
  rcases ho.2 with ⟨rfl, h0⟩ | ⟨g, cap, cur, rfl, hb, hg, hn1, hn2, hsz, htk⟩
  · have : ks = [] := List.length_eq_zero_iff.1 h0
    subst this
    exact ⟨none, 0, rfl, Nat.le_refl _, by omega, KidsC.nil _ _ _⟩
  · refine ⟨_, cap, rfl, hn1, by unfold maxLen at hn2; exact hn2, fun i k hki => ?_⟩
    have hi := (List.getElem?_eq_some_iff.1 hki).1
    obtain ⟨cs, hcs⟩ : ∃ cs, css[i]? = some cs := ⟨css[i]'(by omega), List.getElem?_eq_getElem _⟩
    refine ⟨g, 0, cs, rfl, h2 g rfl, fun j u hu => ?_, (hk i k cs hki hcs).weak h1⟩
    have := flat_at4 css i cs j u h4 hcs hu
    rw [← htk, List.getElem?_take] at this
    split at this
    · simp only [World.cell?, hg]
      rw [Nat.zero_add]
      simpa using this
    · cases this
theorem RowT.push {ok : Nat → Prop} {w w' : World} {base : Nat} {v v' : Value} {ks : List Tr} {css : List (List Value)} {k : Tr} {cs : List Value} (hl : css.length = ks.length) (hk : ∀ (i : Nat) k cs, ks[i]? = some k → css[i]? = some cs → TrC ok w k cs) (hn : ∀ b, v.ownBlock = some b → ¬ ok b)
    (hc : TrC ok w k cs) (ho : w'.ownsRow base 24 4 v' (ks.length + 1) (css.flatten ++ cs)) (hg : w.grownBy w' v.ownBlock) (hat : v'.ownBlock = v.ownBlock ∨ v'.ownBlock = some w.heap.size) (hok : ∀ g, ok g → g < w.heap.size) : RowT ok w' base v' (ks ++ [k]) := by
  have hm : ∀ t cs, TrC ok w t cs → TrC ok w' t cs := fun t cs h => h.move fun g hg' hlt => ⟨hg.block g hlt (fun e => hn g e.symm hg'), hg'⟩
  refine ⟨css ++ [cs], by simpa using ho, by simp [hl], fun i k' cs' h1 h2 => ?_, fun b hb => ?_⟩
  · rcases Nat.lt_or_ge i ks.length with hi | hi
    · rw [List.getElem?_append_left hi] at h1
      rw [List.getElem?_append_left (by omega)] at h2
      exact hm _ _ (hk i k' cs' h1 h2)
    · rw [List.getElem?_append_right hi] at h1
      rw [List.getElem?_append_right (by omega), hl] at h2
      have : i - ks.length = 0 := by
        have := (List.getElem?_eq_some_iff.1 h1).1
        simp at this; omega
      rw [this] at h1 h2
      simp at h1 h2; subst h1 h2
      exact hm _ _ hc
  · rcases hat with h | h
    · exact hn b (by rw [← h]; exact hb)
    · rw [h] at hb; cases hb
      exact fun h => Nat.lt_irrefl _ (hok _ h)
end Go.Proofs.Ytofjocjljbkjgaa
namespace Go.Proofs.Ytofjocjljbkjgaa
open Go.RowKit
inductive TrV (w : World) : Tr → List Value → (Nat → Prop) → Prop
  | leaf (t : Tr) (A : Option Addr) (c : Nat) (F : Nat → Prop) (h0 : t.kids = []) (hA : A = none → c = 0) (hc : c ≤ 9223372036854775807) (ht : t.text.size ≤ 9223372036854775807) : TrV w t [.int .i64 (Tr.id t), .int .i64 (Tr.kind t), .string (Tr.text t), .slice A 0 c] F
  | node (t : Tr) (b c : Nat) (C : Array Value) (cs : Nat → List Value) (fs : Nat → Nat → Prop) (F : Nat → Prop) (hp : 0 < t.kids.length) (hl : t.kids.length ≤ c) (hc : c ≤ 9223372036854775807) (ht : t.text.size ≤ 9223372036854775807)
      (hb : w.heap[b]? = some (.cells C 24 (0, 0))) (hFb : F b) (hF : ∀ i x, i < t.kids.length → fs i x → F x ∧ x ≠ b) (hd : ∀ i j x, i < t.kids.length → j < t.kids.length → i ≠ j → fs i x → ¬ fs j x)
      (hr : ∀ i, i < t.kids.length → w.rangeAt b (i * 4) (cs i)) (hk : ∀ i k, t.kids[i]? = some k → TrV w k (cs i) (fs i)) : TrV w t [.int .i64 (Tr.id t), .int .i64 (Tr.kind t), .string (Tr.text t), .slice (some ⟨b, 0, none⟩) t.kids.length c] F
theorem TrV.four {w : World} {t : Tr} {cs : List Value} {F : Nat → Prop} (h : TrV w t cs F) : cs.length = 4 := by cases h <;> rfl
theorem TrV.toC {w : World} {t : Tr} {cs : List Value} {F : Nat → Prop} (h : TrV w t cs F) : TrC F w t cs := by
  induction h with
  | leaf t A c F h0 hA hc ht => exact .none t A c h0 hc ht
  | node t b c C cs fs F hp hl hc ht hb hFb hF hd hr hk ih =>
    exact .some t b 0 c cs hl hc ht hFb (fun i hi => by rw [Nat.zero_add]; exact hr i hi) (fun i k h => (ih i k h).weak (fun g hg _ => (hF i g (List.getElem?_eq_some_iff.1 h).1 hg).1))
theorem TrV.move {w w' : World} {t : Tr} {cs : List Value} {F F' : Nat → Prop} (h : TrV w t cs F) (hb : ∀ g, F g → g < w.heap.size → w'.heap[g]? = w.heap[g]?) (hF' : ∀ g, F g → g < w.heap.size → F' g) : TrV w' t cs (fun g => F' g ∧ g < w.heap.size) := by
  induction h generalizing F' with
  | leaf t A c F h0 hA hc ht => exact .leaf t A c _ h0 hA hc ht
  | node t b c C cs fs F hp hl hc ht hB hFb hF hd hr hk ih =>
    have hlt := lt_of_block hB
    refine .node t b c C cs (fun i x => fs i x ∧ x < w.heap.size) _ hp hl hc ht ((hb b hFb hlt).trans hB) ⟨hF' b hFb hlt, hlt⟩ (fun i x hi hx => ⟨⟨hF' x (hF i x hi hx.1).1 hx.2, hx.2⟩, (hF i x hi hx.1).2⟩) (fun i j x hi hj hne h1 h2 => hd i j x hi hj hne h1.1 h2.1) (fun i hi j v hv => ?_) (fun i k hki => ?_)
    · have := hr i hi j v hv
      simp only [World.cell?] at this ⊢
      rw [hb b hFb hlt]; exact this
    · have hi := (List.getElem?_eq_some_iff.1 hki).1
      exact ih i k hki (fun g hg hl => hb g (hF i g hi hg).1 hl) (fun g hg _ => hg)
theorem TrV.weak {w : World} {t : Tr} {cs : List Value} {F F' : Nat → Prop} (h : TrV w t cs F) (hF : ∀ g, F g → F' g) : TrV w t cs F' := by
  cases h with
  | leaf t A c F h0 hA hc ht => exact .leaf t A c _ h0 hA hc ht
  | node t b c C cs fs F hp hl hc ht hB hFb hF2 hd hr hk => exact .node t b c C cs fs _ hp hl hc ht hB (hF b hFb) (fun i x hi hx => ⟨hF x (hF2 i x hi hx).1, (hF2 i x hi hx).2⟩) hd hr hk
theorem TrV.bound {w : World} {t : Tr} {cs : List Value} {F : Nat → Prop} (h : TrV w t cs F) : TrV w t cs (fun g => F g ∧ g < w.heap.size) := h.move (fun _ _ _ => rfl) (fun _ h _ => h)
theorem TrV.kept {w w' : World} {t : Tr} {cs : List Value} {F : Nat → Prop} {l : List Nat} (h : TrV w t cs F) (hc : Chg l w w') (hl : ∀ g, F g → g ∉ l) : TrV w' t cs F :=
  (h.move (F' := F) (fun g hg hlt => hc.block g hlt (hl g hg)) (fun _ h _ => h)).weak (fun _ h => h.1)
def RowV (w : World) (base : Nat) (v : Value) (ks : List Tr) (F : Nat → Prop) : Prop :=
  ∃ (css : List (List Value)) (fs : Nat → Nat → Prop), w.ownsRow base 24 4 v ks.length css.flatten ∧ css.length = ks.length ∧ (∀ (i : Nat) k cs, ks[i]? = some k → css[i]? = some cs → TrV w k cs (fs i))
    ∧ (∀ i x, i < ks.length → fs i x → F x ∧ x < w.heap.size ∧ v.ownBlock ≠ some x) ∧ (∀ i j x, i < ks.length → j < ks.length → i ≠ j → fs i x → ¬ fs j x)
theorem RowV.nil (w : World) (base : Nat) (F : Nat → Prop) : RowV w base (.slice none 0 0) [] F :=
  ⟨[], fun _ _ => False, World.ownsRow_nil _ _ _ _, rfl, (fun i k cs h => by simp at h), (fun i x h => by simp at h), fun i j x h => by simp at h⟩
theorem RowV.own {w : World} {base : Nat} {v : Value} {ks : List Tr} {F : Nat → Prop} (h : RowV w base v ks F) : ∀ b, v.ownBlock = some b → base ≤ b ∧ b < w.heap.size := by
  obtain ⟨css, fs, ho, _⟩ := h; exact ho.lt
theorem RowV.kept {w w' : World} {base : Nat} {v : Value} {ks : List Tr} {F : Nat → Prop} (h : RowV w base v ks F) {l : List Nat} (hc : Chg l w w') (h1 : ∀ b, v.ownBlock = some b → b ∉ l) (h2 : ∀ g, F g → g ∉ l) : RowV w' base v ks F := by
  obtain ⟨css, fs, ho, hl, hk, hF, hd⟩ := h
  exact ⟨css, fs, own_kept ho hc h1, hl, fun i k cs a b => (hk i k cs a b).kept hc (fun g hg => h2 g (hF i g (List.getElem?_eq_some_iff.1 a).1 hg).1), fun i x hi hx => ⟨(hF i x hi hx).1, Nat.lt_of_lt_of_le (hF i x hi hx).2.1 hc.size, (hF i x hi hx).2.2⟩, hd⟩
theorem RowV.weak {w : World} {base : Nat} {v : Value} {ks : List Tr} {F F' : Nat → Prop} (h : RowV w base v ks F) (hF' : ∀ g, F g → F' g) : RowV w base v ks F' := by
  obtain ⟨css, fs, ho, hl, hk, hF, hd⟩ := h
  exact ⟨css, fs, ho, hl, hk, fun i x hi hx => ⟨hF' x (hF i x hi hx).1, (hF i x hi hx).2⟩, hd⟩
theorem all4 {α : Type} {ks : List α} {css : List (List Value)} {n : Nat} (hl : css.length = ks.length) (h : ∀ (i : Nat) k cs, ks[i]? = some k → css[i]? = some cs → cs.length = n) : ∀ cs ∈ css, cs.length = n := by
  intro cs hcs
  obtain ⟨i, hi, rfl⟩ := List.getElem_of_mem hcs
  exact h i (ks[i]'(by omega)) _ (List.getElem?_eq_getElem _) (List.getElem?_eq_getElem _)
theorem TrV.one {w : World} {t : Tr} {cs : List Value} {F : Nat → Prop} (h : TrV w t cs F) : ∀ u ∈ cs, u.oneCell' = true := one4 h.toC
theorem RowV.node {w : World} {base : Nat} {v : Value} {F : Nat → Prop} (t : Tr) (h : RowV w base v t.kids F) (ht : t.text.size ≤ 9223372036854775807) :
    ∃ A c, v = .slice A t.kids.length c ∧ TrV w t [.int .i64 (Tr.id t), .int .i64 (Tr.kind t), .string (Tr.text t), .slice A t.kids.length c] (fun g => F g ∨ v.ownBlock = some g) := by
  obtain ⟨css, fs, ho, hl, hk, hF, hd⟩ := h
  have h4 := all4 hl (fun i k cs a b => (hk i k cs a b).four)
  rcases ho.2 with ⟨rfl, h0⟩ | ⟨g, cap, cur, rfl, hb, hg, hn1, hn2, hsz, htk⟩
  · have hk0 : t.kids = [] := List.length_eq_zero_iff.1 h0
    refine ⟨none, 0, by rw [h0], ?_⟩
    rw [h0]
    exact .leaf t none 0 _ hk0 (fun _ => rfl) (by omega) ht
  · unfold maxLen at hn2
    refine ⟨_, cap, rfl, ?_⟩
    by_cases h0 : t.kids.length = 0
    · rw [h0]; exact .leaf t _ cap _ (List.length_eq_zero_iff.1 h0) (fun h => by cases h) hn2 ht
    · refine .node t g cap cur (fun i => css.getD i []) fs _ (by omega) hn1 hn2 ht hg (.inr rfl) (fun i x hi hx => ⟨.inl (hF i x hi hx).1, fun e => (hF i x hi hx).2.2 (by rw [e]; rfl)⟩) hd (fun i hi j u hu => ?_) (fun i k hki => ?_)
      · have hcs : css[i]? = some (css.getD i []) := by simp [List.getD, List.getElem?_eq_getElem (show i < css.length by omega)]
        have := flat_at4 css i _ j u h4 hcs hu
        rw [← htk, List.getElem?_take] at this
        split at this
        · simp only [World.cell?, hg]; simpa using this
        · cases this
      · have hi := (List.getElem?_eq_some_iff.1 hki).1
        exact hk i k _ hki (by simp [List.getD, List.getElem?_eq_getElem (show i < css.length by omega)])
theorem RowV.push {w w' : World} {base : Nat} {v v' : Value} {ks : List Tr} {css : List (List Value)} {fs : Nat → Nat → Prop} {F G : Nat → Prop} {k : Tr} {cs : List Value} (hl : css.length = ks.length)
    (hk : ∀ (i : Nat) k cs, ks[i]? = some k → css[i]? = some cs → TrV w k cs (fs i)) (hF : ∀ i x, i < ks.length → fs i x → F x ∧ x < w.heap.size ∧ v.ownBlock ≠ some x) (hd : ∀ i j x, i < ks.length → j < ks.length → i ≠ j → fs i x → ¬ fs j x)
    (hc : TrV w k cs G) (hG : ∀ x, G x → F x ∧ x < w.heap.size ∧ v.ownBlock ≠ some x ∧ ∀ i, i < ks.length → ¬ fs i x)
    (ho : w'.ownsRow base 24 4 v' (ks.length + 1) (css.flatten ++ cs)) (hg : w.grownBy w' v.ownBlock) (hat : v'.ownBlock = v.ownBlock ∨ v'.ownBlock = some w.heap.size) : RowV w' base v' (ks ++ [k]) F := by
  have hm : ∀ t cs (f : Nat → Prop), (∀ x, f x → x < w.heap.size ∧ v.ownBlock ≠ some x) → TrV w t cs f → TrV w' t cs f := fun t cs f hf h => (h.move (F' := f) (fun g hg' hlt => hg.block g hlt (fun e => (hf g hg').2 e.symm)) (fun _ h _ => h)).weak (fun _ h => h.1)
  have hv' : ∀ x, x < w.heap.size → v.ownBlock ≠ some x → v'.ownBlock ≠ some x := by
    intro x hx hn e
    rcases hat with h | h
    · exact hn (h.symm.trans e)
    · rw [h] at e; injection e with e; omega
  refine ⟨css ++ [cs], fun i x => if i < ks.length then fs i x else G x, by simpa using ho, by simp [hl], fun i k' cs' h1 h2 => ?_, fun i x hi hx => ?_, fun i j x hi hj hne h1 h2 => ?_⟩
  · rcases Nat.lt_or_ge i ks.length with hi | hi
    · rw [List.getElem?_append_left hi] at h1
      rw [List.getElem?_append_left (by omega)] at h2
      have := hm _ _ _ (fun x hx => (hF i x hi hx).2) (hk i k' cs' h1 h2)
      simpa [hi] using this
    · rw [List.getElem?_append_right hi] at h1
      rw [List.getElem?_append_right (by omega), hl] at h2
      have : i - ks.length = 0 := by
        have := (List.getElem?_eq_some_iff.1 h1).1
        simp at this; omega
      rw [this] at h1 h2
      simp at h1 h2; subst h1 h2
      have := hm _ _ _ (fun x hx => ⟨(hG x hx).2.1, (hG x hx).2.2.1⟩) hc
      simpa [Nat.not_lt.2 hi] using this
  · by_cases h : i < ks.length
    · simp only [h, if_true] at hx
      have := hF i x h hx
      exact ⟨this.1, Nat.lt_of_lt_of_le this.2.1 hg.size, hv' x this.2.1 this.2.2⟩
    · simp only [h, if_false] at hx
      have := hG x hx
      exact ⟨this.1, Nat.lt_of_lt_of_le this.2.1 hg.size, hv' x this.2.1 this.2.2.1⟩
  · simp only [List.length_append, List.length_cons, List.length_nil] at hi hj
    by_cases h3 : i < ks.length <;> by_cases h4 : j < ks.length <;> simp only [h3, h4, if_true, if_false] at h1 h2
    · exact hd i j x h3 h4 hne h1 h2
    · exact (hG x h2).2.2.2 i h3 h1
    · exact (hG x h1).2.2.2 j h4 h2
    · omega
theorem RowV.grow {w1 w2 : World} {base : Nat} {v : Value} {ks : List Tr} {F : Nat → Prop} (h : RowV w1 base v ks F) (hc : Chg [] w1 w2) :
    ∃ xs, w2.ownsRow base 24 4 v ks.length xs ∧ ∀ (k : Tr) (cs : List Value) (G : Nat → Prop) (w3 : World) (v' : Value), TrV w2 k cs G → (∀ x, G x → F x ∧ w1.heap.size ≤ x ∧ x < w2.heap.size) → w3.ownsRow base 24 4 v' (ks.length + 1) (xs ++ cs) → w2.grownBy w3 v.ownBlock → (v'.ownBlock = v.ownBlock ∨ v'.ownBlock = some w2.heap.size) → RowV w3 base v' (ks ++ [k]) F := by
  have hv := h.own
  obtain ⟨css, fs, ho, hl, hk, hF, hd⟩ := h
  refine ⟨css.flatten, own_kept ho hc (by simp), fun k cs G w3 v' hT hG ho' hg hat => ?_⟩
  refine RowV.push hl (fun i k' cs' h1 h2 => (hk i k' cs' h1 h2).kept hc (by simp)) (fun i x hi hx => ⟨(hF i x hi hx).1, Nat.lt_of_lt_of_le (hF i x hi hx).2.1 hc.size, (hF i x hi hx).2.2⟩) hd hT (fun x hx => ?_) ho' hg hat
  obtain ⟨a, b, c⟩ := hG x hx
  exact ⟨a, c, fun e => by have := hv x e; omega, fun i hi hf => by have := hF i x hi hf; omega⟩
theorem RowV.growBox {w1 X : World} {base : Nat} {v : Value} {ks : List Tr} {F : Nat → Prop} {k : Tr} {cs : List Value} (h : RowV w1 base v ks F) (hc : Chg [] w1 X) (hT : TrV X k cs (fun g => w1.heap.size ≤ g ∧ g < X.heap.size)) (hF : ∀ x, w1.heap.size ≤ x → F x) (C : Array Value) :
    ∃ xs, (X.alloc (.cells C 24)).ownsRow base 24 4 v ks.length xs ∧ ∀ (w3 : World) (v' : Value), w3.ownsRow base 24 4 v' (ks.length + 1) (xs ++ cs) → (X.alloc (.cells C 24)).grownBy w3 v.ownBlock → (v'.ownBlock = v.ownBlock ∨ v'.ownBlock = some (X.alloc (.cells C 24)).heap.size) → RowV w3 base v' (ks ++ [k]) F := by
  have hXa : Chg [] X (X.alloc (.cells C 24)) := (Chg.refl _ _).alloc _
  obtain ⟨xs, ho, hg⟩ := h.grow (hc.trans hXa)
  exact ⟨xs, ho, fun w3 v' => hg k cs _ w3 v' (hT.kept hXa (by simp)) (fun x hx => ⟨hF x hx.1, hx.1, Nat.lt_of_lt_of_le hx.2 hXa.size⟩)⟩
theorem set4 {w : World} {b : Nat} {a0 a1 a2 a3 v0 v1 v2 v3 : Value} {t : TypeId} (h : w.heap[b]? = some (.cells #[a0, a1, a2, a3] t (0, 0))) :
    ((((w.setCell ⟨b, 0, none⟩ v0).setCell ⟨b, 1, none⟩ v1).setCell ⟨b, 2, none⟩ v2).setCell ⟨b, 3, none⟩ v3).heap[b]? = some (.cells #[v0, v1, v2, v3] t (0, 0)) :=
  heap_setCell_same _ _ 3 _ _ _ (heap_setCell_same _ _ 2 _ _ _ (heap_setCell_same _ _ 1 _ _ _ (heap_setCell_same _ _ 0 _ _ _ h)))
theorem chg4 (w : World) (b : Nat) (v0 v1 v2 v3 : Value) : Chg [b] w ((((w.setCell ⟨b, 0, none⟩ v0).setCell ⟨b, 1, none⟩ v1).setCell ⟨b, 2, none⟩ v2).setCell ⟨b, 3, none⟩ v3) :=
  ((((Chg.refl _ _).setCell _ _ (by simp)).setCell _ _ (by simp)).setCell _ _ (by simp)).setCell _ _ (by simp)
end Go.Proofs.Ytofjocjljbkjgaa
namespace Go.Proofs.Ytofjocjljbkjgaa
open Go.RowKit
theorem take_snoc' {α : Type} (l : List α) (k : Nat) (h : k < l.length) : l.take (k + 1) = l.take k ++ [l[k]] := by
  rw [List.take_succ_eq_append_getElem h]
theorem TrAt.kept {ok : Nat → Prop} {w w' : World} {g o : Nat} {t : Tr} {l : List Nat} (h : TrAt ok w g o t) (hc : Chg l w w') (hg : g ∉ l) (hl : ∀ g, ok g → g ∉ l) : TrAt ok w' g o t := by
  obtain ⟨cs, hr, ht⟩ := h
  exact ⟨cs, fun j v hv => hc.cell (hr j v hv) hg, ht.kept hc hl⟩
theorem TrAt.weak {ok ok' : Nat → Prop} {w : World} {g o : Nat} {t : Tr} (h : TrAt ok w g o t) (hl : ∀ g, ok g → ok' g) : TrAt ok' w g o t := by
  obtain ⟨cs, hr, ht⟩ := h
  exact ⟨cs, hr, ht.weak (fun g hg _ => hl g hg)⟩
theorem TrAt.cells {ok : Nat → Prop} {w : World} {g o : Nat} {t : Tr} (h : TrAt ok w g o t) : ∃ A c, w.cell? ⟨g, o, none⟩ = some (.int .i64 t.id) ∧ w.cell? ⟨g, o + 1, none⟩ = some (.int .i64 t.kind) ∧ w.cell? ⟨g, o + 2, none⟩ = some (.string t.text) ∧ w.cell? ⟨g, o + 3, none⟩ = some (.slice A t.kids.length c) ∧ t.kids.length ≤ c ∧ c ≤ 9223372036854775807 ∧ t.text.size ≤ 9223372036854775807 ∧ KidsC ok w A t.kids := by
  obtain ⟨cs, hr, ht⟩ := h
  obtain ⟨A, c, rfl, h1, h2, h3, h4⟩ := ht.opens
  exact ⟨A, c, hr 0 _ rfl, hr 1 _ rfl, hr 2 _ rfl, hr 3 _ rfl, h1, h2, h3, h4⟩
theorem blk4 {w : World} {b : Nat} {a0 a1 a2 a3 : Value} {t : TypeId} {fr : Nat × Nat} (h : w.heap[b]? = some (.cells #[a0, a1, a2, a3] t fr)) : w.cell? ⟨b, 0, none⟩ = some a0 ∧ w.cell? ⟨b, 1, none⟩ = some a1 ∧ w.cell? ⟨b, 2, none⟩ = some a2 ∧ w.cell? ⟨b, 3, none⟩ = some a3 := by
  simp [World.cell?, h]
theorem blkF {w : World} {b : Nat} {C : Array Value} {t : TypeId} (h : w.heap[b]? = some (.cells C t (0, 0))) (i : Nat) : w.frozen? ⟨b, i, none⟩ = false := by simp [World.frozen?, h]
end Go.Proofs.Ytofjocjljbkjgaa
namespace Go.Proofs.Ytofjocjljbkjgaa
open Go.RowKit
def NewPost (t : Tr) (w : World) (e : Ending) (w' : World) : Prop := ∃ A c, e = .returned (.agg #[.int .i64 (Tr.id t), .int .i64 (Tr.kind t), .string (Tr.text t), .slice A (Tr.kids t).length c]) ∧ TrV w' t [.int .i64 (Tr.id t), .int .i64 (Tr.kind t), .string (Tr.text t), .slice A (Tr.kids t).length c] (fun g => w.heap.size ≤ g ∧ g < w'.heap.size) ∧ Chg [] w w'
structure Own (w wr : World) (t : Tr) (b k : Nat) (v : Value) : Prop where
  out : wr.heap[b]? = some (.cells #[.int .i64 t.id, .int .i64 t.kind, .string t.text, v] 24 (0, 0))
  chg : Chg [] w wr
  row : RowV wr (b + 1) v (t.kids.take k) (fun g => b < g)
theorem Own.kept {w wr w' : World} {t : Tr} {b k : Nat} {v : Value} (h : Own w wr t b k v) (hc : Chg [] wr w') : Own w w' t b k v := ⟨hc.at h.out (by simp), h.chg.trans hc, h.row.kept hc (by simp) (by simp)⟩
set_option maxHeartbeats 4000000 in
set_option maxRecDepth 100000 in
theorem own_any : ∀ (t : Tr) (g o : Nat) (w : World), TrAt (fun _ => True) w g o t → t.nodes ≤ 100000 → Calls Try.prog 57 #[.pointer (some ⟨g, o, none⟩)] w (NewPost t w) := by
  intro t
  induction t using Tr.ind with
  | h t ih =>
  intro g o w hT hN
  obtain ⟨ip, hi, hz0, hz1, hz2⟩ := info_parts infoNode
  obtain ⟨A, c, c0, c1, c2, c3, hlc, hcm, htx, hK⟩ := hT.cells
  have hg : g < w.heap.size := World.block_lt_of_cell? w _ c0
  have hlen : t.kids.length ≤ 100000 := by have := nodesL_len t.kids; rw [Tr.nodes_eq] at hN; omega
  have HI := Lib.hid (And.intro hi (And.intro hz0 (And.intro hz1 hz2)))
  have HH := Lib.hid (And.intro ih (And.intro hN (And.intro hcm (And.intro hlc (And.intro htx (And.intro hK hT))))))
  clear hi hz0 hz1 hz2 hT hK ih hN hcm hlc htx
  go_enter Try.func57, Try.ntmps57
  go_wp2
  refine wp_world (fun W => W.heap[w.heap.size]? = some (.cells #[.int .i64 0, .int .i64 0, .string ⟨#[]⟩, .slice none 0 0] 24 (0, 0)) ∧ Chg [] w W ∧ W.heap.size = w.heap.size + 1) ⟨heap_new _ _ rfl, (by with_reducible repeat (first | exact Chg.refl _ _ | apply Chg.alloc | apply Chg.drew | apply Chg.drewN | (refine Chg.setCell ?_ _ _ (by simp)))), by simp⟩ ?_
  rintro W ⟨hb0, hC0, hZ0⟩
  have d0 := hC0.cell c0 (by simp)
  have d1 := hC0.cell c1 (by simp)
  have d2 := hC0.cell c2 (by simp)
  have H0 := Lib.hid (And.intro hb0 (And.intro hC0 hZ0))
  clear hb0 hC0 hZ0
  refine wp_region_M (fun W => W.cell? ⟨g, o, none⟩ = some (.int .i64 t.id) ∧ W.cell? ⟨g, o + 1, none⟩ = some (.int .i64 t.kind) ∧ W.cell? ⟨g, o + 2, none⟩ = some (.string t.text)) (fun k => [13, 14].contains k) (fun k => [14].contains k) (by kernel_rfl) ?_
  ((try dsimp only); (try simp only [Act.put, List.setIfInBounds_toArray, List.set_cons_zero, List.set_cons_succ]))
  refine M_pure (i := 0) (v := ?_) rfl (by kernel_rfl) (by kernel_rfl) (by kernel_rfl) (fun _ _ _ h => h) (by rfl) ?hy ?_; (case hy => (intro w; go_simp; with_reducible rfl)); ((try dsimp only); (try simp only [Act.put, List.setIfInBounds_toArray, List.set_cons_zero, List.set_cons_succ]))
  refine M_pure (i := 1) (v := ?_) rfl (by kernel_rfl) (by kernel_rfl) (by kernel_rfl) (fun _ _ _ h => h) (by rfl) ?hy ?_; (case hy => (intro w; go_simp; with_reducible rfl)); ((try dsimp only); (try simp only [Act.put, List.setIfInBounds_toArray, List.set_cons_zero, List.set_cons_succ]))
  refine M_pure (i := 2) (v := ?_) rfl (by kernel_rfl) (by kernel_rfl) (by kernel_rfl) (fun _ _ _ h => h) (by rfl) ?hy ?_; (case hy => (intro w; go_simp; with_reducible rfl)); ((try dsimp only); (try simp only [Act.put, List.setIfInBounds_toArray, List.set_cons_zero, List.set_cons_succ]))
  refine M_semi (i := 3) (v := ?_) rfl (by kernel_rfl) (by kernel_rfl) (by kernel_rfl) (by kernel_rfl) (fun _ _ _ h => h) (by rfl) ⟨d0, d1, d2⟩ ?hy ?_; (case hy => (intro w hS; go_simp; with_reducible rfl)); ((try dsimp only); (try simp only [Act.put, List.setIfInBounds_toArray, List.set_cons_zero, List.set_cons_succ]))
  refine M_pure (i := 4) (v := ?_) rfl (by kernel_rfl) (by kernel_rfl) (by kernel_rfl) (fun _ _ _ h => h) (by rfl) ?hy ?_; (case hy => (intro w; go_simp; with_reducible rfl)); ((try dsimp only); (try simp only [Act.put, List.setIfInBounds_toArray, List.set_cons_zero, List.set_cons_succ]))
  refine M_pure (i := 5) (v := ?_) rfl (by kernel_rfl) (by kernel_rfl) (by kernel_rfl) (fun _ _ _ h => h) (by rfl) ?hy ?_; (case hy => (intro w; go_simp; with_reducible rfl)); ((try dsimp only); (try simp only [Act.put, List.setIfInBounds_toArray, List.set_cons_zero, List.set_cons_succ]))
  refine M_pure (i := 6) (v := ?_) rfl (by kernel_rfl) (by kernel_rfl) (by kernel_rfl) (fun _ _ _ h => h) (by rfl) ?hy ?_; (case hy => (intro w; go_simp; with_reducible rfl)); ((try dsimp only); (try simp only [Act.put, List.setIfInBounds_toArray, List.set_cons_zero, List.set_cons_succ]))
  refine M_semi (i := 7) (v := ?_) rfl (by kernel_rfl) (by kernel_rfl) (by kernel_rfl) (by kernel_rfl) (fun _ _ _ h => h) (by rfl) ⟨d0, d1, d2⟩ ?hy ?_; (case hy => (intro w hS; go_simp; with_reducible rfl)); ((try dsimp only); (try simp only [Act.put, List.setIfInBounds_toArray, List.set_cons_zero, List.set_cons_succ]))
  refine M_pure (i := 8) (v := ?_) rfl (by kernel_rfl) (by kernel_rfl) (by kernel_rfl) (fun _ _ _ h => h) (by rfl) ?hy ?_; (case hy => (intro w; go_simp; with_reducible rfl)); ((try dsimp only); (try simp only [Act.put, List.setIfInBounds_toArray, List.set_cons_zero, List.set_cons_succ]))
  refine M_pure (i := 9) (v := ?_) rfl (by kernel_rfl) (by kernel_rfl) (by kernel_rfl) (fun _ _ _ h => h) (by rfl) ?hy ?_; (case hy => (intro w; go_simp; with_reducible rfl)); ((try dsimp only); (try simp only [Act.put, List.setIfInBounds_toArray, List.set_cons_zero, List.set_cons_succ]))
  refine M_pure (i := 10) (v := ?_) rfl (by kernel_rfl) (by kernel_rfl) (by kernel_rfl) (fun _ _ _ h => h) (by rfl) ?hy ?_; (case hy => (intro w; go_simp; with_reducible rfl)); ((try dsimp only); (try simp only [Act.put, List.setIfInBounds_toArray, List.set_cons_zero, List.set_cons_succ]))
  refine M_semi (i := 11) (v := ?_) rfl (by kernel_rfl) (by kernel_rfl) (by kernel_rfl) (by kernel_rfl) (fun _ _ _ h => h) (by rfl) ⟨d0, d1, d2⟩ ?hy ?_; (case hy => (intro w hS; go_simp; with_reducible rfl)); ((try dsimp only); (try simp only [Act.put, List.setIfInBounds_toArray, List.set_cons_zero, List.set_cons_succ]))
  refine M_pure (i := 12) (v := ?_) rfl (by kernel_rfl) (by kernel_rfl) (by kernel_rfl) (fun _ _ _ h => h) (by rfl) ?hy ?_; (case hy => (intro w; go_simp; with_reducible rfl)); ((try dsimp only); (try simp only [Act.put, List.setIfInBounds_toArray, List.set_cons_zero, List.set_cons_succ]))
  refine M_eff (i := 13) rfl (by kernel_rfl) (by rfl) ?_
  go_wp2_with fail
  have hA1 : Chg [] W (W.drew.alloc (.cells #[.int .i64 0, .int .i64 0, .string ⟨#[]⟩, .slice none 0 0] 24)) := (by with_reducible repeat (first | exact Chg.refl _ _ | apply Chg.alloc | apply Chg.drew | apply Chg.drewN | (refine Chg.setCell ?_ _ _ (by simp))))
  refine ⟨⟨hA1.cell d0 (by simp), hA1.cell d1 (by simp), hA1.cell d2 (by simp)⟩, ?_⟩
  ((try dsimp only); (try simp only [Act.put, List.setIfInBounds_toArray, List.set_cons_zero, List.set_cons_succ]))
  refine M_brk (i := 14) rfl (by kernel_rfl) (by rfl) (by rfl) ?_
  go_wp2_with fail
  refine M_done (by kernel_rfl) ?_ _
  have hz0 := H0.out.2.2
  have hA2 : Chg [] W (W.alloc (.cells #[.int .i64 t.id, .int .i64 t.kind, .string t.text, .slice none 0 0] 24)).drew := (by with_reducible repeat (first | exact Chg.refl _ _ | apply Chg.alloc | apply Chg.drew | apply Chg.drewN | (refine Chg.setCell ?_ _ _ (by simp))))
  have e3 := (H0.out.2.1.trans hA2).cell c3 (by simp)
  go_wp2_with fail
  refine wp_world (fun X => Own w X t (w.heap.size + 1) 0 (.slice none 0 0) ∧ X.heap[w.heap.size]? = some (.cells #[.int .i64 0, .int .i64 0, .string ⟨#[]⟩, .slice none 0 0] 24 (0, 0))) ⟨⟨heap_new _ _ hz0.symm, H0.out.2.1.trans hA2, RowV.nil _ _ _⟩, hA2.at H0.out.1 (by simp)⟩ ?_
  rintro X ⟨hOwn, hRes⟩
  rw [hz0]
  have HX := Lib.hid (And.intro hOwn hRes)
  clear hOwn hRes H0 hz0 c0 c1 c2 d0 d1 d2 hA1 hA2 e3
  go_loopw [23] (fun i wr => ∃ (k : Nat) (v : Value), k ≤ t.kids.length ∧ i = .int .i64 k ∧ Hid (Own w wr t (w.heap.size + 1) k v ∧ wr.heap[w.heap.size]? = some (.cells #[.int .i64 0, .int .i64 0, .string ⟨#[]⟩, .slice none 0 0] 24 (0, 0)))) (fun i _ => t.kids.length - (intOf i).toNat)
  case atStart => exact ⟨0, _, Nat.zero_le _, rfl, HX.out⟩
  case round =>
    obtain ⟨k, v, hk, rfl, H⟩ := hrel
    clear HX
    by_cases hlt : k < t.kids.length
    · have e3 := H.out.1.chg.cell c3 (by simp)
      obtain ⟨p0, p1, p2, p3⟩ := blk4 H.out.1.out
      have hkid := HH.out.2.2.2.2.2.1.at hlt
      obtain ⟨gk, ok, hA, _, hat⟩ := hkid
      subst hA
      have hkn : (t.kids[k]).nodes ≤ 100000 := by have := nodesL_mem (List.getElem_mem hlt); have h2 := HH.out.2.1; rw [Tr.nodes_eq] at h2; omega
      have hcall := HH.out.1 (t.kids[k]) (List.getElem_mem hlt) gk (ok + k * 4) wr.drew (hat.kept (H.out.1.chg.drew) (by simp) (by simp)) hkn
      have HC := Lib.hid hcall
      clear hcall hat hkn
      go_wp2_with fail
      refine wp_region_M (fun W => W.cell? ⟨w.heap.size + 1, 3, none⟩ = some v) (fun k => [8, 9, 10, 12].contains k) (fun k => [12].contains k) (by kernel_rfl) ?_
      ((try dsimp only); (try simp only [Act.put, List.setIfInBounds_toArray, List.set_cons_zero, List.set_cons_succ]))
      refine M_pure (i := 0) (v := ?_) rfl (by kernel_rfl) (by kernel_rfl) (by kernel_rfl) (fun _ _ _ h => h) (by rfl) ?hy ?_; (case hy => (intro w; go_simp; with_reducible rfl)); ((try dsimp only); (try simp only [Act.put, List.setIfInBounds_toArray, List.set_cons_zero, List.set_cons_succ]))
      refine M_semi (i := 1) (v := ?_) rfl (by kernel_rfl) (by kernel_rfl) (by kernel_rfl) (by kernel_rfl) (fun _ _ _ h => h) (by rfl) p3 ?hy ?_; (case hy => (intro w hS; go_simp; with_reducible rfl)); ((try dsimp only); (try simp only [Act.put, List.setIfInBounds_toArray, List.set_cons_zero, List.set_cons_succ]))
      refine M_pure (i := 2) (v := ?_) rfl (by kernel_rfl) (by kernel_rfl) (by kernel_rfl) (fun _ _ _ h => h) (by rfl) ?hy ?_; (case hy => (intro w; go_simp; with_reducible rfl)); ((try dsimp only); (try simp only [Act.put, List.setIfInBounds_toArray, List.set_cons_zero, List.set_cons_succ]))
      refine M_pure (i := 3) (v := ?_) rfl (by kernel_rfl) (by kernel_rfl) (by kernel_rfl) (fun _ _ _ h => h) (by rfl) ?hy ?_; (case hy => (intro w; go_simp; with_reducible rfl)); ((try dsimp only); (try simp only [Act.put, List.setIfInBounds_toArray, List.set_cons_zero, List.set_cons_succ]))
      refine M_pure (i := 4) (v := ?_) rfl (by kernel_rfl) (by kernel_rfl) (by kernel_rfl) (fun _ _ _ h => h) (by rfl) ?hy ?_; (case hy => (intro w; go_simp; with_reducible rfl)); ((try dsimp only); (try simp only [Act.put, List.setIfInBounds_toArray, List.set_cons_zero, List.set_cons_succ]))
      refine M_take (i := 5) (v := ?_) rfl (by kernel_rfl) (by kernel_rfl) (by kernel_rfl) (by kernel_rfl) (fun _ _ _ h => h) (by rfl) ?hy ?_; (case hy => (go_simp; with_reducible rfl)); ((try dsimp only); (try simp only [Act.put, List.setIfInBounds_toArray, List.set_cons_zero, List.set_cons_succ]))
      refine M_pure (i := 6) (v := ?_) rfl (by kernel_rfl) (by kernel_rfl) (by kernel_rfl) (fun _ _ _ h => h) (by rfl) ?hy ?_; (case hy => (intro w; go_simp; with_reducible rfl)); ((try dsimp only); (try simp only [Act.put, List.setIfInBounds_toArray, List.set_cons_zero, List.set_cons_succ]))
      refine M_pure (i := 7) (v := ?_) rfl (by kernel_rfl) (by kernel_rfl) (by kernel_rfl) (fun _ _ _ h => h) (by rfl) ?hy ?_; (case hy => (intro w; go_simp; with_reducible rfl)); ((try dsimp only); (try simp only [Act.put, List.setIfInBounds_toArray, List.set_cons_zero, List.set_cons_succ]))
      refine M_eff (i := 8) rfl (by kernel_rfl) (by rfl) ?_
      go_wp2_with (go_at_call 57; refine HC.out.mono ?_; rintro e X ⟨A1, c1, rfl, hV, hX⟩; have HX := Lib.hid (And.intro hV hX); have q3 := hX.cell p3 (by simp); clear hV hX)
      refine ⟨q3, ?_⟩
      ((try dsimp only); (try simp only [Act.put, List.setIfInBounds_toArray, List.set_cons_zero, List.set_cons_succ]))
      refine M_eff (i := 9) rfl (by kernel_rfl) (by rfl) ?_
      refine wpList_slice_one rfl 22 24 (.tmp 34) rfl Try.underlying22 ip _ HI.out.1 HI.out.2.1 (by rw [HI.out.2.2.1]; rfl) (by rw [HI.out.2.2.1]; omega) (by rw [HI.out.2.2.1]; omega) _ rfl (by rw [HI.out.2.2.1]; rfl) ?_
      have hwr := lt_of_block H.out.1.out
      have hXs : wr.heap.size ≤ X.heap.size := HX.out.2.size
      have hXa : Chg [] X (X.alloc (.cells (Value.agg #[.int .i64 (t.kids[k]).id, .int .i64 (t.kids[k]).kind, .string (t.kids[k]).text, .slice A1 (t.kids[k]).kids.length c1]).cells 24)) := (by with_reducible repeat (first | exact Chg.refl _ _ | apply Chg.alloc | apply Chg.drew | apply Chg.drewN | (refine Chg.setCell ?_ _ _ (by simp))))
      obtain ⟨xs, hown, hgrow⟩ := H.out.1.row.growBox ((Chg.drew (Chg.refl [] wr)).trans HX.out.2) HX.out.1 (fun x hx => by omega) (Value.agg #[.int .i64 (t.kids[k]).id, .int .i64 (t.kids[k]).kind, .string (t.kids[k]).text, .slice A1 (t.kids[k]).kids.length c1]).cells
      rw [show (t.kids.take k).length = k from by simp; omega] at hown hgrow
      have HG := Lib.hid hgrow
      clear hgrow
      refine wpList_nil ⟨hXa.cell q3 (by simp), ?_⟩
      ((try dsimp only); (try simp only [Act.put, List.setIfInBounds_toArray, List.set_cons_zero, List.set_cons_succ]))
      refine M_eff (i := 10) rfl (by kernel_rfl) (by rfl) ?_
      refine wpList_append_own_at _ rfl (.tmp 27) (.tmp 35) 22 rfl _ 24 ip _ 4 56 Try.underlying22 HI.out.1 HI.out.2.1 HI.out.2.2.1 HI.out.2.2.2 rfl (by omega) v _ _ rfl hown ⟨X.heap.size, 0, none⟩ 1 1 _ rfl rfl (fun j u hu => by rw [Addr.add_mid]; exact range_all (heap_new X _ rfl) j u hu) (HX.out.1.one) (by unfold maxLen; omega) (by omega) (by simp; omega) ?_
      intro v' X3 hown' hgr _ hat
      have hC3 : Chg (v.ownBlock.toList) wr X3 := ((Chg.drew (Chg.refl [] wr)).trans (HX.out.2.trans hXa)).mono (by simp) |>.grown hgr (by intro k hk; rw [hk]; simp)
      have hrow3 := HG.out X3 v' hown' hgr hat
      rw [← take_snoc' _ _ hlt] at hrow3
      have hnb : ∀ b, b ∈ v.ownBlock.toList → w.heap.size + 1 < b := fun b hb => by have := H.out.1.row.own b (by simpa using hb); omega
      have hnb0 : w.heap.size ∉ v.ownBlock.toList := fun hm => by have := hnb _ hm; omega
      have hnb1 : w.heap.size + 1 ∉ v.ownBlock.toList := fun hm => by have := hnb _ hm; omega
      have hout3 := hC3.at H.out.1.out hnb1
      have hres3 := hC3.at H.out.2 hnb0
      obtain ⟨A', c', rfl⟩ := own_slice hown'
      have s3 := (blk4 hout3).2.2.2
      have f3 := blkF hout3 3
      have hnb3 : ∀ b, (Value.slice A' (k + 1) c').ownBlock = some b → w.heap.size + 1 < b := fun b hb => by have := hrow3.own b hb; omega
      have H3 := Lib.hid (And.intro hrow3 (And.intro hout3 (And.intro hres3 (And.intro (H.out.1.chg.andThen hC3 (fun i hi => .inr (by have := hnb i hi; omega))) hnb3))))
      clear hrow3 hout3 hres3 hown' hgr hat hXa hnb hnb3 hC3 HG q3
      refine wpList_nil ⟨s3, ?_⟩
      ((try dsimp only); (try simp only [Act.put, List.setIfInBounds_toArray, List.set_cons_zero, List.set_cons_succ]))
      refine M_pure (i := 11) (v := ?_) rfl (by kernel_rfl) (by kernel_rfl) (by kernel_rfl) (fun _ _ _ h => h) (by rfl) ?hy ?_; (case hy => (intro w; go_simp; with_reducible rfl)); ((try dsimp only); (try simp only [Act.put, List.setIfInBounds_toArray, List.set_cons_zero, List.set_cons_succ]))
      refine M_brk (i := 12) rfl (by kernel_rfl) (by rfl) (by rfl) ?_
      go_wp2_with fail
      refine M_done (by kernel_rfl) ?_ _
      go_wp2_with fail
      go_roundw
      case rel =>
        have hCs : Chg [w.heap.size + 1] X3 (X3.setCell ⟨w.heap.size + 1, 3, none⟩ (.slice A' (k + 1) c')) := (Chg.refl _ _).setCell _ _ (by simp)
        refine ⟨k + 1, .slice A' (k + 1) c', by omega, by go_num, ⟨⟨heap_setCell_same _ _ 3 _ _ _ H3.out.2.1, H3.out.2.2.2.1.andThen hCs (fun i hi => .inr (by simp at hi; omega)), H3.out.1.kept hCs (fun b hb => by have := H3.out.2.2.2.2 b hb; simp; omega) (fun g hg => by simp; omega)⟩, hCs.at H3.out.2.2.1 (by simp)⟩⟩
      case measure => simp [intOf]; omega
    · obtain rfl : k = t.kids.length := by omega
      have hrow := H.out.1.row
      rw [List.take_of_length_le (Nat.le_refl _)] at hrow
      obtain ⟨A', c', rfl, hV⟩ := hrow.node t HH.out.2.2.2.2.1
      have HV := Lib.hid hV
      clear hrow hV
      obtain ⟨q0, q1, q2, q3⟩ := blk4 H.out.1.out
      obtain ⟨r0, r1, r2, r3⟩ := blk4 H.out.2
      have f0 := blkF H.out.2 0
      have f1 := blkF H.out.2 1
      have f2 := blkF H.out.2 2
      have f3 := blkF H.out.2 3
      go_wp2
      have hC0 := chg4 wr w.heap.size (.int .i64 t.id) (.int .i64 t.kind) (.string t.text) (.slice A' t.kids.length c')
      have hsz := H.out.1.chg.size
      have hF : ∀ g, w.heap.size + 1 < g ∨ (Value.slice A' t.kids.length c').ownBlock = some g → w.heap.size < g := fun g hg => by
        rcases hg with hg | hg
        · omega
        · have := H.out.1.row.own g hg; omega
      refine bodyPost_ret (v := .agg #[.int .i64 (Tr.id t), .int .i64 (Tr.kind t), .string (Tr.text t), .slice A' (Tr.kids t).length c']) (results_cell_row rfl _ _ w.heap.size _ _ _ _ rfl (set4 H.out.2) Try.underlying24 rfl szNode) rfl ⟨A', c', rfl, ?_, H.out.1.chg.andThen hC0 (by simp)⟩
      exact ((HV.out.bound.weak (F' := fun g => w.heap.size < g ∧ g < wr.heap.size) (fun g hg => ⟨hF g hg.1, hg.2⟩)).kept hC0 (fun g hg => by simp; omega)).weak (fun g hg => ⟨by omega, Nat.lt_of_lt_of_le hg.2 hC0.size⟩)
end Go.Proofs.Ytofjocjljbkjgaa

namespace Go.Proofs.Ytofjocjljbkjgaa
open Go.RowKit
theorem flatN {n : Nat} : ∀ css : List (List Value), (∀ cs ∈ css, cs.length = n) → css.flatten.length = css.length * n
  | [], _ => by simp
  | c :: css, h => by
    rw [List.flatten_cons, List.length_append, flatN css (fun x hx => h x (by simp [hx])), h c (by simp), List.length_cons, Nat.add_mul]; omega
theorem flatN_at {n : Nat} : ∀ (css : List (List Value)) (i : Nat) (cs : List Value) (j : Nat) (v : Value), (∀ cs ∈ css, cs.length = n) → css[i]? = some cs → cs[j]? = some v → css.flatten[i * n + j]? = some v
  | [], i, cs, j, v, _, h, _ => by simp at h
  | c :: css, 0, cs, j, v, h, h1, h2 => by
    simp at h1; subst h1
    rw [List.flatten_cons, Nat.zero_mul, Nat.zero_add, List.getElem?_append_left (List.getElem?_eq_some_iff.1 h2).1]; exact h2
  | c :: css, i + 1, cs, j, v, h, h1, h2 => by
    have h4 := h c (by simp)
    rw [List.flatten_cons, List.getElem?_append_right (by rw [h4, Nat.add_mul]; omega), h4, show (i + 1) * n + j - n = i * n + j from by rw [Nat.add_mul]; omega]
    exact flatN_at css i cs j v (fun x hx => h x (by simp [hx])) (by simpa using h1) h2
theorem flatN_set {n : Nat} : ∀ (css : List (List Value)) (i j : Nat) (u : Value) (hi : i < css.length), (∀ cs ∈ css, cs.length = n) → j < n → css.flatten.set (i * n + j) u = (css.set i ((css[i]).set j u)).flatten
  | c :: css, 0, j, u, _, h, hj => by
    have h4 := h c (by simp)
    simp only [Nat.zero_mul, Nat.zero_add, List.flatten_cons, List.getElem_cons_zero, List.set_cons_zero]
    rw [List.set_append_left _ _ (by omega)]
  | c :: css, i + 1, j, u, hi, h, hj => by
    have h4 := h c (by simp)
    simp only [List.flatten_cons, List.getElem_cons_succ, List.set_cons_succ]
    rw [List.set_append_right _ _ (by rw [h4, Nat.add_mul]; omega), h4, show (i + 1) * n + j - n = i * n + j from by rw [Nat.add_mul]; omega]
    rw [flatN_set css i j u (by simpa using hi) (fun x hx => h x (by simp [hx])) hj]
structure RowR (w : World) (n : Nat) (T : TypeId) (base : Nat) (v : Value) (css : List (List Value)) : Prop where
  row : w.ownsRow base T n v css.length css.flatten
  len : ∀ cs ∈ css, cs.length = n
namespace RowR
variable {w w' : World} {n base : Nat} {T : TypeId} {v v' : Value} {css : List (List Value)} {l : List Nat}
theorem nil (w : World) (n : Nat) (T : TypeId) (base : Nat) : RowR w n T base (.slice none 0 0) [] := ⟨World.ownsRow_nil _ _ _ _, by simp⟩
theorem own (h : RowR w n T base v css) : ∀ b, v.ownBlock = some b → base ≤ b ∧ b < w.heap.size := h.row.lt
theorem slice (h : RowR w n T base v css) : ∃ A c, v = .slice A css.length c := own_slice h.row
theorem kept (h : RowR w n T base v css) (hc : Chg l w w') (hl : ∀ b, v.ownBlock = some b → b ∉ l) : RowR w' n T base v css := ⟨own_kept h.row hc hl, h.len⟩
theorem weak {base' : Nat} (h : RowR w n T base v css) (hb : base' ≤ base) : RowR w n T base' v css := by
  refine ⟨⟨h.row.1, ?_⟩, h.len⟩
  rcases h.row.2 with h0 | ⟨g, c, C, e1, e2, r⟩
  · exact .inl h0
  · exact .inr ⟨g, c, C, e1, by omega, r⟩
theorem push {cs : List Value} (h : RowR w n T base v css) (ho : w'.ownsRow base T n v' (css.length + 1) (css.flatten ++ cs)) (hl : cs.length = n) : RowR w' n T base v' (css ++ [cs]) :=
  ⟨by simpa using ho, fun x hx => by rcases List.mem_append.1 hx with hx | hx; exact h.len x hx; simp at hx; rw [hx]; exact hl⟩
theorem pushN {ds : List (List Value)} (h : RowR w n T base v css) (ho : w'.ownsRow base T n v' (css.length + ds.length) (css.flatten ++ ds.flatten)) (hl : ∀ cs ∈ ds, cs.length = n) : RowR w' n T base v' (css ++ ds) :=
  ⟨by simpa using ho, fun x hx => by rcases List.mem_append.1 hx with hx | hx; exact h.len x hx; exact hl x hx⟩
theorem block (h : RowR w n T base v css) (hp : 0 < css.length) : ∃ g c C, v = .slice (some ⟨g, 0, none⟩) css.length c ∧ base ≤ g ∧ w.heap[g]? = some (.cells C T (0, 0)) ∧ css.length ≤ c ∧ c ≤ maxLen ∧ C.size = c * n ∧ C.toList.take (css.length * n) = css.flatten ∧ ∀ i (hi : i < css.length), w.rangeAt g (i * n) (css[i]) := by
  rcases h.row.2 with ⟨rfl, h0⟩ | ⟨g, cap, cur, rfl, hb, hg, hn1, hn2, hsz, htk⟩
  · omega
  · refine ⟨g, cap, cur, rfl, hb, hg, hn1, hn2, hsz, htk, fun i hi j u hu => ?_⟩
    have := flatN_at css i _ j u h.len (List.getElem?_eq_getElem hi) hu
    rw [← htk, List.getElem?_take] at this
    split at this
    · simp only [World.cell?, hg]; simpa using this
    · cases this
theorem setCell {g c i j : Nat} {C : Array Value} {u : Value} (h : RowR w n T base (.slice (some ⟨g, 0, none⟩) css.length c) css) (hi : i < css.length) (hj : j < n) : RowR (w.setCell ⟨g, i * n + j, none⟩ u) n T base (.slice (some ⟨g, 0, none⟩) css.length c) (css.set i ((css[i]).set j u)) := by
  obtain ⟨g', c', C, e, hb, hg, h1, h2, h3, h4, _⟩ := h.block (by omega)
  injection e with e1 _ e3
  injection e1 with e1
  injection e1 with e1 _ _
  subst e1 e3
  have hlen : ∀ cs ∈ css.set i ((css[i]).set j u), cs.length = n := fun cs hcs => by
    rcases List.mem_or_eq_of_mem_set hcs with hm | rfl
    · exact h.len cs hm
    · simpa using h.len _ (List.getElem_mem hi)
  refine ⟨⟨by rw [flatN _ hlen], .inr ⟨g, c, C.setIfInBounds (i * n + j) u, by simp, hb, heap_setCell_same _ _ _ _ _ _ hg, by simpa using h1, h2, by simpa using h3, ?_⟩⟩, hlen⟩
  rw [Array.toList_setIfInBounds, List.take_set, List.length_set, h4, flatN_set css i j u hi h.len hj]
end RowR
end Go.Proofs.Ytofjocjljbkjgaa
namespace Go.Proofs.Ytofjocjljbkjgaa
open Go.RowKit
theorem nodesL_take (ks : List Tr) (k : Nat) (h : k < ks.length) : nodesL (ks.take (k + 1)) = nodesL (ks.take k) + (ks[k]).nodes := by
  rw [take_snoc' ks k h, nodesL_append]; simp [nodesL]
theorem nodesL_take_le (ks : List Tr) (k : Nat) : nodesL (ks.take k) ≤ nodesL ks := by
  have := nodesL_append (ks.take k) (ks.drop k)
  rw [List.take_append_drop] at this; omega
def CountPost (t : Tr) (m : Nat) (n : Int) (w : World) (e : Ending) (w' : World) : Prop := ∃ n' : Int, e = .returned (.bool (decide (n + t.nodes ≤ 2000))) ∧ w'.heap[m]? = some (.cells #[.int .i64 n'] 3 (0, 0)) ∧ (n + t.nodes ≤ 2000 → n' = n + t.nodes) ∧ Chg [m] w w'
set_option maxHeartbeats 4000000 in
set_option maxRecDepth 100000 in
theorem count_any (m : Nat) : ∀ (t : Tr) (g o : Nat) (n : Int) (w : World), TrAt (fun b => b ≠ m) w g o t → g ≠ m → 0 ≤ n → n ≤ 2000 → w.heap[m]? = some (.cells #[.int .i64 n] 3 (0, 0)) → Calls Try.prog 106 #[.pointer (some ⟨g, o, none⟩), .pointer (some ⟨m, 0, none⟩)] w (CountPost t m n w) := by
  intro t
  induction t using Tr.ind with
  | h t ih =>
  intro g o n w hT hgm hn0 hn1 hm
  obtain ⟨A, c, c0, c1, c2, c3, hlc, hcm, htx, hK⟩ := hT.cells
  have m0 : w.cell? ⟨m, 0, none⟩ = some (.int .i64 n) := by simp [World.cell?, hm]
  have mf := blkF hm 0
  have htn := t.nodes_eq
  have hpos : 0 ≤ nodesL t.kids := Nat.zero_le _
  have hC1 : Chg [m] w (w.setCell ⟨m, 0, none⟩ (.int .i64 (n + 1))) := (Chg.refl _ _).setCell _ _ (by simp)
  have hm1 : (w.setCell ⟨m, 0, none⟩ (.int .i64 (n + 1))).heap[m]? = some (.cells #[.int .i64 (n + 1)] 3 (0, 0)) := heap_setCell_same _ _ 0 _ _ _ hm
  have d3 := hC1.cell c3 (by simpa using hgm)
  have HH := Lib.hid (And.intro ih (And.intro hK (And.intro hcm (And.intro hlc (And.intro hC1 (And.intro hm1 htn))))))
  clear ih hT hK htx c0 c1 c2 hC1 hm1 htn hm hpos
  by_cases hbig : 2000 < n + 1
  · go_enter Try.func106, Try.ntmps106
    go_wp2
    go_ret
    have htn := HH.out.2.2.2.2.2.2
    exact ⟨n + 1, by rw [decide_eq_false (by omega)]; rfl, HH.out.2.2.2.2.2.1, fun h => by omega, HH.out.2.2.2.2.1⟩
  · have hb : decide (2000 < n + 1) = false := by simpa using hbig
    go_enter Try.func106, Try.ntmps106
    go_wp2_with fail
    go_loopw [20] (fun i wr => ∃ k : Nat, k ≤ t.kids.length ∧ i = .int .i64 k ∧ Hid (wr.heap[m]? = some (.cells #[.int .i64 (n + 1 + nodesL (t.kids.take k))] 3 (0, 0)) ∧ n + 1 + nodesL (t.kids.take k) ≤ 2000 ∧ Chg [m] w wr)) (fun i _ => t.kids.length - (intOf i).toNat)
    case atStart => exact ⟨0, Nat.zero_le _, rfl, by simpa [nodesL] using HH.out.2.2.2.2.2.1, by simp [nodesL]; omega, HH.out.2.2.2.2.1⟩
    case round =>
      obtain ⟨k, hk, rfl, H⟩ := hrel
      have htn := HH.out.2.2.2.2.2.2
      by_cases hlt : k < t.kids.length
      · have e3 := H.out.2.2.cell c3 (by simpa using hgm)
        obtain ⟨gk, ok, hA, hok, hat⟩ := HH.out.2.1.at hlt
        subst hA
        have hcall := HH.out.1 (t.kids[k]) (List.getElem_mem hlt) gk (ok + k * 4) (n + 1 + nodesL (t.kids.take k)) wr (hat.kept H.out.2.2 (by simpa using hok) (by simp)) hok (by omega) H.out.2.1 H.out.1
        have hnk := nodesL_take t.kids k hlt
        have hnl := nodesL_take_le t.kids (k + 1)
        have HC := Lib.hid (And.intro hcall (And.intro hnk (And.intro htn hnl)))
        clear hcall hat htn hnk hnl
        by_cases hfit : n + 1 + nodesL (t.kids.take k) + (t.kids[k]).nodes ≤ 2000
        · have hfb : decide (n + 1 + nodesL (t.kids.take k) + (t.kids[k]).nodes ≤ 2000) = true := by simpa using hfit
          go_wp2_with (go_at_call 106; refine HC.out.1.mono ?_; rintro e X ⟨n', rfl, h1, h2, h3⟩; have h2 := h2 hfit; have HX := Lib.hid (And.intro h1 (And.intro h2 h3)); clear h1 h2 h3)
          go_roundw
          case rel => exact ⟨k + 1, by omega, by go_num, by rw [HX.out.1, HX.out.2.1, HC.out.2.1, Int.natCast_add, ← Int.add_assoc], by rw [HC.out.2.1]; omega, H.out.2.2.trans HX.out.2.2⟩
          case measure => simp [intOf]; omega
        · have hfb : decide (n + 1 + nodesL (t.kids.take k) + (t.kids[k]).nodes ≤ 2000) = false := by simpa using hfit
          go_wp2_with (go_at_call 106; refine HC.out.1.mono ?_; rintro e X ⟨n', rfl, h1, h2, h3⟩; have HX := Lib.hid (And.intro h1 h3); clear h1 h2 h3)
          go_ret
          have h1 := HC.out.2.1
          have h2 := HC.out.2.2.1
          have h3 := HC.out.2.2.2
          exact ⟨n', by rw [decide_eq_false (by omega)]; rfl, HX.out.1, fun h => by omega, H.out.2.2.trans HX.out.2⟩
      · obtain rfl : k = t.kids.length := by omega
        go_wp2
        go_ret
        have h1 := H.out.1
        have h2 := H.out.2.1
        rw [List.take_of_length_le (Nat.le_refl _)] at h1 h2
        exact ⟨_, by rw [decide_eq_true (by omega)]; rfl, h1, fun h => by omega, H.out.2.2⟩
theorem small_any (t : Tr) (g o : Nat) (w : World) (hT : TrAt (fun b => b < w.heap.size) w g o t) (hg : g < w.heap.size) : Calls Try.prog 56 #[.pointer (some ⟨g, o, none⟩)] w fun e w' => e = .returned (.bool (decide (t.nodes ≤ 2000))) ∧ Chg [] w w' := by
  have hA : Chg [] w (w.alloc (.cells #[.int .i64 0] 3)) := (by with_reducible repeat (first | exact Chg.refl _ _ | apply Chg.alloc | apply Chg.drew | apply Chg.drewN | (refine Chg.setCell ?_ _ _ (by simp))))
  have hc := count_any w.heap.size t g o 0 (w.alloc (.cells #[.int .i64 0] 3)) ((hT.kept hA (by simp) (by simp)).weak (fun b hb => by omega)) (by omega) (by omega) (by omega) (heap_new _ _ rfl)
  have HC := Lib.hid (And.intro hc hA)
  clear hc hA hT
  go_enter Try.func56, Try.ntmps56
  go_wp2_with (go_at_call 106; refine HC.out.1.mono ?_; rintro e X ⟨n', rfl, h1, h2, h3⟩; have HX := Lib.hid h3; clear h1 h2 h3)
  go_ret
  exact ⟨by simp; omega, HC.out.2.andThen HX.out (by simp)⟩
mutual
def Tr.path (id : Int) : Tr → Option (List Nat)
  | ⟨i, _, _, ks⟩ => if i = id then some [] else pathL id ks 0
def pathL (id : Int) : List Tr → Nat → Option (List Nat)
  | [], _ => none
  | k :: ks, n => match k.path id with
    | some p => some (n :: p)
    | none => pathL id ks (n + 1)
end
theorem Tr.path_eq (id : Int) (t : Tr) : t.path id = if t.id = id then some [] else pathL id t.kids 0 := by cases t; rfl
theorem pathL_step (id : Int) : ∀ (ks : List Tr) (i n : Nat) (h : i < ks.length), (∀ j (hj : j < i), (ks[j]'(by omega)).path id = none) → pathL id ks n = match (ks[i]).path id with
    | some p => some ((n + i) :: p)
    | none => pathL id (ks.drop (i + 1)) (n + i + 1)
  | [], i, n, h, _ => by simp at h
  | k :: ks, 0, n, h, _ => by simp [pathL]
  | k :: ks, i + 1, n, h, hb => by
    have h0 := hb 0 (by omega)
    simp at h0
    have ih := pathL_step id ks i (n + 1) (by simpa using h) (fun j hj => by have := hb (j + 1) (by omega); simpa using this)
    rw [pathL, h0]
    simp only [List.getElem_cons_succ, List.drop_succ_cons]
    rw [ih]
    rw [show n + 1 + i = n + (i + 1) from by omega]
theorem pathL_none (id : Int) : ∀ (ks : List Tr) (n : Nat), (∀ j (hj : j < ks.length), (ks[j]).path id = none) → pathL id ks n = none
  | [], _, _ => rfl
  | k :: ks, n, h => by
    have h0 := h 0 (by simp)
    simp at h0
    rw [pathL, h0]
    exact pathL_none id ks (n + 1) (fun j hj => by have := h (j + 1) (by simpa using hj); simpa using this)
inductive NodeAt (w : World) : Nat → Nat → List Nat → Nat → Nat → Prop
  | here (g o : Nat) : NodeAt w g o [] g o
  | kid (g o b ob n c i : Nat) (p : List Nat) (g' o' : Nat) (h : w.cell? ⟨g, o + 3, none⟩ = some (.slice (some ⟨b, ob, none⟩) n c)) (hi : i < n) (hr : NodeAt w b (ob + i * 4) p g' o') : NodeAt w g o (i :: p) g' o'
def FindPost (t : Tr) (id : Int) (g o : Nat) (w : World) (e : Ending) (w' : World) : Prop :=
  w = w' ∧ ((t.path id = none ∧ e = .returned (.pointer none)) ∨ ∃ p g' o', t.path id = some p ∧ NodeAt w g o p g' o' ∧ e = .returned (.pointer (some ⟨g', o', none⟩)))
set_option maxHeartbeats 4000000 in
set_option maxRecDepth 100000 in
theorem find_any (id : Int) : ∀ (t : Tr) (g o : Nat) (w : World), TrAt (fun _ => True) w g o t → Calls Try.prog 102 #[.pointer (some ⟨g, o, none⟩), .int .i64 id] w (FindPost t id g o w) := by
  intro t
  induction t using Tr.ind with
  | h t ih =>
  intro g o w hT
  obtain ⟨A, c, c0, c1, c2, c3, hlc, hcm, htx, hK⟩ := hT.cells
  have HH := Lib.hid (And.intro ih (And.intro hK (And.intro hcm (And.intro hlc (Tr.path_eq id t)))))
  clear ih hT hK htx c1 c2
  by_cases hid : t.id = id
  · have hb : (t.id == id) = true := by simpa using hid
    have hp := HH.out.2.2.2.2
    rw [if_pos hid] at hp
    have HP := Lib.hid hp
    clear hid hp
    go_enter Try.func102, Try.ntmps102
    go_wp2
    go_ret
    exact ⟨rfl, .inr ⟨[], g, o, HP.out, .here g o, rfl⟩⟩
  · have hb : (t.id == id) = false := by simpa using hid
    have hp := HH.out.2.2.2.2
    rw [if_neg hid] at hp
    have HP := Lib.hid hp
    clear hid hp
    go_enter Try.func102, Try.ntmps102
    go_wp2_with fail
    go_loop [19] (fun i => ∃ k : Nat, k ≤ t.kids.length ∧ i = .int .i64 k ∧ Hid (∀ j (hj : j < k) (hl : j < t.kids.length), (t.kids[j]).path id = none)) (fun i => t.kids.length - (intOf i).toNat)
    case atStart => exact ⟨0, Nat.zero_le _, rfl, fun j hj => by omega⟩
    case round =>
      obtain ⟨k, hk, rfl, H⟩ := hrel
      by_cases hlt : k < t.kids.length
      · obtain ⟨gk, ok, hA, _, hat⟩ := HH.out.2.1.at hlt
        subst hA
        have hcall := HH.out.1 (t.kids[k]) (List.getElem_mem hlt) gk (ok + k * 4) w hat
        have HC := Lib.hid hcall
        clear hcall hat
        go_wp2_with fail
        refine HC.out.mono ?_
        rintro e X ⟨rfl, hres⟩
        rcases hres with ⟨hn, rfl⟩ | ⟨p, g', o', hp, hnode, rfl⟩
        · have HN := Lib.hid hn
          clear hn
          go_wp2
          go_round
          case rel => exact ⟨k + 1, by omega, by go_num, fun j hj hl => by
            rcases Nat.lt_or_ge j k with h | h
            · exact H.out j h hl
            · obtain rfl : j = k := by omega
              exact HN.out⟩
          case measure => simp [intOf]; omega
        · have HN := Lib.hid (And.intro hp hnode)
          clear hp hnode
          go_wp2
          go_ret
          refine ⟨rfl, .inr ⟨k :: p, g', o', ?_, .kid g o gk ok _ _ k p g' o' c3 hlt HN.out.2, rfl⟩⟩
          rw [HP.out, pathL_step id t.kids k 0 hlt (fun j hj => H.out j hj (by omega)), HN.out.1]
          simp
      · go_wp2
        go_ret
        exact ⟨rfl, .inl ⟨by rw [HP.out]; exact pathL_none id _ _ (fun j hj => H.out j (by omega) hj), rfl⟩⟩
end Go.Proofs.Ytofjocjljbkjgaa
namespace Go.Proofs.Ytofjocjljbkjgaa
open Go.RowKit
structure KidsV (w : World) (A : Option Addr) (c : Nat) (ks : List Tr) (F : Nat → Prop) : Prop where
  le : ks.length ≤ c
  max : c ≤ 9223372036854775807
  nil : A = none → c = 0
  parts : ∃ (css : List (List Value)) (fs : Nat → Nat → Prop), css.length = ks.length ∧ (∀ (i : Nat) k cs, ks[i]? = some k → css[i]? = some cs → TrV w k cs (fs i)) ∧ (∀ i x, i < ks.length → fs i x → F x ∧ ∀ b, A = some ⟨b, 0, none⟩ → x ≠ b)
    ∧ (∀ i j x, i < ks.length → j < ks.length → i ≠ j → fs i x → ¬ fs j x) ∧ (0 < ks.length → ∃ b C, A = some ⟨b, 0, none⟩ ∧ w.heap[b]? = some (.cells C 24 (0, 0)) ∧ F b ∧ ∀ (i : Nat) cs, css[i]? = some cs → w.rangeAt b (i * 4) cs)
theorem TrV.kidsV {w : World} {t : Tr} {cs : List Value} {F : Nat → Prop} (h : TrV w t cs F) : ∃ A c, cs = [.int .i64 (Tr.id t), .int .i64 (Tr.kind t), .string (Tr.text t), .slice A (Tr.kids t).length c] ∧ t.text.size ≤ 9223372036854775807 ∧ KidsV w A c t.kids F := by
  cases h with
  | leaf _ A c _ h0 hA hc ht =>
    refine ⟨A, c, by rw [h0]; rfl, ht, by rw [h0]; exact Nat.zero_le _, hc, hA, [], fun _ _ => False, by rw [h0]; rfl, fun i k cs a => by rw [h0] at a; simp at a, fun i x hi => by rw [h0] at hi; simp at hi, fun i j x hi => by rw [h0] at hi; simp at hi, fun h => by rw [h0] at h; simp at h⟩
  | node _ b c C cs fs _ hp hl hc ht hb hFb hF hd hr hk =>
    refine ⟨_, c, rfl, ht, hl, hc, (fun h => by cases h), (List.range t.kids.length).map cs, fs, by simp, fun i k cs' a e => ?_, fun i x hi hx => ⟨(hF i x hi hx).1, fun b' e => by cases e; exact (hF i x hi hx).2⟩, hd, fun _ => ⟨b, C, rfl, hb, hFb, fun i cs' e => ?_⟩⟩
    · have hi := (List.getElem?_eq_some_iff.1 a).1
      simp [hi] at e; subst e; exact hk i k a
    · have hi : i < t.kids.length := by have := (List.getElem?_eq_some_iff.1 e).1; simpa using this
      simp [hi] at e; subst e; exact hr i hi
theorem KidsV.close {w : World} {A : Option Addr} {c : Nat} {F : Nat → Prop} (t : Tr) (h : KidsV w A c t.kids F) (ht : t.text.size ≤ 9223372036854775807) : TrV w t [.int .i64 (Tr.id t), .int .i64 (Tr.kind t), .string (Tr.text t), .slice A (Tr.kids t).length c] F := by
  obtain ⟨css, fs, hl, hk, hF, hd, hp⟩ := h.parts
  by_cases h0 : t.kids.length = 0
  · rw [h0]; exact .leaf t A c F (List.length_eq_zero_iff.1 h0) h.nil h.max ht
  · obtain ⟨b, C, rfl, hb, hFb, hr⟩ := hp (by omega)
    have hcs : ∀ i, i < t.kids.length → css[i]? = some (css.getD i []) := fun i hi => by simp [List.getD, List.getElem?_eq_getElem (show i < css.length by omega)]
    exact .node t b c C (fun i => css.getD i []) fs F (by omega) h.le h.max ht hb hFb (fun i x hi hx => ⟨(hF i x hi hx).1, (hF i x hi hx).2 b rfl⟩) hd (fun i hi => hr i _ (hcs i hi)) (fun i k a => hk i k _ a (hcs i (List.getElem?_eq_some_iff.1 a).1))
theorem range_append {w : World} {b o : Nat} {xs ys : List Value} (h1 : w.rangeAt b o xs) (h2 : w.rangeAt b (o + xs.length) ys) : w.rangeAt b o (xs ++ ys) := by
  intro j v hv
  rcases Nat.lt_or_ge j xs.length with h | h
  · rw [List.getElem?_append_left h] at hv; exact h1 j v hv
  · rw [List.getElem?_append_right h] at hv
    have := h2 (j - xs.length) v hv
    rwa [show o + xs.length + (j - xs.length) = o + j from by omega] at this
theorem range_flat {w : World} {b : Nat} : ∀ (css : List (List Value)) (o : Nat), (∀ cs ∈ css, cs.length = 4) → (∀ (i : Nat) cs, css[i]? = some cs → w.rangeAt b (o + i * 4) cs) → w.rangeAt b o css.flatten
  | [], o, _, _ => fun j v hv => by simp at hv
  | c :: css, o, h4, h => by
    rw [List.flatten_cons]
    refine range_append (by have := h 0 c rfl; simpa using this) ?_
    rw [h4 c (by simp)]
    exact range_flat css (o + 4) (fun x hx => h4 x (by simp [hx])) (fun i cs hi => by have := h (i + 1) cs (by simpa using hi); rwa [show o + (i + 1) * 4 = o + 4 + i * 4 from by omega] at this)
theorem flat_one {w : World} {css : List (List Value)} (h : ∀ cs ∈ css, ∀ u ∈ cs, u.oneCell' = true) : ∀ u ∈ css.flatten, u.oneCell' = true := by
  intro u hu
  obtain ⟨cs, h1, h2⟩ := List.mem_flatten.1 hu
  exact h cs h1 u h2
structure Fr (g o : Nat) (F : Nat → Prop) (w w' : World) : Prop where
  os : w'.os = w.os
  tape : w'.tape = w.tape
  output : w'.output = w.output
  size : w.heap.size ≤ w'.heap.size
  block : ∀ b, b < w.heap.size → b ≠ g → ¬ F b → w'.heap[b]? = w.heap[b]?
  cell : ∀ j, j < o ∨ o + 4 ≤ j → w'.cell? ⟨g, j, none⟩ = w.cell? ⟨g, j, none⟩
  shape : ∀ C ty, w.heap[g]? = some (.cells C ty (0, 0)) → ∃ C', w'.heap[g]? = some (.cells C' ty (0, 0))
theorem Fr.of_chg {g o : Nat} {F : Nat → Prop} {w w' : World} (h : Chg [] w w') (hg : g < w.heap.size) : Fr g o F w w' :=
  ⟨h.os, h.tape, h.output, h.size, fun b hb _ _ => h.block b hb (by simp), fun j _ => World.cell?_of_block (a := ⟨g, j, none⟩) (h.block g hg (by simp)), fun C ty hb => ⟨C, h.at hb (by simp)⟩⟩
theorem Fr.trans {g o : Nat} {F : Nat → Prop} {a b c : World} (h : Fr g o F a b) (k : Fr g o F b c) : Fr g o F a c :=
  ⟨k.os.trans h.os, k.tape.trans h.tape, k.output.trans h.output, Nat.le_trans h.size k.size, fun i hi h1 h2 => (k.block i (Nat.lt_of_lt_of_le hi h.size) h1 h2).trans (h.block i hi h1 h2), fun j hj => (k.cell j hj).trans (h.cell j hj), fun C ty hC => by obtain ⟨C', h1⟩ := h.shape C ty hC; exact k.shape C' ty h1⟩
theorem Fr.set {g o j : Nat} {F : Nat → Prop} {w : World} (v : Value) (hj : o ≤ j ∧ j < o + 4) : Fr g o F w (w.setCell ⟨g, j, none⟩ v) :=
  ⟨rfl, rfl, rfl, by simp [World.setCell], fun b _ hb _ => Below.heap_setCell _ _ _ _ hb, fun i hi => by
    refine World.cell?_setCell_other _ _ _ _ ?_
    intro e; simp at e <;> omega, fun C ty h => ⟨_, heap_setCell_same _ _ _ _ _ _ h⟩⟩
theorem Fr.chg {g o : Nat} {F : Nat → Prop} {w0 w w' : World} {l : List Nat} (h : Chg l w0 w) (k : Fr g o F w w') (hg : w0.heap.size ≤ g) (hF : ∀ b, F b → w0.heap.size ≤ b) : Chg l w0 w' :=
  ⟨k.os.trans h.os, k.tape.trans h.tape, k.output.trans h.output, Nat.le_trans h.size k.size, fun b hb hl => (k.block b (Nat.lt_of_lt_of_le hb h.size) (by omega) (fun hf => by have := hF b hf; omega)).trans (h.block b hb hl)⟩
theorem KidsV.at {w : World} {A : Option Addr} {c : Nat} {ks : List Tr} {F : Nat → Prop} (h : KidsV w A c ks F) {i : Nat} (hi : i < ks.length) :
    ∃ (b : Nat) (C : Array Value) (ci : List Value) (Fi : Nat → Prop), A = some ⟨b, 0, none⟩ ∧ w.heap[b]? = some (.cells C 24 (0, 0)) ∧ F b ∧ w.rangeAt b (i * 4) ci ∧ TrV w (ks[i]) ci Fi ∧ (∀ x, Fi x → F x ∧ x ≠ b)
      ∧ (i + 1 = ks.length → KidsV w A i (ks.take i) (fun x => F x ∧ ¬ Fi x))
      ∧ (∃ olds news : List Value, olds.length = i * 4 ∧ news.length = (ks.length - (i + 1)) * 4 ∧ w.rangeAt b 0 olds ∧ w.rangeAt b ((i + 1) * 4) news ∧ (∀ u ∈ olds, u.oneCell' = true) ∧ (∀ u ∈ news, u.oneCell' = true) ∧
          ∀ (w' : World) (v' : Value) (base : Nat), Chg [] w w' → w.heap.size ≤ base → w'.ownsRow base 24 4 v' (ks.length - 1) (olds ++ news) → RowV w' base v' (ks.eraseIdx i) (fun x => F x ∧ ¬ Fi x ∧ x < w.heap.size))
      ∧ (∀ (w' : World) (k' : Tr) (c' : List Value) (F' : Nat → Prop), Fr b (i * 4) Fi w w' → w'.rangeAt b (i * 4) c' → TrV w' k' c' F' → (∀ x, F' x → (Fi x ∨ ¬ F x) ∧ x ≠ b) → KidsV w' A c (ks.set i k') (fun x => (F x ∧ ¬ Fi x) ∨ F' x)) := by
  obtain ⟨css, fs, hl, hk, hF, hd, hp⟩ := h.parts
  obtain ⟨b, C, rfl, hb, hFb, hr⟩ := hp (by omega)
  have h4 := all4 hl (fun i k cs a b => (hk i k cs a b).four)
  have h1c : ∀ cs ∈ css, ∀ u ∈ cs, u.oneCell' = true := by
    intro cs hcs
    obtain ⟨j, hj, rfl⟩ := List.getElem_of_mem hcs
    exact (hk j (ks[j]'(by omega)) _ (List.getElem?_eq_getElem _) (List.getElem?_eq_getElem _)).one
  have hci : css[i]? = some (css[i]'(by omega)) := List.getElem?_eq_getElem _
  refine ⟨b, C, css[i]'(by omega), fs i, rfl, hb, hFb, hr i _ hci, hk i _ _ (List.getElem?_eq_getElem hi) hci, fun x hx => ⟨(hF i x hi hx).1, (hF i x hi hx).2 b rfl⟩, fun he => ?_, ⟨(css.take i).flatten, (css.drop (i + 1)).flatten, ?_, ?_, ?_, ?_, ?_, ?_, fun w' v' base hC hbase ho => ?_⟩, fun w' k' c' F' hfr hrc hT hF' => ?_⟩
  · refine ⟨by simp; omega, by have := h.max; have := h.le; omega, (fun e => by cases e), css.take i, fs, by simp; omega, fun j k cs a e => ?_, fun j x hj hx => ?_, fun j j' x hj hj' => hd j j' x (by simp at hj; omega) (by simp at hj'; omega), fun hp => ⟨b, C, rfl, hb, ⟨hFb, fun hf => (hF i b hi hf).2 b rfl rfl⟩, fun j cs e => ?_⟩⟩
    · rw [List.getElem?_take] at a e
      split at a
      · rename_i hji; rw [if_pos hji] at e; exact hk j k cs a e
      · cases a
    · simp at hj
      exact ⟨⟨(hF j x (by omega) hx).1, hd j i x (by omega) hi (by omega) hx⟩, (hF j x (by omega) hx).2⟩
    · rw [List.getElem?_take] at e
      split at e
      · exact hr j cs e
      · cases e
  · rw [flat_len4 _ (fun x hx => h4 x (List.mem_of_mem_take hx))]; simp; omega
  · rw [flat_len4 _ (fun x hx => h4 x (List.mem_of_mem_drop hx))]; simp [hl]
  · refine range_flat _ 0 (fun x hx => h4 x (List.mem_of_mem_take hx)) (fun j cs e => ?_)
    rw [List.getElem?_take] at e
    split at e
    · have := hr j cs e; simpa using this
    · cases e
  · refine range_flat _ _ (fun x hx => h4 x (List.mem_of_mem_drop hx)) (fun j cs e => ?_)
    rw [List.getElem?_drop] at e
    have := hr _ cs e
    rwa [show (i + 1 + j) * 4 = (i + 1) * 4 + j * 4 from by omega] at this
  · exact flat_one (w := w) (fun cs hcs => h1c cs (List.mem_of_mem_take hcs))
  · exact flat_one (w := w) (fun cs hcs => h1c cs (List.mem_of_mem_drop hcs))
  · have hlen : (ks.eraseIdx i).length = ks.length - 1 := List.length_eraseIdx_of_lt hi
    refine ⟨css.eraseIdx i, fun j x => (if j < i then fs j x else fs (j + 1) x) ∧ x < w.heap.size, ?_, by rw [List.length_eraseIdx_of_lt (by omega), hlen, hl], fun j k cs a e => ?_, fun j x hj hx => ?_, fun j j' x hj hj' hne h1 h2 => ?_⟩
    · rw [hlen, List.eraseIdx_eq_take_drop_succ, List.flatten_append]; exact ho
    · have hb' : TrV w k cs (if j < i then fs j else fs (j + 1)) := by
        rw [List.getElem?_eraseIdx] at a e
        split at a
        · rename_i hji; rw [if_pos hji] at e ⊢; exact hk j k cs a e
        · rename_i hji; rw [if_neg hji] at e ⊢; exact hk (j + 1) k cs a e
      have := hb'.bound.kept hC (by simp)
      refine this.weak (fun x hx => ?_)
      by_cases hji : j < i
      · simp only [hji, if_true] at hx ⊢; exact hx
      · simp only [hji, if_false] at hx ⊢; exact hx
    · obtain ⟨hx1, hx2⟩ := hx
      have hn : v'.ownBlock ≠ some x := fun e => by have := ho.lt x e; omega
      split at hx1
      · exact ⟨⟨(hF j x (by omega) hx1).1, hd j i x (by omega) hi (by omega) hx1, hx2⟩, Nat.lt_of_lt_of_le hx2 hC.size, hn⟩
      · exact ⟨⟨(hF (j + 1) x (by omega) hx1).1, hd (j + 1) i x (by omega) hi (by omega) hx1, hx2⟩, Nat.lt_of_lt_of_le hx2 hC.size, hn⟩
    · obtain ⟨h1, h1'⟩ := h1
      obtain ⟨h2, h2'⟩ := h2
      split at h1 <;> split at h2
      · exact hd j j' x (by omega) (by omega) hne h1 h2
      · exact hd j (j' + 1) x (by omega) (by omega) (by omega) h1 h2
      · exact hd (j + 1) j' x (by omega) (by omega) (by omega) h1 h2
      · exact hd (j + 1) (j' + 1) x (by omega) (by omega) (by omega) h1 h2
  · have hbl := lt_of_block hb
    refine ⟨by rw [List.length_set]; exact h.le, h.max, h.nil, css.set i c', fun j x => if j = i then F' x else fs j x, by simp [hl], fun j k cs a e => ?_, fun j x hj hx => ?_, fun j j' x hj hj' hne h1 h2 => ?_, fun _ => ?_⟩
    · by_cases hji : j = i
      · subst hji
        rw [List.getElem?_set_self (by omega)] at a
        rw [List.getElem?_set_self (by omega)] at e
        cases a; cases e
        simpa using hT
      · rw [List.getElem?_set_ne (by omega)] at a
        rw [List.getElem?_set_ne (by omega)] at e
        have hj : j < ks.length := (List.getElem?_eq_some_iff.1 a).1
        have := (hk j k cs a e).move (w' := w') (F' := fs j) (fun x hx hlt' => hfr.block x hlt' ((hF j x hj hx).2 b rfl) (hd j i x hj hi hji hx)) (fun x hx _ => hx)
        simpa [hji] using this.weak (fun x hx => hx.1)
    · simp only [List.length_set] at hj
      by_cases hji : j = i
      · simp only [hji, if_true] at hx
        exact ⟨.inr hx, fun b' e => by cases e; exact (hF' x hx).2⟩
      · simp only [hji, if_false] at hx
        exact ⟨.inl ⟨(hF j x hj hx).1, hd j i x hj hi hji hx⟩, (hF j x hj hx).2⟩
    · simp only [List.length_set] at hj hj'
      by_cases hji : j = i <;> by_cases hji' : j' = i <;> simp only [hji, hji', if_true, if_false] at h1 h2
      · omega
      · rcases (hF' x h1).1 with h3 | h3
        · exact hd i j' x hi hj' (fun e => hji' e.symm) h3 h2
        · exact h3 (hF j' x hj' h2).1
      · rcases (hF' x h2).1 with h3 | h3
        · exact hd i j x hi hj (fun e => hji e.symm) h3 h1
        · exact h3 (hF j x hj h1).1
      · exact hd j j' x hj hj' hne h1 h2
    · obtain ⟨C', hC'⟩ := hfr.shape C _ hb
      refine ⟨b, C', rfl, hC', .inl ⟨hFb, fun hf => (hF i b hi hf).2 b rfl rfl⟩, fun j cs e => ?_⟩
      by_cases hji : j = i
      · subst hji
        rw [List.getElem?_set_self (by omega)] at e
        cases e; exact hrc
      · rw [List.getElem?_set_ne (by omega)] at e
        have hj4 := h4 cs (List.mem_of_getElem? e)
        intro p v hv
        have hp : p < 4 := by have := (List.getElem?_eq_some_iff.1 hv).1; omega
        rw [hfr.cell (j * 4 + p) (by omega)]
        exact hr j cs e p v hv
end Go.Proofs.Ytofjocjljbkjgaa
namespace Go.Proofs.Ytofjocjljbkjgaa
open Go.RowKit
def insAt {α : Type} (l : List α) (p : Nat) (x : α) : List α := l.take p ++ x :: l.drop p
theorem insAt_length {α : Type} (l : List α) (p : Nat) (x : α) (h : p ≤ l.length) : (insAt l p x).length = l.length + 1 := by simp [insAt]; omega
theorem insAt_get {α : Type} (l : List α) (p : Nat) (x : α) (h : p ≤ l.length) (j : Nat) : (insAt l p x)[j]? = if j < p then l[j]? else if j = p then some x else l[j - 1]? := by
  unfold insAt
  by_cases h1 : j < p
  · rw [if_pos h1, List.getElem?_append_left (by simp; omega), List.getElem?_take, if_pos h1]
  · rw [if_neg h1, List.getElem?_append_right (by simp; omega), List.length_take, Nat.min_eq_left h]
    by_cases h2 : j = p
    · subst h2; simp
    · rw [if_neg h2]
      obtain ⟨d, rfl⟩ : ∃ d, j = p + 1 + d := ⟨j - (p + 1), by omega⟩
      rw [show p + 1 + d - p = d + 1 from by omega, List.getElem?_cons_succ, List.getElem?_drop]
      congr 1; omega
theorem KidsV.insert {w : World} {A : Option Addr} {c : Nat} {ks : List Tr} {F : Nat → Prop} (h : KidsV w A c ks F) {p : Nat} (hp : p ≤ ks.length) :
    ∃ olds news : List Value, olds.length = p * 4 ∧ news.length = (ks.length - p) * 4 ∧ (∀ ad, A = some ad → ∀ j u, olds[j]? = some u → w.cell? (ad.add j) = some u) ∧ (p < ks.length → ∃ b, A = some ⟨b, 0, none⟩ ∧ b < w.heap.size ∧ w.rangeAt b (p * 4) news) ∧ (∀ u ∈ news, u.oneCell' = true) ∧
      ∀ (w' : World) (v' : Value) (base : Nat) (x : Tr) (cx : List Value) (Fx : Nat → Prop), Chg [] w w' → w.heap.size ≤ base → w'.ownsRow base 24 4 v' (ks.length + 1) (olds ++ cx ++ news) → TrV w' x cx Fx → (∀ y, Fx y → ¬ F y ∧ y < w'.heap.size ∧ v'.ownBlock ≠ some y) → (∀ y, F y → y < w.heap.size) → RowV w' base v' (insAt ks p x) (fun y => F y ∨ Fx y) := by
  obtain ⟨css, fs, hl, hk, hF, hd, hpp⟩ := h.parts
  have h4 := all4 hl (fun i k cs a b => (hk i k cs a b).four)
  have h1c : ∀ cs ∈ css, ∀ u ∈ cs, u.oneCell' = true := by
    intro cs hcs
    obtain ⟨j, hj, rfl⟩ := List.getElem_of_mem hcs
    exact (hk j (ks[j]'(by omega)) _ (List.getElem?_eq_getElem _) (List.getElem?_eq_getElem _)).one
  refine ⟨(css.take p).flatten, (css.drop p).flatten, ?_, ?_, fun ad hA j u hu => ?_, fun hlt => ?_, ?_, fun w' v' base x cx Fx hC hbase ho hT hFx hlt => ?_⟩
  · rw [flat_len4 _ (fun x hx => h4 x (List.mem_of_mem_take hx))]; simp; omega
  · rw [flat_len4 _ (fun x hx => h4 x (List.mem_of_mem_drop hx))]; simp [hl]
  · by_cases h0 : p = 0
    · subst h0; simp at hu
    · obtain ⟨b, C, hAb, hb, hFb, hr⟩ := hpp (by omega)
      rw [hAb] at hA; cases hA
      rw [Addr.add_mid]
      refine range_flat (w := w) (b := b) (css.take p) 0 (fun x hx => h4 x (List.mem_of_mem_take hx)) (fun i cs e => ?_) j u hu
      rw [List.getElem?_take] at e
      split at e
      · have := hr i cs e; simpa using this
      · cases e
  · obtain ⟨b, C, hAb, hb, hFb, hr⟩ := hpp (by omega)
    refine ⟨b, hAb, lt_of_block hb, range_flat _ _ (fun x hx => h4 x (List.mem_of_mem_drop hx)) (fun i cs e => ?_)⟩
    rw [List.getElem?_drop] at e
    have := hr _ cs e
    rwa [show (p + i) * 4 = p * 4 + i * 4 from by omega] at this
  · exact flat_one (w := w) (fun cs hcs => h1c cs (List.mem_of_mem_drop hcs))
  · refine ⟨insAt css p cx, fun j y => if j < p then fs j y else if j = p then Fx y else fs (j - 1) y, ?_, by rw [insAt_length _ _ _ (by omega), insAt_length _ _ _ hp, hl], fun j k cs a e => ?_, fun j y hj hy => ?_, fun j j' y hj hj' hne h1 h2 => ?_⟩
    · rw [insAt_length _ _ _ hp]
      have e : (insAt css p cx).flatten = (css.take p).flatten ++ cx ++ (css.drop p).flatten := by simp [insAt]
      rw [e]; exact ho
    · rw [insAt_get _ _ _ hp] at a
      rw [insAt_get _ _ _ (by omega)] at e
      by_cases hjp : j < p
      · rw [if_pos hjp] at a e
        simpa [hjp] using (hk j k cs a e).kept hC (by simp)
      · rw [if_neg hjp] at a e
        by_cases hjp2 : j = p
        · rw [if_pos hjp2] at a e
          cases a; cases e
          simpa [hjp2] using hT
        · rw [if_neg hjp2] at a e
          simpa [hjp, hjp2] using (hk (j - 1) k cs a e).kept hC (by simp)
    · rw [insAt_length _ _ _ hp] at hj
      have old : ∀ i, i < ks.length → fs i y → (F y ∨ Fx y) ∧ y < w'.heap.size ∧ v'.ownBlock ≠ some y := fun i hi hf => by
        have := hlt y (hF i y hi hf).1
        exact ⟨.inl (hF i y hi hf).1, Nat.lt_of_lt_of_le this hC.size, fun e => by have := ho.lt y e; omega⟩
      by_cases hjp : j < p
      · simp only [hjp, if_true] at hy; exact old j (by omega) hy
      · by_cases hjp2 : j = p
        · simp only [hjp, hjp2, if_true, if_false] at hy
          have hy' : Fx y := by simpa using hy
          exact ⟨.inr hy', (hFx y hy').2⟩
        · simp only [hjp, hjp2, if_false] at hy; exact old (j - 1) (by omega) hy
    · rw [insAt_length _ _ _ hp] at hj hj'
      have cls : ∀ i, i < ks.length + 1 → (if i < p then fs i y else if i = p then Fx y else fs (i - 1) y) → (i = p ∧ Fx y) ∨ ∃ m, m < ks.length ∧ fs m y ∧ i ≠ p ∧ m = (if i < p then i else i - 1) := fun i hi hf => by
        by_cases a : i < p
        · simp only [a, if_true] at hf; exact .inr ⟨i, by omega, hf, by omega, by rw [if_pos a]⟩
        · by_cases b : i = p
          · subst b; simp at hf; exact .inl ⟨rfl, hf⟩
          · simp only [a, b, if_false] at hf; exact .inr ⟨i - 1, by omega, hf, b, by rw [if_neg a]⟩
      rcases cls j hj h1 with ⟨e1, f1⟩ | ⟨m, hm, f1, e1, q1⟩ <;> rcases cls j' hj' h2 with ⟨e2, f2⟩ | ⟨m', hm', f2, e2, q2⟩
      · omega
      · exact (hFx y f1).1 (hF m' y hm' f2).1
      · exact (hFx y f2).1 (hF m y hm f1).1
      · refine hd m m' y hm hm' ?_ f1 f2
        split at q1 <;> split at q2 <;> omega
section
variable {P : Program} {ops : Array Oper} {rest : List Oper} {o : Oper} {a : Act} {w : World} {Q : Exit → Act → World → Prop}
theorem exec_slice_pre (T : TypeId) (x y z : Operand) (ho : o.op = .slice T x none (some y) (some z)) (hT : P.underlying T = some (.slice (P.elem T))) (hsz : ∀ w, (sizeOf (P.elem T)).run P w = .ok 4 w) (A : Option Addr) (len cap k : Nat) (hx : a.eval x = .slice A len cap) (hy : a.eval y = .int .i64 k) (hz : a.eval z = .int .i64 k) (hk : k ≤ cap) :
    (execOp a.eval o).run P w = .ok (.value (.slice A k k)) w := by
  have h := run_slice_hm (P := P) w T A len cap hT .i64 .i64 (k : Int) (k : Int) (by omega) (by omega) (by omega)
  rw [hsz] at h
  simp only [Result.andThen_ok] at h
  have e : sliced A 0 (k : Int).toNat (k : Int).toNat 4 = .slice A k k := by
    cases A with
    | none => simp [sliced]
    | some ad => simp [sliced, Addr.add]
  rw [e] at h
  simp [execOp, ho, hx, hy, hz, run_sliceAt_slice w T _ _ _ _ hT, h, Result.andThen]
def tailA (A : Option Addr) (cap k : Nat) : Option Addr := if cap = k then A else A.map (·.add (k * 4))
theorem exec_slice_post (T : TypeId) (x y : Operand) (ho : o.op = .slice T x (some y) none none) (hT : P.underlying T = some (.slice (P.elem T))) (hsz : ∀ w, (sizeOf (P.elem T)).run P w = .ok 4 w) (A : Option Addr) (len cap k : Nat) (hx : a.eval x = .slice A len cap) (hy : a.eval y = .int .i64 k) (hk : k ≤ len) :
    (execOp a.eval o).run P w = .ok (.value (.slice (tailA A cap k) (len - k) (cap - k))) w := by
  have h := run_slice_l (P := P) w T A len cap hT .i64 (k : Int) (by omega) (by omega)
  rw [hsz] at h
  simp only [Result.andThen_ok] at h
  have e : sliced A (k : Int).toNat len cap 4 = .slice (tailA A cap k) (len - k) (cap - k) := by simp [sliced, tailA]
  rw [e] at h
  simp [execOp, ho, hx, hy, run_sliceAt_slice w T _ _ _ _ hT, h, Result.andThen]
theorem tailA_some {b cap k : Nat} (h : k < cap) : tailA (some ⟨b, 0, none⟩) cap k = some ⟨b, k * 4, none⟩ := by
  unfold tailA; rw [if_neg (by omega)]; simp [Addr.add]; omega
theorem M_world {md : Region.Mode} {S : World → Prop} {eff brk : Nat → Bool} {fuel : Nat} {listed : Array Bool} (S0 : World → Prop) (h : S0 w) (k : ∀ X, S0 X → wpAnyM P md ops Q S eff brk fuel listed a X) : wpAnyM P md ops Q S eff brk fuel listed a w := k w h
theorem wpList_append_zero (hgd : o.guard = none) (s x : Operand) (t e : TypeId) (ho : o.op = .call { callee := .builtin .append, args := #[s, x], argTypes := #[t, t] }) (i : TypeInfo) (ht : P.underlying t = some (.slice e)) (hi : P.info? e = some i)
    (A : Option Addr) (n c : Nat) (hnc : n ≤ c) (B : Option Addr) (d : Nat) (hs : a.eval s = .slice A n c) (hx : a.eval x = .slice B 0 d) (h : wpList P ops Q rest (a.put o.dst (.slice A n c)) w) : wpList P ops Q (o :: rest) a w := by
  have hrun := run_append_nothing (P := P) w t t o.type e i ht hi A n c hnc (.slice B 0 d) ⟨.inl ⟨e, ht⟩, fun w' => by simp [Builtin.lenOf], by cases B <;> simp [Builtin.firstCells, loadCells, loadCellsFrom], by cases B <;> simp [Builtin.firstCells, loadCells, loadCellsFrom], (by simp), by simp⟩
  refine wpList_runv hgd (w' := w) ?_ h
  simp [execOp, ho, resolve, invoke, builtin, hs, hx, hrun, Result.andThen]
end
end Go.Proofs.Ytofjocjljbkjgaa
namespace Go.Proofs.Ytofjocjljbkjgaa
open Go.RowKit
def SrcN (ok : Nat → Prop) (w : World) (A : Option Addr) (ks : List Tr) : Prop := ∀ i k, ks[i]? = some k → ∃ g o cs, A = some ⟨g, o, none⟩ ∧ w.rangeAt g (o + i * 4) cs ∧ TrC ok w k cs
theorem SrcN.of {ok : Nat → Prop} {w : World} {A : Option Addr} {ks : List Tr} (h : KidsC ok w A ks) : SrcN ok w A ks := fun i k hk => by
  obtain ⟨g, o, cs, h1, _, h2, h3⟩ := h i k hk; exact ⟨g, o, cs, h1, h2, h3⟩
theorem SrcN.one {ok : Nat → Prop} {w : World} {g : Nat} {t : Tr} {cs : List Value} (hb : w.heap[g]? = some (.cells cs.toArray 24 (0, 0))) (h : TrC ok w t cs) : SrcN ok w (some ⟨g, 0, none⟩) [t] := fun i k hk => by
  match i, hk with
  | 0, hk => simp at hk; subst hk; exact ⟨g, 0, cs, rfl, by simpa using range_all hb, h⟩
  | i + 1, hk => simp at hk
structure RowN (w : World) (ok : Nat → Prop) (base : Nat) (v : Value) (ks : List Tr) : Prop where
  ex : ∃ css, RowR w 4 24 base v css ∧ css.length = ks.length ∧ ∀ (i : Nat) k cs, ks[i]? = some k → css[i]? = some cs → TrC (fun b => ok b ∧ b < w.heap.size ∧ v.ownBlock ≠ some b) w k cs
theorem RowN.nil (w : World) (ok : Nat → Prop) (base : Nat) : RowN w ok base (.slice none 0 0) [] := ⟨[], .nil _ _ _ _, rfl, fun k s cs h => by simp at h⟩
theorem RowN.own {w : World} {ok : Nat → Prop} {base : Nat} {v : Value} {ks : List Tr} (h : RowN w ok base v ks) : ∀ b, v.ownBlock = some b → base ≤ b ∧ b < w.heap.size := by
  obtain ⟨css, h1, _⟩ := h.ex; exact h1.own
theorem RowN.slice {w : World} {ok : Nat → Prop} {base : Nat} {v : Value} {ks : List Tr} (h : RowN w ok base v ks) : ∃ A c, v = .slice A ks.length c := by
  obtain ⟨css, h1, h2, _⟩ := h.ex; rw [← h2]; exact h1.slice
theorem RowN.weak {w : World} {ok ok' : Nat → Prop} {base : Nat} {v : Value} {ks : List Tr} (h : RowN w ok base v ks) (hk : ∀ b, ok b → b < w.heap.size → ok' b) : RowN w ok' base v ks := by
  obtain ⟨css, h1, h2, h3⟩ := h.ex
  exact ⟨css, h1, h2, fun k s cs hs hcs => (h3 k s cs hs hcs).weak (fun b hb _ => ⟨hk b hb.1 hb.2.1, hb.2⟩)⟩
theorem RowN.kept {w w' : World} {ok : Nat → Prop} {base : Nat} {v : Value} {ks : List Tr} {l : List Nat} (h : RowN w ok base v ks) (hc : Chg l w w') (h1 : ∀ b ∈ l, v.ownBlock ≠ some b ∧ ¬ ok b) : RowN w' ok base v ks := by
  obtain ⟨css, h2, h3, h4⟩ := h.ex
  refine ⟨css, h2.kept hc (fun b hb hm => (h1 b hm).1 hb), h3, fun i k cs hs hcs => ?_⟩
  exact ((h4 i k cs hs hcs).kept hc (fun b hb hm => (h1 b hm).2 hb.1)).weak (fun b hb _ => ⟨hb.1, Nat.lt_of_lt_of_le hb.2.1 hc.size, hb.2.2⟩)
theorem RowN.toC {w : World} {ok : Nat → Prop} {base : Nat} {A : Option Addr} {n c : Nat} {ks : List Tr} (h : RowN w ok base (.slice A n c) ks) : n = ks.length ∧ ks.length ≤ c ∧ c ≤ 9223372036854775807 ∧ KidsC (fun b => b < w.heap.size) w A ks := by
  obtain ⟨css, h1, h2, h3⟩ := h.ex
  rcases Nat.eq_zero_or_pos ks.length with h0 | hp
  · have hk : ks = [] := List.length_eq_zero_iff.1 h0
    subst hk
    obtain ⟨A', c', e⟩ := h1.slice
    rw [h2] at e
    injection e with e1 e2 e3
    subst e1 e2 e3
    rcases h1.row.2 with ⟨h5, _⟩ | ⟨g, cap, cur, h5, _, _, h6, h7, _⟩
    · injection h5 with q1 q2 q3; subst q3
      exact ⟨rfl, by simp, by omega, KidsC.nil _ _ _⟩
    · injection h5 with q1 q2 q3; subst q3
      unfold maxLen at h7
      exact ⟨rfl, by simp, by omega, KidsC.nil _ _ _⟩
  · obtain ⟨g, c', C, e, hb, hg, hcl, hcm, _, _, hr⟩ := h1.block (by omega)
    injection e with e1 e2 e3
    subst e1 e2 e3
    unfold maxLen at hcm
    refine ⟨h2, by omega, by omega, fun i k hk => ?_⟩
    have hlt := (List.getElem?_eq_some_iff.1 hk).1
    have hlt' : i < css.length := by omega
    exact ⟨g, 0, _, rfl, lt_of_block hg, by rw [Nat.zero_add]; exact hr i hlt', (h3 i k _ hk (List.getElem?_eq_getElem hlt')).weak (fun b hb _ => hb.2.1)⟩
theorem RowN.push {w w1 w' : World} {ok : Nat → Prop} {base : Nat} {v v' : Value} {ks ns : List Tr} {css ds : List (List Value)} {l : List Nat} (h1 : RowR w 4 24 base v css) (h2 : css.length = ks.length) (h3 : ∀ (i : Nat) k cs, ks[i]? = some k → css[i]? = some cs → TrC (fun b => ok b ∧ b < w.heap.size ∧ v.ownBlock ≠ some b) w k cs)
    (hc0 : Chg l w w1) (hl : ∀ b ∈ l, v.ownBlock ≠ some b ∧ ¬ ok b) (ho : w'.ownsRow base 24 4 v' (css.length + ds.length) (css.flatten ++ ds.flatten)) (hd : ds.length = ns.length) (h4 : ∀ (i : Nat) k cs, ns[i]? = some k → ds[i]? = some cs → TrC (fun b => ok b ∧ b < w1.heap.size ∧ v.ownBlock ≠ some b) w1 k cs)
    (hc : Chg v.ownBlock.toList w1 w') (hat : v'.ownBlock = v.ownBlock ∨ v'.ownBlock = some w1.heap.size) : RowN w' ok base v' (ks ++ ns) := by
  have h1' := h1.kept hc0 (fun b hb hm => (hl b hm).1 hb)
  have hd4 : ∀ cs ∈ ds, cs.length = 4 := fun cs hcs => by
    obtain ⟨i, hi, rfl⟩ := List.getElem_of_mem hcs
    have hi' : i < ns.length := by omega
    exact (h4 i _ _ (List.getElem?_eq_getElem hi') (List.getElem?_eq_getElem hi)).four
  have hsz := hc.size
  have hsz0 := hc0.size
  have hmv : ∀ k cs, TrC (fun b => ok b ∧ b < w1.heap.size ∧ v.ownBlock ≠ some b) w1 k cs → TrC (fun b => ok b ∧ b < w'.heap.size ∧ v'.ownBlock ≠ some b) w' k cs := fun k cs h => by
    refine (h.kept hc (fun b hb hm => hb.2.2 (by simpa using hm))).weak (fun b hb _ => ⟨hb.1, by omega, ?_⟩)
    rcases hat with e | e
    · rw [e]; exact hb.2.2
    · rw [e]; intro he; injection he; omega
  refine ⟨css ++ ds, h1'.pushN ho hd4, by simp [h2, hd], fun i k cs hk hcs => ?_⟩
  rcases Nat.lt_or_ge i ks.length with hi | hi
  · rw [List.getElem?_append_left hi] at hk
    rw [List.getElem?_append_left (by omega)] at hcs
    refine hmv k cs (((h3 i k cs hk hcs).kept hc0 (fun b hb hm => (hl b hm).2 hb.1)).weak (fun b hb _ => ⟨hb.1, by omega, hb.2.2⟩))
  · rw [List.getElem?_append_right hi] at hk
    rw [List.getElem?_append_right (by omega), h2] at hcs
    exact hmv k cs (h4 _ k cs hk hcs)
theorem wpList_append_nodes {ops : Array Oper} {rest : List Oper} {o : Oper} {a : Act} {w w1 : World} {Q : Exit → Act → World → Prop} (hgd : o.guard = none) (s x : Operand) (ho : o.op = .call { callee := .builtin .append, args := #[s, x], argTypes := #[22, 22] }) (ok : Nat → Prop) (base : Nat) (v : Value) (ks : List Tr) (hs : a.eval s = v) (hv : RowN w ok base v ks) {l : List Nat} (hc0 : Chg l w w1) (hl : ∀ b ∈ l, v.ownBlock ≠ some b ∧ ¬ ok b) (hb : base ≤ w.heap.size)
    (A : Option Addr) (m c : Nat) (ns : List Tr) (hx : a.eval x = .slice A m c) (hm : m = ns.length) (hA : SrcN (fun b => ok b ∧ b < w1.heap.size ∧ v.ownBlock ≠ some b) w1 A ns) (hk : ks.length ≤ 1000000) (hn : ns.length ≤ 1000000)
    (h : ∀ v' w', RowN w' ok base v' (ks ++ ns) → Chg v.ownBlock.toList w1 w' → (v'.ownBlock = v.ownBlock ∨ v'.ownBlock = some w1.heap.size) → wpList Try.prog ops Q rest (a.put o.dst v') w') : wpList Try.prog ops Q (o :: rest) a w1 := by
  subst hm
  obtain ⟨ip, hi, hz0, hz1, hz2⟩ := info_parts infoNode
  rcases Nat.eq_zero_or_pos ns.length with h0 | hp
  · have hn0 : ns = [] := List.length_eq_zero_iff.1 h0
    subst hn0
    obtain ⟨Av, cv, rfl⟩ := hv.slice
    have hcap : ks.length ≤ cv := (hv.toC).2.1
    refine wpList_append_zero hgd s x 22 24 ho ip Try.underlying22 hi Av ks.length cv hcap A c hs hx ?_
    exact h _ _ (by rw [List.append_nil]; exact hv.kept hc0 hl) (Chg.refl _ _) (.inl rfl)
  · obtain ⟨css, h1, h2, h3⟩ := hv.ex
    have h1' := h1.kept hc0 (fun b hb hm => (hl b hm).1 hb)
    obtain ⟨g, o', _, rfl, _, _⟩ := hA 0 _ (List.getElem?_eq_getElem hp)
    have hk' : ∀ i, i < ns.length → ∃ cs, w1.rangeAt g (o' + i * 4) cs ∧ TrC (fun b => ok b ∧ b < w1.heap.size ∧ v.ownBlock ≠ some b) w1 (ns.getD i ⟨0, 0, ⟨#[]⟩, []⟩) cs := fun i hi => by
      obtain ⟨g2, o2, cs, e, hr, ht⟩ := hA i _ (List.getElem?_eq_getElem hi)
      simp only [Option.some.injEq, Addr.mk.injEq, and_true] at e
      obtain ⟨rfl, rfl⟩ := e
      exact ⟨cs, hr, by rw [List.getD_eq_getElem?_getD, List.getElem?_eq_getElem hi]; exact ht⟩
    let fs : Nat → List Value := fun i => if h : i < ns.length then (hk' i h).choose else []
    have hfs : ∀ i, i < ns.length → w1.rangeAt g (o' + i * 4) (fs i) ∧ TrC (fun b => ok b ∧ b < w1.heap.size ∧ v.ownBlock ≠ some b) w1 (ns.getD i ⟨0, 0, ⟨#[]⟩, []⟩) (fs i) := fun i hi => by
      have := (hk' i hi).choose_spec
      simpa [fs, hi] using this
    obtain ⟨ds, hds⟩ : ∃ ds, ds = (List.range ns.length).map fs := ⟨_, rfl⟩
    have hdl : ds.length = ns.length := by rw [hds]; simp
    have hdg : ∀ (i : Nat) cs, ds[i]? = some cs → i < ns.length ∧ cs = fs i := fun i cs hcs => by
      have hlt := (List.getElem?_eq_some_iff.1 hcs).1
      rw [hdl] at hlt
      refine ⟨hlt, ?_⟩
      rw [hds] at hcs
      simp [hlt] at hcs
      exact hcs.symm
    have hd4 : ∀ cs ∈ ds, cs.length = 4 := fun cs hcs => by
      obtain ⟨i, hi, rfl⟩ := List.getElem_of_mem hcs
      obtain ⟨q1, q2⟩ := hdg i _ (List.getElem?_eq_getElem hi)
      rw [q2]; exact (hfs i q1).2.four
    have hfl := range_flat (w := w1) (b := g) ds o' hd4 (fun i cs hcs => by obtain ⟨q1, q2⟩ := hdg i cs hcs; rw [q2]; exact (hfs i q1).1)
    have hone := flat_one (w := w1) (css := ds) (fun cs hcs => by
      obtain ⟨i, hi, rfl⟩ := List.getElem_of_mem hcs
      obtain ⟨q1, q2⟩ := hdg i _ (List.getElem?_eq_getElem hi)
      rw [q2]; exact one4 (hfs i q1).2)
    refine wpList_append_own_at _ hgd s x 22 ho base 24 ip _ 4 56 Try.underlying22 hi hz0 hz1 hz2 rfl (by omega) v css.length _ hs h1'.row ⟨g, o', none⟩ ns.length c ds.flatten hx (by rw [flat_len4 ds hd4, hdl]) (fun j u hu => by rw [Addr.add_mid]; exact hfl j u hu) hone (by unfold maxLen; omega) (by omega) (Nat.le_trans hb hc0.size) ?_
    intro v' X hown hgr _ hat
    have hc : Chg v.ownBlock.toList w1 X := Chg.grown (Chg.refl _ _) hgr (by intro k hk; rw [hk]; simp)
    rw [← hdl] at hown
    exact h v' X (RowN.push h1 h2 h3 hc0 hl hown hdl (fun i k cs hk hcs => by
      obtain ⟨q1, q2⟩ := hdg i cs hcs
      have := (hfs i q1).2
      rw [List.getD_eq_getElem?_getD, hk] at this
      rw [q2]; exact this) hc hat) hc hat
end Go.Proofs.Ytofjocjljbkjgaa
namespace Go.Proofs.Ytofjocjljbkjgaa
open Go.RowKit
theorem undNDS : Try.prog.underlying 22 = some (.slice (Try.prog.elem 22)) := by kernel_rfl
theorem szElem (w : World) : (sizeOf (Try.prog.elem 22)).run Try.prog w = .ok 4 w := by kernel_rfl
theorem results_row_tmp {P : Program} {fn : Func} {p u : Tmp} {ty : TypeId} (h : fn.results = #[.cell p ty, .tmp u]) (tmps : Array Value) (w : World) (g : Nat) (t : TypeId) (cs : Array Value) (fr : Nat × Nat) (d : TypeDesc) (x : Value)
    (hp : tmps.getD p undef = .pointer (some ⟨g, 0, none⟩)) (hv : tmps.getD u undef = x) (hg : w.heap[g]? = some (.cells cs t fr)) (hu : P.underlying ty = some d) (hd : (match d with | .struct _ | .array _ _ => true | _ => false) = true) (hi : (P.info? ty).map (·.size) = some cs.size) :
    (results fn tmps).run P w = .ok (.tuple #[.agg cs, x]) w := by
  rw [results_cell_tmp h, hp, hv]
  simp [asAddr, run_loadVar_row w g t ty cs fr d hg hu hd hi]
mutual
def Tr.out (id : Int) : Tr → Option (Tr × Tr)
  | ⟨i, k, x, ks⟩ => match outL id ks with
    | some (y, ks') => some (y, ⟨i, k, x, ks'⟩)
    | none => none
def outL (id : Int) : List Tr → Option (Tr × List Tr)
  | [] => none
  | k :: ks => if k.id = id then some (k, ks) else match k.out id with
    | some (x, k') => some (x, k' :: ks)
    | none => match outL id ks with
      | some (x, ks') => some (x, k :: ks')
      | none => none
end
theorem Tr.out_eq (id : Int) (t : Tr) : t.out id = match outL id t.kids with | some (y, ks') => some (y, { t with kids := ks' }) | none => none := by
  obtain ⟨i, k, x, ks⟩ := t
  rw [Tr.out]
theorem outL_none (id : Int) : ∀ ks : List Tr, (∀ (j : Nat) (h : j < ks.length), (ks[j]).id ≠ id ∧ (ks[j]).out id = none) → outL id ks = none
  | [], _ => rfl
  | k :: ks, h => by
    have h0 := h 0 (by simp)
    simp at h0
    rw [outL, if_neg h0.1, h0.2, outL_none id ks (fun j hj => by have := h (j + 1) (by simpa using hj); simpa using this)]
theorem outL_here (id : Int) : ∀ (ks : List Tr) (i : Nat) (h : i < ks.length), (ks[i]).id = id → (∀ (j : Nat) (hj : j < i), (ks[j]'(by omega)).id ≠ id ∧ (ks[j]'(by omega)).out id = none) → outL id ks = some (ks[i], ks.eraseIdx i)
  | [], _, h, _, _ => by simp at h
  | k :: ks, 0, h, h1, _ => by rw [outL, if_pos (by simpa using h1)]; rfl
  | k :: ks, i + 1, h, h1, h2 => by
    have h0 := h2 0 (by omega)
    simp at h0
    rw [outL, if_neg h0.1, h0.2, outL_here id ks i (by simpa using h) (by simpa using h1) (fun j hj => by have := h2 (j + 1) (by omega); simpa using this)]
    rfl
theorem outL_in (id : Int) (x k' : Tr) : ∀ (ks : List Tr) (i : Nat) (h : i < ks.length), (ks[i]).id ≠ id → (ks[i]).out id = some (x, k') → (∀ (j : Nat) (hj : j < i), (ks[j]'(by omega)).id ≠ id ∧ (ks[j]'(by omega)).out id = none) → outL id ks = some (x, ks.set i k')
  | [], _, h, _, _, _ => by simp at h
  | k :: ks, 0, h, h1, h2, _ => by rw [outL, if_neg (by simpa using h1)]; simp at h2; rw [h2]; rfl
  | k :: ks, i + 1, h, h1, h2, h3 => by
    have h0 := h3 0 (by omega)
    simp at h0
    rw [outL, if_neg h0.1, h0.2, outL_in id x k' ks i (by simpa using h) (by simpa using h1) (by simpa using h2) (fun j hj => by have := h3 (j + 1) (by omega); simpa using this)]
    rfl
structure MutAt (w : World) (g o : Nat) (t : Tr) (F : Nat → Prop) : Prop where
  cells : ∃ cs, w.rangeAt g o cs ∧ TrV w t cs F
  nog : ¬ F g
  blk : ∃ C ty, w.heap[g]? = some (.cells C ty (0, 0))
  lt : ∀ x, F x → x < w.heap.size
theorem MutAt.kept {w w' : World} {g o : Nat} {t : Tr} {F : Nat → Prop} {l : List Nat} (h : MutAt w g o t F) (hc : Chg l w w') (hg : g ∉ l) (hF : ∀ x, F x → x ∉ l) : MutAt w' g o t F := by
  obtain ⟨⟨cs, hr, hT⟩, h1, ⟨C, ty, h2⟩, h3⟩ := h
  exact ⟨⟨cs, fun j v hv => hc.cell (hr j v hv) hg, hT.kept hc hF⟩, h1, ⟨C, ty, hc.at h2 hg⟩, fun x hx => Nat.lt_of_lt_of_le (h3 x hx) hc.size⟩
theorem MutAt.open {w : World} {g o : Nat} {t : Tr} {F : Nat → Prop} (h : MutAt w g o t F) : ∃ A c, w.rangeAt g o [.int .i64 (Tr.id t), .int .i64 (Tr.kind t), .string (Tr.text t), .slice A (Tr.kids t).length c] ∧ t.text.size ≤ 9223372036854775807 ∧ KidsV w A c t.kids F := by
  obtain ⟨⟨cs, hr, hT⟩, _⟩ := h
  obtain ⟨A, c, rfl, h1, h2⟩ := hT.kidsV
  exact ⟨A, c, hr, h1, h2⟩
theorem MutAt.glt {w : World} {g o : Nat} {t : Tr} {F : Nat → Prop} (h : MutAt w g o t F) : g < w.heap.size := by
  obtain ⟨_, _, ⟨C, ty, h⟩, _⟩ := h; exact lt_of_block h
theorem Fr.one {w Z : World} {g o : Nat} {F : Nat → Prop} {C : Array Value} {ty : TypeId} {v : Value} (hc : Chg [g] w Z) (hw : w.heap[g]? = some (.cells C ty (0, 0))) (hz : Z.heap[g]? = some (.cells (C.setIfInBounds (o + 3) v) ty (0, 0))) : Fr g o F w Z :=
  ⟨hc.os, hc.tape, hc.output, hc.size, fun b hb hne _ => hc.block b hb (by simpa using hne), fun j hj => by
    simp only [World.cell?, hw, hz, Option.isSome_none, Bool.false_eq_true, if_false]
    rw [Array.getElem?_setIfInBounds, if_neg (by omega)], fun C' ty' h => by rw [hw] at h; cases h; exact ⟨_, hz⟩⟩
theorem MutAt.turn {w Z : World} {g o : Nat} {t : Tr} {F : Nat → Prop} (hM : MutAt w g o t F) {C : Array Value} {ty : TypeId} (hw : w.heap[g]? = some (.cells C ty (0, 0))) (hc : Chg [g] w Z) {A' : Option Addr} {c' : Nat} {ks' : List Tr}
    (hz : Z.heap[g]? = some (.cells (C.setIfInBounds (o + 3) (.slice A' ks'.length c')) ty (0, 0))) {Ft : Nat → Prop} (hV : TrV Z { t with kids := ks' } [.int .i64 t.id, .int .i64 t.kind, .string t.text, .slice A' ks'.length c'] Ft) (hg : ¬ Ft g) (hlt : ∀ x, Ft x → x < Z.heap.size) : MutAt Z g o { t with kids := ks' } Ft ∧ Fr g o F w Z := by
  obtain ⟨A, c, hr, _, _⟩ := hM.open
  refine ⟨⟨⟨_, fun j v hv => ?_, hV⟩, hg, ⟨_, ty, hz⟩, hlt⟩, Fr.one hc hw hz⟩
  have cell : ∀ j v, w.cell? ⟨g, o + j, none⟩ = some v → j ≠ 3 → Z.cell? ⟨g, o + j, none⟩ = some v := fun j v h hj => by
    simp only [World.cell?, hw, hz, Option.isSome_none, Bool.false_eq_true, if_false] at h ⊢
    rw [Array.getElem?_setIfInBounds, if_neg (by omega)]; exact h
  match j, hv with
  | 0, hv => exact cell 0 v (by cases hv; exact hr 0 _ rfl) (by omega)
  | 1, hv => exact cell 1 v (by cases hv; exact hr 1 _ rfl) (by omega)
  | 2, hv => exact cell 2 v (by cases hv; exact hr 2 _ rfl) (by omega)
  | 3, hv =>
    have h3 := hr 3 _ rfl
    simp only [World.cell?, hw, hz, Option.isSome_none, Bool.false_eq_true, if_false] at h3 ⊢
    have : o + 3 < C.size := (Array.getElem?_eq_some_iff.1 h3).1
    rw [Array.getElem?_setIfInBounds_self_of_lt this]
    simpa using hv
  | j + 4, hv => simp at hv
def TakePost (t : Tr) (id : Int) (g o : Nat) (F : Nat → Prop) (w : World) (e : Ending) (w' : World) : Prop :=
  match t.out id with
  | none => e = .returned (.tuple #[.agg #[.int .i64 0, .int .i64 0, .string ⟨#[]⟩, .slice none 0 0], .bool false]) ∧ Chg [] w w'
  | some (x, t') => ∃ A c Fx Ft, e = .returned (.tuple #[.agg #[.int .i64 (Tr.id x), .int .i64 (Tr.kind x), .string (Tr.text x), .slice A (Tr.kids x).length c], .bool true]) ∧ TrV w' x [.int .i64 (Tr.id x), .int .i64 (Tr.kind x), .string (Tr.text x), .slice A (Tr.kids x).length c] Fx ∧ MutAt w' g o t' Ft ∧ (∀ y, Fx y → (F y ∨ w.heap.size ≤ y) ∧ y < w'.heap.size ∧ y ≠ g ∧ ¬ Ft y) ∧ (∀ y, Ft y → F y ∨ w.heap.size ≤ y) ∧ Fr g o F w w'
set_option maxHeartbeats 4000000 in
set_option maxRecDepth 100000 in
theorem take_any (id : Int) : ∀ (t : Tr) (g o : Nat) (F : Nat → Prop) (w : World), MutAt w g o t F → t.nodes ≤ 100000 → Calls Try.prog 103 #[.pointer (some ⟨g, o, none⟩), .int .i64 id] w (TakePost t id g o F w) := by
  intro t
  induction t using Tr.ind with
  | h t ih =>
  intro g o F w hT hN
  obtain ⟨ip, hi, hz0, hz1, hz2⟩ := info_parts infoNode
  obtain ⟨A, c, hr, htx, hK⟩ := hT.open
  have hg := hT.glt
  have hlc := hK.le
  have hcm := hK.max
  have hlen : t.kids.length ≤ 100000 := by have := nodesL_len t.kids; rw [Tr.nodes_eq] at hN; omega
  have c3 : w.cell? ⟨g, o + 3, none⟩ = some (.slice A t.kids.length c) := hr 3 _ rfl
  have HI := Lib.hid (And.intro hi (And.intro hz0 (And.intro hz1 hz2)))
  have HH := Lib.hid (And.intro ih (And.intro hN (And.intro hT (And.intro hK (And.intro htx hr)))))
  clear hi hz0 hz1 hz2 hT hK ih hN htx hr
  have hA0 : Chg [] w (w.alloc (.cells #[.int .i64 0, .int .i64 0, .string ⟨#[]⟩, .slice none 0 0] 24)) := (by with_reducible repeat (first | exact Chg.refl _ _ | apply Chg.alloc | apply Chg.drew | apply Chg.drewN | (refine Chg.setCell ?_ _ _ (by simp))))
  have d3 := hA0.cell c3 (by simp)
  have HA := Lib.hid (And.intro hA0 (heap_new w (.cells #[.int .i64 0, .int .i64 0, .string ⟨#[]⟩, .slice none 0 0] 24) rfl))
  clear hA0
  go_enter Try.func103, Try.ntmps103
  go_wp2_with fail
  clear d3
  go_loopw [12] (fun i wr => ∃ k : Nat, k ≤ t.kids.length ∧ i = .int .i64 k ∧ Hid (Chg [] w wr ∧ wr.heap[w.heap.size]? = some (.cells #[.int .i64 0, .int .i64 0, .string ⟨#[]⟩, .slice none 0 0] 24 (0, 0)) ∧ ∀ (j : Nat) (hj : j < k) (hl : j < t.kids.length), (t.kids[j]).id ≠ id ∧ (t.kids[j]).out id = none)) (fun i _ => t.kids.length - (intOf i).toNat)
  case atStart => exact ⟨0, Nat.zero_le _, rfl, HA.out.1, HA.out.2, fun j hj => by omega⟩
  case round =>
    obtain ⟨k, hk, rfl, H⟩ := hrel
    clear HA
    have e3 := H.out.1.cell c3 (by simp)
    by_cases hlt : k < t.kids.length
    · obtain ⟨b, C, ci, Fi, rfl, hb, hFb, hri, hTi, hFi, hlast, hera, hset⟩ := HH.out.2.2.2.1.at hlt
      obtain ⟨Ai, ci', rfl, _, hKi⟩ := hTi.kidsV
      have k0 : wr.cell? ⟨b, k * 4, none⟩ = some (.int .i64 (t.kids[k]).id) := H.out.1.cell (hri 0 _ rfl) (by simp)
      have HK := Lib.hid (And.intro hb (And.intro hFb (And.intro hri (And.intro hTi (And.intro hFi (And.intro hlast (And.intro hera hset)))))))
      clear hb hFb hri hTi hFi hlast hera hset hKi
      by_cases hid : (t.kids[k]).id = id
      · have hb : ((t.kids[k]).id == id) = true := by simpa using hid
        have HD := Lib.hid hid
        clear hid
        have hri := H.out.1.range HK.out.2.2.1 (by simp)
        have HR := Lib.hid hri
        clear hri
        obtain ⟨r0, r1, r2, r3⟩ := blk4 H.out.2.1
        have f0 := blkF H.out.2.1 0
        have f1 := blkF H.out.2.1 1
        have f2 := blkF H.out.2.1 2
        have f3 := blkF H.out.2.1 3
        go_wp2_with (first
          | (refine wpList_load_mid rfl 24 (.tmp 30) rfl b (k * 4) rfl _ _ HR.out Try.underlying24 rfl szNode ?_)
          | fail)
        obtain ⟨C0, ty0, hw0⟩ := HH.out.2.2.1.blk
        refine wp_world (fun X => X.heap[w.heap.size]? = some (.cells #[.int .i64 (t.kids[k]).id, .int .i64 (t.kids[k]).kind, .string (t.kids[k]).text, .slice Ai (t.kids[k]).kids.length ci'] 24 (0, 0)) ∧ Chg [] w X) ⟨set4 H.out.2.1, H.out.1.andThen (chg4 _ _ _ _ _ _) (by simp)⟩ ?_
        rintro X ⟨hXb, hXc⟩
        have x3 := hXc.cell c3 (by simp)
        have hXg := hXc.at hw0 (by simp)
        have HX := Lib.hid (And.intro hXb (And.intro hXc (And.intro hXg hw0)))
        clear hXb hXc hXg hw0 r0 r1 r2 r3 f0 f1 f2 f3 e3 k0 hb
        have hout : t.out id = some (t.kids[k], { t with kids := t.kids.eraseIdx k }) := by rw [Tr.out_eq, outL_here id t.kids k hlt HD.out (fun j hj => H.out.2.2 j hj (by omega))]
        have HO := Lib.hid hout
        clear hout
        refine wp_region_M (fun _ => True) (fun k => [15, 18].contains k) (fun k => [18].contains k) (by kernel_rfl) ?_
        ((try dsimp only); (try simp only [Act.put, List.setIfInBounds_toArray, List.set_cons_zero, List.set_cons_succ]))
        refine M_pure (i := 0) (v := ?_) rfl (by kernel_rfl) (by kernel_rfl) (by kernel_rfl) (fun _ _ _ h => h) (by rfl) ?hy ?_; (case hy => (intro w; go_simp; with_reducible rfl)); ((try dsimp only); (try simp only [Act.put, List.setIfInBounds_toArray, List.set_cons_zero, List.set_cons_succ]))
        refine M_pure (i := 1) (v := ?_) rfl (by kernel_rfl) (by kernel_rfl) (by kernel_rfl) (fun _ _ _ h => h) (by rfl) ?hy ?_; (case hy => (intro w; go_simp; with_reducible rfl)); ((try dsimp only); (try simp only [Act.put, List.setIfInBounds_toArray, List.set_cons_zero, List.set_cons_succ]))
        refine M_pure (i := 2) (v := ?_) rfl (by kernel_rfl) (by kernel_rfl) (by kernel_rfl) (fun _ _ _ h => h) (by rfl) ?hy ?_; (case hy => (intro w; go_simp; with_reducible rfl)); ((try dsimp only); (try simp only [Act.put, List.setIfInBounds_toArray, List.set_cons_zero, List.set_cons_succ]))
        refine M_pure (i := 3) (v := ?_) rfl (by kernel_rfl) (by kernel_rfl) (by kernel_rfl) (fun _ _ _ h => h) (by rfl) ?hy ?_; (case hy => (intro w; go_simp; with_reducible rfl)); ((try dsimp only); (try simp only [Act.put, List.setIfInBounds_toArray, List.set_cons_zero, List.set_cons_succ]))
        refine M_take (i := 4) (v := ?_) rfl (by kernel_rfl) (by kernel_rfl) (by kernel_rfl) (by kernel_rfl) (fun _ _ _ h => h) (by rfl) ?hy ?_; (case hy => (go_simp; with_reducible rfl)); ((try dsimp only); (try simp only [Act.put, List.setIfInBounds_toArray, List.set_cons_zero, List.set_cons_succ]))
        refine M_pure (i := 5) (v := ?_) rfl (by kernel_rfl) (by kernel_rfl) (by kernel_rfl) (fun _ _ _ h => h) (by rfl) ?hy ?_; (case hy => (intro w; go_simp; with_reducible rfl)); ((try dsimp only); (try simp only [Act.put, List.setIfInBounds_toArray, List.set_cons_zero, List.set_cons_succ]))
        refine M_pure (i := 6) (v := ?_) rfl (by kernel_rfl) (by kernel_rfl) (by kernel_rfl) (fun _ _ _ h => h) (by rfl) ?hy ?_; (case hy => (intro w; go_simp; with_reducible rfl)); ((try dsimp only); (try simp only [Act.put, List.setIfInBounds_toArray, List.set_cons_zero, List.set_cons_succ]))
        refine M_pure (i := 7) rfl (by kernel_rfl) (by kernel_rfl) (by kernel_rfl) (fun _ _ _ h => h) (by rfl) (fun w => exec_slice_pre 22 (.tmp 36) (.tmp 37) (.tmp 38) rfl undNDS szElem (some ⟨b, 0, none⟩) t.kids.length c k rfl rfl rfl (by omega)) ?_
        ((try dsimp only); (try simp only [Act.put, List.setIfInBounds_toArray, List.set_cons_zero, List.set_cons_succ]))
        refine M_pure (i := 8) (v := ?_) rfl (by kernel_rfl) (by kernel_rfl) (by kernel_rfl) (fun _ _ _ h => h) (by rfl) ?hy ?_; (case hy => (intro w; go_simp; with_reducible rfl)); ((try dsimp only); (try simp only [Act.put, List.setIfInBounds_toArray, List.set_cons_zero, List.set_cons_succ]))
        refine M_pure (i := 9) (v := ?_) rfl (by kernel_rfl) (by kernel_rfl) (by kernel_rfl) (fun _ _ _ h => h) (by rfl) ?hy ?_; (case hy => (intro w; go_simp; with_reducible rfl)); ((try dsimp only); (try simp only [Act.put, List.setIfInBounds_toArray, List.set_cons_zero, List.set_cons_succ]))
        refine M_pure (i := 10) (v := ?_) rfl (by kernel_rfl) (by kernel_rfl) (by kernel_rfl) (fun _ _ _ h => h) (by rfl) ?hy ?_; (case hy => (intro w; go_simp; with_reducible rfl)); ((try dsimp only); (try simp only [Act.put, List.setIfInBounds_toArray, List.set_cons_zero, List.set_cons_succ]))
        refine M_take (i := 11) (v := ?_) rfl (by kernel_rfl) (by kernel_rfl) (by kernel_rfl) (by kernel_rfl) (fun _ _ _ h => h) (by rfl) ?hy ?_; (case hy => (go_simp; with_reducible rfl)); ((try dsimp only); (try simp only [Act.put, List.setIfInBounds_toArray, List.set_cons_zero, List.set_cons_succ]))
        refine M_pure (i := 12) (v := ?_) rfl (by kernel_rfl) (by kernel_rfl) (by kernel_rfl) (fun _ _ _ h => h) (by rfl) ?hy ?_; (case hy => (intro w; go_simp; with_reducible rfl)); ((try dsimp only); (try simp only [Act.put, List.setIfInBounds_toArray, List.set_cons_zero, List.set_cons_succ]))
        refine M_pure (i := 13) (v := ?_) rfl (by kernel_rfl) (by kernel_rfl) (by kernel_rfl) (fun _ _ _ h => h) (by rfl) ?hy ?_; (case hy => (intro w; go_simp; with_reducible rfl)); ((try dsimp only); (try simp only [Act.put, List.setIfInBounds_toArray, List.set_cons_zero, List.set_cons_succ]))
        rw [show IntKind.i64.wrap ((k : Int) + 1) = ((k + 1 : Nat) : Int) from (IntWalk.i64_in _ (by omega)).trans (by simp)]
        refine M_pure (i := 14) rfl (by kernel_rfl) (by kernel_rfl) (by kernel_rfl) (fun _ _ _ h => h) (by rfl) (fun w => exec_slice_post 22 (.tmp 43) (.tmp 45) rfl undNDS szElem (some ⟨b, 0, none⟩) t.kids.length c (k + 1) rfl rfl (by omega)) ?_
        ((try dsimp only); (try simp only [Act.put, List.setIfInBounds_toArray, List.set_cons_zero, List.set_cons_succ]))
        refine M_eff (i := 15) rfl (by kernel_rfl) (by rfl) ?_
        have x4 := blkF HX.out.2.2.1 (o + 3)
        by_cases hlast : k + 1 = t.kids.length
        · rw [show t.kids.length - (k + 1) = 0 from by omega]
          refine wpList_append_zero rfl (.tmp 39) (.tmp 46) 22 24 rfl ip Try.underlying22 HI.out.1 (some ⟨b, 0, none⟩) k k (Nat.le_refl _) _ _ rfl rfl ?_
          refine wpList_nil ⟨trivial, ?_⟩
          ((try dsimp only); (try simp only [Act.put, List.setIfInBounds_toArray, List.set_cons_zero, List.set_cons_succ]))
          refine M_pure (i := 16) (v := ?_) rfl (by kernel_rfl) (by kernel_rfl) (by kernel_rfl) (fun _ _ _ h => h) (by rfl) ?hy ?_; (case hy => (intro w; go_simp; with_reducible rfl)); ((try dsimp only); (try simp only [Act.put, List.setIfInBounds_toArray, List.set_cons_zero, List.set_cons_succ]))
          refine M_pure (i := 17) (v := ?_) rfl (by kernel_rfl) (by kernel_rfl) (by kernel_rfl) (fun _ _ _ h => h) (by rfl) ?hy ?_; (case hy => (intro w; go_simp; with_reducible rfl)); ((try dsimp only); (try simp only [Act.put, List.setIfInBounds_toArray, List.set_cons_zero, List.set_cons_succ]))
          refine M_brk (i := 18) rfl (by kernel_rfl) (by rfl) (by rfl) ?_
          go_wp2_with fail
          refine M_world (fun Y => Y.heap[w.heap.size]? = some (.cells #[.int .i64 (t.kids[k]).id, .int .i64 (t.kids[k]).kind, .string (t.kids[k]).text, .slice Ai (t.kids[k]).kids.length ci'] 24 (0, 0)) ∧ Y.heap[g]? = some (.cells (C0.setIfInBounds (o + 3) (.slice (some ⟨b, 0, none⟩) k k)) ty0 (0, 0)) ∧ Chg [g] w Y) ⟨(Chg.setCell (l := [g]) (Chg.drew (Chg.refl [g] X)) ⟨g, o + 3, none⟩ (.slice (some ⟨b, 0, none⟩) k k) (by simp)).at HX.out.1 (by simp; omega), heap_setCell_same _ _ _ _ _ _ HX.out.2.2.1, Chg.setCell (Chg.drew (HX.out.2.1.mono (by simp))) _ _ (by simp)⟩ ?_
          rintro Y hY
          have HY := Lib.hid (And.intro hY.1 (And.intro hY.2.1 (And.intro hY.2.2 trivial)))
          clear hY x3 x4
          refine M_done (by kernel_rfl) ?_ _
          obtain ⟨z0, z1, z2, z3⟩ := blk4 HY.out.1
          have zf0 := blkF HY.out.1 0
          have zf1 := blkF HY.out.1 1
          have zf2 := blkF HY.out.1 2
          have zf3 := blkF HY.out.1 3
          go_wp2
          have hC4 := chg4 Y w.heap.size (.int .i64 (t.kids[k]).id) (.int .i64 (t.kids[k]).kind) (.string (t.kids[k]).text) (.slice Ai (t.kids[k]).kids.length ci')
          have hgne : g ≠ w.heap.size := by omega
          have hZc := HY.out.2.2.1.andThen hC4 (by simp)
          have hZg := hC4.at HY.out.2.1 (by simpa using hgne)
          refine bodyPost_ret (v := .tuple #[.agg #[.int .i64 (Tr.id (t.kids[k])), .int .i64 (Tr.kind (t.kids[k])), .string (Tr.text (t.kids[k])), .slice Ai (Tr.kids (t.kids[k])).length ci'], .bool true]) (results_row_tmp rfl _ _ w.heap.size _ _ _ _ _ rfl rfl (set4 HY.out.1) Try.underlying24 rfl szNode) rfl ?_
          unfold TakePost
          rw [HO.out]
          have hks : t.kids.eraseIdx k = t.kids.take k := by rw [List.eraseIdx_eq_take_drop_succ, hlast, List.drop_length, List.append_nil]
          have hlk : (t.kids.take k).length = k := by simp; omega
          have hng : ∀ x, F x → x ≠ g := fun x hx e => HH.out.2.2.1.nog (by rw [← e]; exact hx)
          have hV := ((HK.out.2.2.2.2.2.1 hlast).close { t with kids := t.kids.take k } HH.out.2.2.2.2.1).kept hZc (fun x hx => by simpa using hng x hx.1)
          have hT := HH.out.2.2.1.turn HX.out.2.2.2 hZc (A' := some ⟨b, 0, none⟩) (c' := k) (ks' := t.kids.take k) (by rw [hlk]; exact hZg) hV (fun h => hng g h.1 rfl) (fun x hx => Nat.lt_of_lt_of_le (HH.out.2.2.1.lt x hx.1) hZc.size)
          simp only [hks]
          exact ⟨Ai, ci', Fi, _, rfl, HK.out.2.2.2.1.kept hZc (fun x hx => by simpa using hng x (HK.out.2.2.2.2.1 x hx).1), hT.1, fun y hy => ⟨.inl (HK.out.2.2.2.2.1 y hy).1, Nat.lt_of_lt_of_le (HH.out.2.2.1.lt y (HK.out.2.2.2.2.1 y hy).1) hZc.size, hng y (HK.out.2.2.2.2.1 y hy).1, fun h => h.2 hy⟩, fun y hy => .inl hy.1, hT.2⟩
        · have hm : k + 1 < t.kids.length := by omega
          obtain ⟨olds, news, hol, hnl, hro, hrn, h1o, h1n, hrow⟩ := HK.out.2.2.2.2.2.2.1
          rw [tailA_some (show k + 1 < c from by omega)]
          refine wpList_append_grows X.drew rfl (.tmp 39) (.tmp 46) 22 rfl 24 ip _ 4 56 Try.underlying22 HI.out.1 HI.out.2.1 HI.out.2.2.1 HI.out.2.2.2 rfl (by omega) (some ⟨b, 0, none⟩) k k olds rfl (fun h => by cases h) hol (fun b' e j u hu => by cases e; rw [Addr.add_mid]; exact HX.out.2.1.cell (hro j u hu) (by simp)) ⟨b, (k + 1) * 4, none⟩ (t.kids.length - (k + 1)) (c - (k + 1)) news rfl hnl (fun j u hu => by rw [Addr.add_mid]; exact HX.out.2.1.cell (hrn j u hu) (by simp)) h1n (by omega) (by unfold maxLen; omega) (by omega) ?_
          intro v' W hown hgr
          have hCW : Chg [] X W := Chg.grown (Chg.drew (Chg.refl _ _)) hgr (by simp)
          have hsX := HX.out.2.1.size
          rw [show k + (t.kids.length - (k + 1)) = t.kids.length - 1 from by omega] at hown
          have hR := hrow W v' X.heap.size (HX.out.2.1.trans hCW) hsX hown
          have hvb : ∀ x, v'.ownBlock = some x → X.heap.size ≤ x ∧ x < W.heap.size := hR.own
          have hle : (t.kids.eraseIdx k).length = t.kids.length - 1 := List.length_eraseIdx_of_lt hlt
          obtain ⟨A', c', rfl, hV0⟩ := hR.node { t with kids := t.kids.eraseIdx k } HH.out.2.2.2.2.1
          have hXlt := lt_of_block HX.out.1
          have HV := Lib.hid (And.intro hV0 (And.intro hvb (And.intro hle hCW)))
          have y3 := hCW.cell x3 (by simp)
          have y4 := blkF (hCW.at HX.out.2.2.1 (by simp)) (o + 3)
          clear hro hrn hrow h1o h1n hown hgr hR hV0 hvb x3 x4 hCW hle
          refine wpList_nil ⟨trivial, ?_⟩
          ((try dsimp only); (try simp only [Act.put, List.setIfInBounds_toArray, List.set_cons_zero, List.set_cons_succ]))
          refine M_pure (i := 16) (v := ?_) rfl (by kernel_rfl) (by kernel_rfl) (by kernel_rfl) (fun _ _ _ h => h) (by rfl) ?hy ?_; (case hy => (intro w; go_simp; with_reducible rfl)); ((try dsimp only); (try simp only [Act.put, List.setIfInBounds_toArray, List.set_cons_zero, List.set_cons_succ]))
          refine M_pure (i := 17) (v := ?_) rfl (by kernel_rfl) (by kernel_rfl) (by kernel_rfl) (fun _ _ _ h => h) (by rfl) ?hy ?_; (case hy => (intro w; go_simp; with_reducible rfl)); ((try dsimp only); (try simp only [Act.put, List.setIfInBounds_toArray, List.set_cons_zero, List.set_cons_succ]))
          refine M_brk (i := 18) rfl (by kernel_rfl) (by rfl) (by rfl) ?_
          go_wp2_with fail
          refine M_world (fun Y => Y.heap[w.heap.size]? = some (.cells #[.int .i64 (t.kids[k]).id, .int .i64 (t.kids[k]).kind, .string (t.kids[k]).text, .slice Ai (t.kids[k]).kids.length ci'] 24 (0, 0)) ∧ Y.heap[g]? = some (.cells (C0.setIfInBounds (o + 3) (.slice A' (t.kids.eraseIdx k).length c')) ty0 (0, 0)) ∧ Chg [g] w Y ∧ Chg [g] W Y) ⟨(Chg.setCell (l := [g]) (HV.out.2.2.2.mono (by simp)) ⟨g, o + 3, none⟩ (.slice A' (t.kids.eraseIdx k).length c') (by simp)).at HX.out.1 (by simp; omega), heap_setCell_same _ _ _ _ _ _ (HV.out.2.2.2.at HX.out.2.2.1 (by simp)), Chg.setCell ((HX.out.2.1.trans HV.out.2.2.2).mono (by simp)) _ _ (by simp), (Chg.refl _ _).setCell _ _ (by simp)⟩ ?_
          rintro Y hY
          have HY := Lib.hid hY
          clear hY y3 y4
          refine M_done (by kernel_rfl) ?_ _
          obtain ⟨z0, z1, z2, z3⟩ := blk4 HY.out.1
          have zf0 := blkF HY.out.1 0
          have zf1 := blkF HY.out.1 1
          have zf2 := blkF HY.out.1 2
          have zf3 := blkF HY.out.1 3
          go_wp2
          have hC4 := chg4 Y w.heap.size (.int .i64 (t.kids[k]).id) (.int .i64 (t.kids[k]).kind) (.string (t.kids[k]).text) (.slice Ai (t.kids[k]).kids.length ci')
          have hgne : g ≠ w.heap.size := by omega
          have hZc := HY.out.2.2.1.andThen hC4 (by simp)
          have hZg := hC4.at HY.out.2.1 (by simpa using hgne)
          refine bodyPost_ret (v := .tuple #[.agg #[.int .i64 (Tr.id (t.kids[k])), .int .i64 (Tr.kind (t.kids[k])), .string (Tr.text (t.kids[k])), .slice Ai (Tr.kids (t.kids[k])).length ci'], .bool true]) (results_row_tmp rfl _ _ w.heap.size _ _ _ _ _ rfl rfl (set4 HY.out.1) Try.underlying24 rfl szNode) rfl ?_
          unfold TakePost
          rw [HO.out]
          have hng : ∀ x, F x → x ≠ g := fun x hx e => HH.out.2.2.1.nog (by rw [← e]; exact hx)
          have hWZ : Chg [g, w.heap.size] W _ := (HY.out.2.2.2.mono (by simp)).trans (hC4.mono (by simp))
          have hFt : ∀ x, (F x ∧ ¬ Fi x ∧ x < w.heap.size) ∨ (Value.slice A' (t.kids.eraseIdx k).length c').ownBlock = some x → (F x ∧ ¬ Fi x) ∨ X.heap.size ≤ x := fun x hx => by
            rcases hx with hx | hx
            · exact .inl ⟨hx.1, hx.2.1⟩
            · exact .inr (HV.out.2.1 x hx).1
          have hlo : ∀ x, (F x ∧ ¬ Fi x) ∨ X.heap.size ≤ x → x ≠ g ∧ x ≠ w.heap.size ∧ ¬ Fi x := fun x hx => by
            rcases hx with hx | hx
            · have := HH.out.2.2.1.lt x hx.1
              exact ⟨hng x hx.1, by omega, hx.2⟩
            · exact ⟨by omega, by omega, fun h => by have := HH.out.2.2.1.lt x (HK.out.2.2.2.2.1 x h).1; omega⟩
          have hV := (HV.out.1.bound.weak (F' := fun x => ((F x ∧ ¬ Fi x) ∨ X.heap.size ≤ x) ∧ x < W.heap.size) (fun x hx => ⟨hFt x hx.1, hx.2⟩)).kept hWZ (fun x hx => by have := hlo x hx.1; simp; omega)
          have hT := HH.out.2.2.1.turn HX.out.2.2.2 hZc (A' := A') (c' := c') (ks' := t.kids.eraseIdx k) hZg hV (fun h => (hlo g h.1).1 rfl) (fun x hx => Nat.lt_of_lt_of_le hx.2 hWZ.size)
          exact ⟨Ai, ci', Fi, _, rfl, HK.out.2.2.2.1.kept hZc (fun x hx => by simpa using hng x (HK.out.2.2.2.2.1 x hx).1), hT.1, fun y hy => ⟨.inl (HK.out.2.2.2.2.1 y hy).1, Nat.lt_of_lt_of_le (HH.out.2.2.1.lt y (HK.out.2.2.2.2.1 y hy).1) hZc.size, hng y (HK.out.2.2.2.2.1 y hy).1, fun h => (hlo y h.1).2.2 hy⟩, fun y hy => by
            rcases hy.1 with h | h
            · exact .inl h.1
            · exact .inr (by omega), hT.2⟩
      · have hb : ((t.kids[k]).id == id) = false := by simpa using hid
        have HD := Lib.hid hid
        clear hid
        have hkn : (t.kids[k]).nodes ≤ 100000 := by have := nodesL_mem (List.getElem_mem hlt); have h2 := HH.out.2.1; rw [Tr.nodes_eq] at h2; omega
        have hFlt : ∀ x, Fi x → x < w.heap.size := fun x hx => HH.out.2.2.1.lt x (HK.out.2.2.2.2.1 x hx).1
        have hMi : MutAt w b (k * 4) (t.kids[k]) Fi := ⟨⟨_, HK.out.2.2.1, HK.out.2.2.2.1⟩, fun h => (HK.out.2.2.2.2.1 b h).2 rfl, ⟨C, _, HK.out.1⟩, hFlt⟩
        have hcall := HH.out.1 (t.kids[k]) (List.getElem_mem hlt) b (k * 4) Fi wr (hMi.kept H.out.1 (by simp) (by simp)) hkn
        have hbw := lt_of_block HK.out.1
        unfold TakePost at hcall
        obtain ⟨r0, r1, r2, r3⟩ := blk4 H.out.2.1
        have f0 := blkF H.out.2.1 0
        have f1 := blkF H.out.2.1 1
        have f2 := blkF H.out.2.1 2
        have f3 := blkF H.out.2.1 3
        cases hko : (t.kids[k]).out id with
        | none =>
          rw [hko] at hcall
          have HC := Lib.hid (And.intro hcall (And.intro hko hFlt))
          clear hcall hko hFlt hMi hkn r0 r1 r2 r3 f0 f1 f2 f3
          go_wp2_with (go_at_call 103; refine HC.out.1.mono ?_; rintro e X ⟨rfl, hX⟩
                       have hbx := hX.at H.out.2.1 (by simp)
                       obtain ⟨r0, r1, r2, r3⟩ := blk4 hbx
                       have f0 := blkF hbx 0
                       have f1 := blkF hbx 1
                       have f2 := blkF hbx 2
                       have f3 := blkF hbx 3
                       have HX := Lib.hid (And.intro hX hbx)
                       clear hX hbx)
          go_roundw
          case rel =>
            refine ⟨k + 1, by omega, by go_num, (H.out.1.trans HX.out.1).andThen (chg4 _ _ _ _ _ _) (by simp), set4 HX.out.2, fun j hj hl => ?_⟩
            rcases Nat.lt_or_ge j k with h | h
            · exact H.out.2.2 j h hl
            · obtain rfl : j = k := by omega
              exact ⟨HD.out, HC.out.2.1⟩
          case measure => simp [intOf]; omega
        | some res =>
          obtain ⟨x, k'⟩ := res
          rw [hko] at hcall
          have hout : t.out id = some (x, { t with kids := t.kids.set k k' }) := by rw [Tr.out_eq, outL_in id x k' t.kids k hlt HD.out hko (fun j hj => H.out.2.2 j hj (by omega))]
          have HC := Lib.hid (And.intro hcall (And.intro hout hFlt))
          clear hcall hko hFlt hMi hkn hout r0 r1 r2 r3 f0 f1 f2 f3
          go_wp2_with (go_at_call 103; refine HC.out.1.mono ?_; rintro e X ⟨A1, c1, Fx, Ft, rfl, hTx, hMx, hFx, hFt, hfr⟩
                       have hbx : X.heap[w.heap.size]? = _ := (hfr.block w.heap.size (lt_of_block H.out.2.1) (by omega) (fun h => by have := HC.out.2.2 _ h; omega)).trans H.out.2.1
                       obtain ⟨r0, r1, r2, r3⟩ := blk4 hbx
                       have f0 := blkF hbx 0
                       have f1 := blkF hbx 1
                       have f2 := blkF hbx 2
                       have f3 := blkF hbx 3
                       have HX := Lib.hid (And.intro hbx (And.intro hTx (And.intro hMx (And.intro hFx (And.intro hFt hfr)))))
                       clear hbx hTx hMx hFx hFt hfr)
          have hC4 := (chg4 X w.heap.size (.int .i64 x.id) (.int .i64 x.kind) (.string x.text) (.slice A1 x.kids.length c1)).trans (chg4 _ w.heap.size (.int .i64 x.id) (.int .i64 x.kind) (.string x.text) (.slice A1 x.kids.length c1))
          refine bodyPost_ret (v := .tuple #[.agg #[.int .i64 (Tr.id x), .int .i64 (Tr.kind x), .string (Tr.text x), .slice A1 (Tr.kids x).length c1], .bool true]) (results_row_tmp rfl _ _ w.heap.size _ _ _ _ _ rfl rfl (set4 (set4 HX.out.1)) Try.underlying24 rfl szNode) rfl ?_
          unfold TakePost
          rw [HC.out.2.1]
          have hwrw := lt_of_block H.out.2.1
          have hws := H.out.1.size
          obtain ⟨_, hTx, hMx, hFx, hFt, hfr⟩ := HX.out
          have hFi := HK.out.2.2.2.2.1
          have hM := HH.out.2.2.1
          have hgF : ∀ y, F y → y ≠ g := fun y hy e => hM.nog (by rw [← e]; exact hy)
          have hbg : b ≠ g := hgF b HK.out.2.1
          have hFtb : ¬ Ft b := hMx.nog
          have hfrw : Fr b (k * 4) Fi w X := (Fr.of_chg H.out.1 hbw).trans hfr
          obtain ⟨cs', hrx, hTx'⟩ := hMx.cells
          have hKX := HK.out.2.2.2.2.2.2.2 X k' cs' Ft hfrw hrx hTx' (fun y hy => ⟨by rcases hFt y hy with h | h; exact .inl h; exact .inr (fun h' => by have := hM.lt y h'; omega), fun e => hFtb (by rw [← e]; exact hy)⟩)
          have hV := hKX.close { t with kids := t.kids.set k k' } HH.out.2.2.2.2.1
          have hXw : ∀ y, y < w.heap.size → y ≠ b → ¬ Fi y → X.heap[y]? = w.heap[y]? := fun y h1 h2 h3 => hfrw.block y h1 h2 h3
          have hgX := hXw g hg (fun e => hbg e.symm) (fun h => hgF g (hFi g h).1 rfl)
          have hG : ∀ y, (F y ∧ ¬ Fi y) ∨ Ft y → y ≠ g ∧ y ≠ w.heap.size ∧ y < X.heap.size := fun y hy => by
            rcases hy with hy | hy
            · have := hM.lt y hy.1; have := hfrw.size; exact ⟨hgF y hy.1, by omega, by omega⟩
            · refine ⟨?_, ?_, hMx.lt y hy⟩
              · rcases hFt y hy with h | h
                · exact hgF y (hFi y h).1
                · omega
              · rcases hFt y hy with h | h
                · have := hM.lt y (hFi y h).1; omega
                · omega
          have hVZ := hV.kept hC4 (fun y hy => by simpa using (hG y hy).2.1)
          have hZg : ∀ C ty, w.heap[g]? = some (.cells C ty (0, 0)) → _ := fun C ty h => hC4.at (hgX.trans h) (by simp; omega)
          obtain ⟨Cg, tyg, hwg⟩ := hM.blk
          have hzg := hZg Cg tyg hwg
          obtain ⟨Aw, cw, hrw, _, _⟩ := hM.open
          have hlen' : (t.kids.set k k').length = t.kids.length := by simp
          refine ⟨A1, c1, Fx, fun y => (F y ∧ ¬ Fi y) ∨ Ft y, rfl, hTx.kept hC4 (fun y hy => ?_), ⟨⟨_, fun j v hv => ?_, hVZ⟩, fun h => (hG g h).1 rfl, ⟨Cg, tyg, hzg⟩, fun y hy => Nat.lt_of_lt_of_le (hG y hy).2.2 hC4.size⟩, fun y hy => ?_, fun y hy => ?_, ?_⟩
          · obtain ⟨h1, h2, h3, h4⟩ := hFx y hy
            rcases h1 with h | h
            · have := hM.lt y (hFi y h).1; simp; omega
            · simp; omega
          · have h0 : w.cell? ⟨g, o + j, none⟩ = some v := by
              rw [show ({ t with kids := t.kids.set k k' } : Tr).kids.length = t.kids.length from hlen'] at hv
              exact HH.out.2.2.2.2.2 j v hv
            simp only [World.cell?, hwg] at h0
            simp only [World.cell?, hzg]
            exact h0
          · obtain ⟨h1, h2, h3, h4⟩ := hFx y hy
            refine ⟨?_, Nat.lt_of_lt_of_le h2 hC4.size, ?_, ?_⟩
            · rcases h1 with h | h
              · exact .inl (hFi y h).1
              · exact .inr (by omega)
            · rcases h1 with h | h
              · exact hgF y (hFi y h).1
              · omega
            · rintro (h | h)
              · rcases h1 with h' | h'
                · exact h.2 h'
                · have := hM.lt y h.1; omega
              · exact h4 h
          · rcases hy with h | h
            · exact .inl h.1
            · rcases hFt y h with h' | h'
              · exact .inl (hFi y h').1
              · exact .inr (by omega)
          · refine ⟨hC4.os.trans hfrw.os, hC4.tape.trans hfrw.tape, hC4.output.trans hfrw.output, Nat.le_trans hfrw.size hC4.size, fun y h1 h2 h3 => ?_, fun j _ => ?_, fun C ty h => ⟨C, hZg C ty h⟩⟩
            · exact (hC4.block y (Nat.lt_of_lt_of_le h1 hfrw.size) (by simp; omega)).trans (hXw y h1 (fun e => h3 (by rw [e]; exact HK.out.2.1)) (fun h => h3 (hFi y h).1))
            · simp only [World.cell?, hwg, hzg]
    · obtain rfl : k = t.kids.length := by omega
      obtain ⟨r0, r1, r2, r3⟩ := blk4 H.out.2.1
      have f0 := blkF H.out.2.1 0
      have f1 := blkF H.out.2.1 1
      have f2 := blkF H.out.2.1 2
      have f3 := blkF H.out.2.1 3
      go_wp2
      have hC4 := chg4 wr w.heap.size (.int .i64 0) (.int .i64 0) (.string ⟨#[]⟩) (.slice none 0 0)
      refine bodyPost_ret (v := .tuple #[.agg #[.int .i64 0, .int .i64 0, .string ⟨#[]⟩, .slice none 0 0], .bool false]) (results_row_tmp rfl _ _ w.heap.size _ _ _ _ _ rfl rfl (set4 H.out.2.1) Try.underlying24 rfl szNode) rfl ?_
      unfold TakePost
      rw [Tr.out_eq, outL_none id t.kids (fun j hj => H.out.2.2 j hj hj)]
      exact ⟨rfl, H.out.1.andThen hC4 (by simp)⟩
end Go.Proofs.Ytofjocjljbkjgaa
namespace Go.Proofs.Ytofjocjljbkjgaa
open Go.RowKit
def PutPost (t x : Tr) (p g o : Nat) (F Fx : Nat → Prop) (w : World) (e : Ending) (w' : World) : Prop :=
  ∃ Ft, e = .returned (.tuple #[]) ∧ MutAt w' g o { t with kids := insAt t.kids p x } Ft ∧ (∀ y, Ft y → F y ∨ Fx y ∨ w.heap.size ≤ y) ∧ Fr g o F w w'
set_option maxHeartbeats 4000000 in
set_option maxRecDepth 100000 in
theorem put_any (t x : Tr) (p g o : Nat) (F Fx : Nat → Prop) (Ax : Option Addr) (cx : Nat) (w : World) (hM : MutAt w g o t F) (hX : TrV w x [.int .i64 (Tr.id x), .int .i64 (Tr.kind x), .string (Tr.text x), .slice Ax (Tr.kids x).length cx] Fx) (hd : ∀ y, Fx y → ¬ F y ∧ y ≠ g ∧ y < w.heap.size) (hp : p ≤ t.kids.length) (hN : t.kids.length ≤ 100000) :
    Calls Try.prog 132 #[.pointer (some ⟨g, o, none⟩), .int .i64 p, .agg #[.int .i64 (Tr.id x), .int .i64 (Tr.kind x), .string (Tr.text x), .slice Ax (Tr.kids x).length cx]] w (PutPost t x p g o F Fx w) := by
  obtain ⟨ip, hi, hz0, hz1, hz2⟩ := info_parts infoNode
  obtain ⟨A, c, hr, htx, hK⟩ := hM.open
  have hg := hM.glt
  have hlc := hK.le
  have hcm := hK.max
  have hAn := hK.nil
  obtain ⟨C0, ty0, hw0⟩ := hM.blk
  obtain ⟨olds, news, hol, hnl, hro, hrn, h1n, hrow⟩ := hK.insert hp
  have c3 : w.cell? ⟨g, o + 3, none⟩ = some (.slice A t.kids.length c) := hr 3 _ rfl
  have h1x := hX.one
  have HI := Lib.hid (And.intro hi (And.intro hz0 (And.intro hz1 hz2)))
  have HH := Lib.hid (And.intro hM (And.intro hX (And.intro hd (And.intro htx (And.intro hw0 (And.intro hol (And.intro hnl (And.intro hro (And.intro hrn (And.intro h1n (And.intro hrow (And.intro h1x hAn))))))))))))
  clear hi hz0 hz1 hz2 hM hX hd htx hw0 hol hnl hro hrn h1n hrow h1x hAn hr hK
  go_enter Try.func132, Try.ntmps132
  go_wp2_with fail
  refine wp_world (fun X => X.heap[w.heap.size]? = some (.cells #[.int .i64 (Tr.id x), .int .i64 (Tr.kind x), .string (Tr.text x), .slice Ax (Tr.kids x).length cx] 24 (0, 0)) ∧ Chg [] w X ∧ X.heap.size = w.heap.size + 1) ⟨heap_new _ _ rfl, (by with_reducible repeat (first | exact Chg.refl _ _ | apply Chg.alloc | apply Chg.drew | apply Chg.drewN | (refine Chg.setCell ?_ _ _ (by simp)))), by simp⟩ ?_
  rintro X ⟨hXb, hXc, hXs⟩
  have x3 := hXc.cell c3 (by simp)
  have hXr := range_all (w := X) (g := w.heap.size) hXb
  have HX := Lib.hid (And.intro hXb (And.intro hXc (And.intro hXs hXr)))
  clear hXb hXc hXs hXr
  refine wp_region_M (fun W => W.cell? ⟨g, o + 3, none⟩ = some (.slice A t.kids.length c)) (fun k => [9, 10, 17, 20].contains k) (fun k => [20].contains k) (by kernel_rfl) ?_
  ((try dsimp only); (try simp only [Act.put, List.setIfInBounds_toArray, List.set_cons_zero, List.set_cons_succ]))
  refine M_pure (i := 0) (v := ?_) rfl (by kernel_rfl) (by kernel_rfl) (by kernel_rfl) (fun _ _ _ h => h) (by rfl) ?hy ?_; (case hy => (intro w; go_simp; with_reducible rfl)); ((try dsimp only); (try simp only [Act.put, List.setIfInBounds_toArray, List.set_cons_zero, List.set_cons_succ]))
  refine M_pure (i := 1) (v := ?_) rfl (by kernel_rfl) (by kernel_rfl) (by kernel_rfl) (fun _ _ _ h => h) (by rfl) ?hy ?_; (case hy => (intro w; go_simp; with_reducible rfl)); ((try dsimp only); (try simp only [Act.put, List.setIfInBounds_toArray, List.set_cons_zero, List.set_cons_succ]))
  refine M_pure (i := 2) (v := ?_) rfl (by kernel_rfl) (by kernel_rfl) (by kernel_rfl) (fun _ _ _ h => h) (by rfl) ?hy ?_; (case hy => (intro w; go_simp; with_reducible rfl)); ((try dsimp only); (try simp only [Act.put, List.setIfInBounds_toArray, List.set_cons_zero, List.set_cons_succ]))
  refine M_pure (i := 3) (v := ?_) rfl (by kernel_rfl) (by kernel_rfl) (by kernel_rfl) (fun _ _ _ h => h) (by rfl) ?hy ?_; (case hy => (intro w; go_simp; with_reducible rfl)); ((try dsimp only); (try simp only [Act.put, List.setIfInBounds_toArray, List.set_cons_zero, List.set_cons_succ]))
  refine M_semi (i := 4) (v := ?_) rfl (by kernel_rfl) (by kernel_rfl) (by kernel_rfl) (by kernel_rfl) (fun _ _ _ h => h) (by rfl) x3 ?hy ?_; (case hy => (intro w hS; go_simp; with_reducible rfl)); ((try dsimp only); (try simp only [Act.put, List.setIfInBounds_toArray, List.set_cons_zero, List.set_cons_succ]))
  refine M_pure (i := 5) (v := ?_) rfl (by kernel_rfl) (by kernel_rfl) (by kernel_rfl) (fun _ _ _ h => h) (by rfl) ?hy ?_; (case hy => (intro w; go_simp; with_reducible rfl)); ((try dsimp only); (try simp only [Act.put, List.setIfInBounds_toArray, List.set_cons_zero, List.set_cons_succ]))
  refine M_pure (i := 6) (v := ?_) rfl (by kernel_rfl) (by kernel_rfl) (by kernel_rfl) (fun _ _ _ h => h) (by rfl) ?hy ?_; (case hy => (intro w; go_simp; with_reducible rfl)); ((try dsimp only); (try simp only [Act.put, List.setIfInBounds_toArray, List.set_cons_zero, List.set_cons_succ]))
  refine M_pure (i := 7) rfl (by kernel_rfl) (by kernel_rfl) (by kernel_rfl) (fun _ _ _ h => h) (by rfl) (fun w => exec_slice_pre 22 (.tmp 10) (.tmp 11) (.tmp 12) rfl undNDS szElem A t.kids.length c p rfl rfl rfl (by omega)) ?_
  ((try dsimp only); (try simp only [Act.put, List.setIfInBounds_toArray, List.set_cons_zero, List.set_cons_succ]))
  refine M_take (i := 8) rfl (by kernel_rfl) (by kernel_rfl) (by kernel_rfl) (by kernel_rfl) (fun _ _ _ h => h) (by rfl) (exec_load_mid 24 (.tmp 5) rfl w.heap.size 0 rfl _ _ (w := X.drew) HX.out.2.2.2 Try.underlying24 rfl szNode) ?_; ((try dsimp only); (try simp only [Act.put, List.setIfInBounds_toArray, List.set_cons_zero, List.set_cons_succ]))
  refine M_pure (i := 11) (v := ?_) rfl (by kernel_rfl) (by kernel_rfl) (by kernel_rfl) (fun _ _ _ h => h) (by rfl) ?hy ?_; (case hy => (intro w; go_simp; with_reducible rfl)); ((try dsimp only); (try simp only [Act.put, List.setIfInBounds_toArray, List.set_cons_zero, List.set_cons_succ]))
  refine M_pure (i := 12) (v := ?_) rfl (by kernel_rfl) (by kernel_rfl) (by kernel_rfl) (fun _ _ _ h => h) (by rfl) ?hy ?_; (case hy => (intro w; go_simp; with_reducible rfl)); ((try dsimp only); (try simp only [Act.put, List.setIfInBounds_toArray, List.set_cons_zero, List.set_cons_succ]))
  refine M_pure (i := 13) (v := ?_) rfl (by kernel_rfl) (by kernel_rfl) (by kernel_rfl) (fun _ _ _ h => h) (by rfl) ?hy ?_; (case hy => (intro w; go_simp; with_reducible rfl)); ((try dsimp only); (try simp only [Act.put, List.setIfInBounds_toArray, List.set_cons_zero, List.set_cons_succ]))
  refine M_semi (i := 14) (v := ?_) rfl (by kernel_rfl) (by kernel_rfl) (by kernel_rfl) (by kernel_rfl) (fun _ _ _ h => h) (by rfl) x3 ?hy ?_; (case hy => (intro w hS; go_simp; with_reducible rfl)); ((try dsimp only); (try simp only [Act.put, List.setIfInBounds_toArray, List.set_cons_zero, List.set_cons_succ]))
  refine M_pure (i := 15) (v := ?_) rfl (by kernel_rfl) (by kernel_rfl) (by kernel_rfl) (fun _ _ _ h => h) (by rfl) ?hy ?_; (case hy => (intro w; go_simp; with_reducible rfl)); ((try dsimp only); (try simp only [Act.put, List.setIfInBounds_toArray, List.set_cons_zero, List.set_cons_succ]))
  refine M_pure (i := 16) rfl (by kernel_rfl) (by kernel_rfl) (by kernel_rfl) (fun _ _ _ h => h) (by rfl) (fun w => exec_slice_post 22 (.tmp 20) (.tmp 21) rfl undNDS szElem A t.kids.length c p rfl rfl (by omega)) ?_
  ((try dsimp only); (try simp only [Act.put, List.setIfInBounds_toArray, List.set_cons_zero, List.set_cons_succ]))
  refine M_eff (i := 9) rfl (by kernel_rfl) (by rfl) ?_
  refine wpList_slice_one rfl 22 24 (.tmp 14) rfl Try.underlying22 ip _ HI.out.1 HI.out.2.1 (by rw [HI.out.2.2.1]; rfl) (by rw [HI.out.2.2.1]; omega) (by rw [HI.out.2.2.1]; omega) (.agg #[.int .i64 (Tr.id x), .int .i64 (Tr.kind x), .string (Tr.text x), .slice Ax (Tr.kids x).length cx]) rfl (by rw [HI.out.2.2.1]; rfl) ?_
  have hXa : Chg [] X (X.drew.alloc (.cells (.agg #[.int .i64 (Tr.id x), .int .i64 (Tr.kind x), .string (Tr.text x), .slice Ax (Tr.kids x).length cx] : Value).cells 24)) := (by with_reducible repeat (first | exact Chg.refl _ _ | apply Chg.alloc | apply Chg.drew | apply Chg.drewN | (refine Chg.setCell ?_ _ _ (by simp))))
  have ha3 := hXa.cell x3 (by simp)
  have HA := Lib.hid (HX.out.2.1.trans hXa)
  clear hXa
  refine wpList_nil ⟨ha3, ?_⟩
  ((try dsimp only); (try simp only [Act.put, List.setIfInBounds_toArray, List.set_cons_zero, List.set_cons_succ]))
  refine M_eff (i := 10) rfl (by kernel_rfl) (by rfl) ?_
  refine wpList_append_grows (X.drew.alloc (.cells (.agg #[.int .i64 (Tr.id x), .int .i64 (Tr.kind x), .string (Tr.text x), .slice Ax (Tr.kids x).length cx] : Value).cells 24)) rfl (.tmp 13) (.tmp 15) 22 rfl 24 ip _ 4 56 Try.underlying22 HI.out.1 HI.out.2.1 HI.out.2.2.1 HI.out.2.2.2 rfl (by omega) A p p olds rfl (fun h => by have := HH.out.2.2.2.2.2.2.2.2.2.2.2.2 h; omega) HH.out.2.2.2.2.2.1 (fun b' e j u hu => HA.out.cell (HH.out.2.2.2.2.2.2.2.1 b' e j u hu) (by simp)) ⟨X.drew.heap.size, 0, none⟩ 1 1 [.int .i64 (Tr.id x), .int .i64 (Tr.kind x), .string (Tr.text x), .slice Ax (Tr.kids x).length cx] rfl rfl (fun j u hu => by rw [Addr.add_mid]; exact range_all (heap_new X.drew _ rfl) j u hu) HH.out.2.2.2.2.2.2.2.2.2.2.2.1 (by omega) (by unfold maxLen; omega) (by omega) ?_
  intro v1 W1 hown hgr
  have hC1 : Chg [] w W1 := HA.out.grown hgr (by simp)
  obtain ⟨A1, c1, rfl⟩ := own_slice hown
  have hc1 : p + 1 ≤ c1 := by
    rcases hown.2 with ⟨_, h⟩ | ⟨_, _, _, h, _, _, h', _⟩
    · omega
    · injection h with _ _ h; omega
  have b3 := hC1.cell c3 (by simp)
  have hbase : w.heap.size ≤ (X.drew.alloc (.cells (.agg #[.int .i64 (Tr.id x), .int .i64 (Tr.kind x), .string (Tr.text x), .slice Ax (Tr.kids x).length cx] : Value).cells 24)).heap.size := by simp; have := HX.out.2.2.1; omega
  have H1 := Lib.hid (And.intro hown (And.intro hC1 hbase))
  clear hown hgr hC1 ha3 x3 hbase
  refine wpList_nil ⟨b3, ?_⟩
  ((try dsimp only); (try simp only [Act.put, List.setIfInBounds_toArray, List.set_cons_zero, List.set_cons_succ]))
  refine M_eff (i := 17) rfl (by kernel_rfl) (by rfl) ?_
  by_cases hlast : p = t.kids.length
  · rw [show t.kids.length - p = 0 from by omega]
    refine wpList_append_zero rfl (.tmp 16) (.tmp 22) 22 24 rfl ip Try.underlying22 HI.out.1 A1 (p + 1) c1 hc1 _ _ rfl rfl ?_
    obtain ⟨v2, hv2⟩ : ∃ v2, v2 = Value.slice A1 (p + 1) c1 := ⟨_, rfl⟩
    obtain ⟨W2, hW2⟩ : ∃ W2, W2 = W1 := ⟨_, rfl⟩
    have hn0 : news = [] := List.length_eq_zero_iff.1 (by rw [HH.out.2.2.2.2.2.2.1]; omega)
    have H2 := Lib.hid (And.intro (show W2.ownsRow _ 24 4 v2 (t.kids.length + 1) (olds ++ [.int .i64 (Tr.id x), .int .i64 (Tr.kind x), .string (Tr.text x), .slice Ax (Tr.kids x).length cx] ++ news) by rw [hW2, hv2, hn0, List.append_nil, ← hlast]; exact H1.out.1) (show Chg [] w W2 by rw [hW2]; exact H1.out.2.1))
    rw [← hv2, ← hW2]
    rw [← hW2] at b3
    clear hn0 hv2 hW2 hlast
    have hR := HH.out.2.2.2.2.2.2.2.2.2.2.1 W2 v2 _ x [.int .i64 (Tr.id x), .int .i64 (Tr.kind x), .string (Tr.text x), .slice Ax (Tr.kids x).length cx] Fx H2.out.2 H1.out.2.2 H2.out.1 (HH.out.2.1.kept H2.out.2 (by simp)) (fun y hy => ⟨(HH.out.2.2.1 y hy).1, Nat.lt_of_lt_of_le (HH.out.2.2.1 y hy).2.2 H2.out.2.size, fun e => by have := (H2.out.1.lt y e).1; have := (HH.out.2.2.1 y hy).2.2; have := H1.out.2.2; omega⟩) HH.out.1.lt
    have hvb := hR.own
    obtain ⟨A2, c2, rfl, hV⟩ := hR.node { t with kids := insAt t.kids p x } HH.out.2.2.2.1
    have hlen := insAt_length t.kids p x hp
    have HV := Lib.hid (And.intro hV (And.intro hvb hlen))
    clear hR hV hvb hlen
    have d3 := H2.out.2.cell c3 (by simp)
    have hg2 := H2.out.2.at HH.out.2.2.2.2.1 (by simp)
    have d4 := blkF hg2 (o + 3)
    have HG := Lib.hid hg2
    clear hg2 b3
    refine wpList_nil ⟨d3, ?_⟩
    ((try dsimp only); (try simp only [Act.put, List.setIfInBounds_toArray, List.set_cons_zero, List.set_cons_succ]))
    refine M_pure (i := 18) (v := ?_) rfl (by kernel_rfl) (by kernel_rfl) (by kernel_rfl) (fun _ _ _ h => h) (by rfl) ?hy ?_; (case hy => (intro w; go_simp; with_reducible rfl)); ((try dsimp only); (try simp only [Act.put, List.setIfInBounds_toArray, List.set_cons_zero, List.set_cons_succ]))
    refine M_pure (i := 19) (v := ?_) rfl (by kernel_rfl) (by kernel_rfl) (by kernel_rfl) (fun _ _ _ h => h) (by rfl) ?hy ?_; (case hy => (intro w; go_simp; with_reducible rfl)); ((try dsimp only); (try simp only [Act.put, List.setIfInBounds_toArray, List.set_cons_zero, List.set_cons_succ]))
    refine M_brk (i := 20) rfl (by kernel_rfl) (by rfl) (by rfl) ?_
    go_wp2_with fail
    refine M_done (by kernel_rfl) ?_ _
    go_wp2
    have hCs : Chg [g] W2 (W2.setCell ⟨g, o + 3, none⟩ (.slice A2 (insAt t.kids p x).length c2)) := (Chg.refl _ _).setCell _ _ (by simp)
    have hcZ : Chg [g] w (W2.setCell ⟨g, o + 3, none⟩ (.slice A2 (insAt t.kids p x).length c2)) := (H2.out.2.mono (by simp)).trans hCs
    have hFg : ∀ y, (F y ∨ Fx y) ∨ (Value.slice A2 (insAt t.kids p x).length c2).ownBlock = some y → y ≠ g := fun y hy e => by
      rcases hy with (h | h) | h
      · exact HH.out.1.nog (by rw [← e]; exact h)
      · exact (HH.out.2.2.1 y h).2.1 e
      · have := (HV.out.2.1 y h).1; have := H1.out.2.2; omega
    have hT := HH.out.1.turn HH.out.2.2.2.2.1 hcZ (A' := A2) (c' := c2) (ks' := insAt t.kids p x) (heap_setCell_same _ _ _ _ _ _ HG.out) ((HV.out.1.bound).kept hCs (fun y hy => by simpa using hFg y hy.1)) (fun h => hFg g h.1 rfl) (fun y hy => Nat.lt_of_lt_of_le hy.2 hCs.size)
    refine bodyPost_end (results_none rfl _ _ _) rfl ⟨_, rfl, hT.1, fun y hy => by
      rcases hy.1 with (h | h) | h
      · exact .inl h
      · exact .inr (.inl h)
      · exact .inr (.inr (by have := (HV.out.2.1 y h).1; have := H1.out.2.2; omega)), hT.2⟩
  · have hm : p < t.kids.length := by omega
    obtain ⟨b, rfl, hbl, hrn⟩ := HH.out.2.2.2.2.2.2.2.2.1 hm
    rw [tailA_some (show p < c from by omega)]
    refine wpList_append_own_at _ rfl (.tmp 16) (.tmp 22) 22 rfl _ 24 ip _ 4 56 Try.underlying22 HI.out.1 HI.out.2.1 HI.out.2.2.1 HI.out.2.2.2 rfl (by omega) (.slice A1 (p + 1) c1) _ _ rfl H1.out.1 ⟨b, p * 4, none⟩ (t.kids.length - p) (c - p) news rfl HH.out.2.2.2.2.2.2.1 (fun j u hu => by rw [Addr.add_mid]; exact H1.out.2.1.cell (hrn j u hu) (by simp)) HH.out.2.2.2.2.2.2.2.2.2.1 (by unfold maxLen; omega) (by omega) (by rcases H1.out.1.2 with ⟨_, h⟩ | ⟨g', _, _, _, h, hh, _⟩; omega; have := lt_of_block hh; omega) ?_
    intro v2 W2 hown2 hgr2 _ hat
    rw [show p + 1 + (t.kids.length - p) = t.kids.length + 1 from by omega] at hown2
    have H2 := Lib.hid (And.intro hown2 (show Chg [] w W2 from H1.out.2.1.grown hgr2 (fun k hk => .inr (by have := (H1.out.1.lt k hk).1; have := H1.out.2.2; omega))))
    clear hrn hown2 hgr2 hat
    have hR := HH.out.2.2.2.2.2.2.2.2.2.2.1 W2 v2 _ x [.int .i64 (Tr.id x), .int .i64 (Tr.kind x), .string (Tr.text x), .slice Ax (Tr.kids x).length cx] Fx H2.out.2 H1.out.2.2 H2.out.1 (HH.out.2.1.kept H2.out.2 (by simp)) (fun y hy => ⟨(HH.out.2.2.1 y hy).1, Nat.lt_of_lt_of_le (HH.out.2.2.1 y hy).2.2 H2.out.2.size, fun e => by have := (H2.out.1.lt y e).1; have := (HH.out.2.2.1 y hy).2.2; have := H1.out.2.2; omega⟩) HH.out.1.lt
    have hvb := hR.own
    obtain ⟨A2, c2, rfl, hV⟩ := hR.node { t with kids := insAt t.kids p x } HH.out.2.2.2.1
    have hlen := insAt_length t.kids p x hp
    have HV := Lib.hid (And.intro hV (And.intro hvb hlen))
    clear hR hV hvb hlen
    have d3 := H2.out.2.cell c3 (by simp)
    have hg2 := H2.out.2.at HH.out.2.2.2.2.1 (by simp)
    have d4 := blkF hg2 (o + 3)
    have HG := Lib.hid hg2
    clear hg2 b3
    refine wpList_nil ⟨d3, ?_⟩
    ((try dsimp only); (try simp only [Act.put, List.setIfInBounds_toArray, List.set_cons_zero, List.set_cons_succ]))
    refine M_pure (i := 18) (v := ?_) rfl (by kernel_rfl) (by kernel_rfl) (by kernel_rfl) (fun _ _ _ h => h) (by rfl) ?hy ?_; (case hy => (intro w; go_simp; with_reducible rfl)); ((try dsimp only); (try simp only [Act.put, List.setIfInBounds_toArray, List.set_cons_zero, List.set_cons_succ]))
    refine M_pure (i := 19) (v := ?_) rfl (by kernel_rfl) (by kernel_rfl) (by kernel_rfl) (fun _ _ _ h => h) (by rfl) ?hy ?_; (case hy => (intro w; go_simp; with_reducible rfl)); ((try dsimp only); (try simp only [Act.put, List.setIfInBounds_toArray, List.set_cons_zero, List.set_cons_succ]))
    refine M_brk (i := 20) rfl (by kernel_rfl) (by rfl) (by rfl) ?_
    go_wp2_with fail
    refine M_done (by kernel_rfl) ?_ _
    go_wp2
    have hCs : Chg [g] W2 (W2.setCell ⟨g, o + 3, none⟩ (.slice A2 (insAt t.kids p x).length c2)) := (Chg.refl _ _).setCell _ _ (by simp)
    have hcZ : Chg [g] w (W2.setCell ⟨g, o + 3, none⟩ (.slice A2 (insAt t.kids p x).length c2)) := (H2.out.2.mono (by simp)).trans hCs
    have hFg : ∀ y, (F y ∨ Fx y) ∨ (Value.slice A2 (insAt t.kids p x).length c2).ownBlock = some y → y ≠ g := fun y hy e => by
      rcases hy with (h | h) | h
      · exact HH.out.1.nog (by rw [← e]; exact h)
      · exact (HH.out.2.2.1 y h).2.1 e
      · have := (HV.out.2.1 y h).1; have := H1.out.2.2; omega
    have hT := HH.out.1.turn HH.out.2.2.2.2.1 hcZ (A' := A2) (c' := c2) (ks' := insAt t.kids p x) (heap_setCell_same _ _ _ _ _ _ HG.out) ((HV.out.1.bound).kept hCs (fun y hy => by simpa using hFg y hy.1)) (fun h => hFg g h.1 rfl) (fun y hy => Nat.lt_of_lt_of_le hy.2 hCs.size)
    refine bodyPost_end (results_none rfl _ _ _) rfl ⟨_, rfl, hT.1, fun y hy => by
      rcases hy.1 with (h | h) | h
      · exact .inl h
      · exact .inr (.inl h)
      · exact .inr (.inr (by have := (HV.out.2.1 y h).1; have := H1.out.2.2; omega)), hT.2⟩
end Go.Proofs.Ytofjocjljbkjgaa
namespace Go.Proofs.Ytofjocjljbkjgaa
open Go.RowKit
def Tr.at? : List Nat → Tr → Option Tr
  | [], t => some t
  | i :: p, t => match t.kids[i]? with
    | some k => Tr.at? p k
    | none => none
def Tr.upd : List Nat → Tr → Tr → Tr
  | [], _, x => x
  | i :: p, t, x => match t.kids[i]? with
    | some k => { t with kids := t.kids.set i (Tr.upd p k x) }
    | none => t
theorem Fr.weak {g o : Nat} {F F' : Nat → Prop} {w w' : World} (h : Fr g o F w w') (hF : ∀ y, F y → F' y) : Fr g o F' w w' := ⟨h.os, h.tape, h.output, h.size, fun b h1 h2 h3 => h.block b h1 h2 (fun h => h3 (hF b h)), h.cell, h.shape⟩
theorem MutAt.weak {w : World} {g o : Nat} {t : Tr} {F F' : Nat → Prop} (h : MutAt w g o t F) (h1 : ∀ y, F y → F' y) (h2 : ¬ F' g) (h3 : ∀ y, F' y → y < w.heap.size) : MutAt w g o t F' := by
  obtain ⟨⟨cs, hr, hT⟩, _, hb, _⟩ := h
  exact ⟨⟨cs, hr, hT.weak h1⟩, h2, hb, h3⟩
theorem MutAt.toAt {w : World} {g o : Nat} {t : Tr} {F : Nat → Prop} (h : MutAt w g o t F) : TrAt (fun _ => True) w g o t := by
  obtain ⟨⟨cs, hr, hT⟩, _⟩ := h
  exact ⟨cs, hr, hT.toC.weak (fun _ _ _ => trivial)⟩
theorem MutAt.kid {w : World} {g o : Nat} {t : Tr} {F : Nat → Prop} (hM : MutAt w g o t F) {i : Nat} (hi : i < t.kids.length) :
    ∃ (b c : Nat) (Fi : Nat → Prop), w.cell? ⟨g, o + 3, none⟩ = some (.slice (some ⟨b, 0, none⟩) t.kids.length c) ∧ MutAt w b (i * 4) (t.kids[i]) Fi ∧ (∀ y, Fi y → F y) ∧ F b ∧
      ∀ (w' : World) (k' : Tr) (Fk : Nat → Prop), Fr b (i * 4) Fi w w' → MutAt w' b (i * 4) k' Fk → (∀ y, Fk y → (Fi y ∨ ¬ F y) ∧ y ≠ g) → MutAt w' g o { t with kids := t.kids.set i k' } (fun y => (F y ∧ ¬ Fi y) ∨ Fk y) ∧ Fr g o F w w' := by
  obtain ⟨A, c, hr, htx, hK⟩ := hM.open
  obtain ⟨b, C, ci, Fi, rfl, hb, hFb, hri, hTi, hFi, _, _, hset⟩ := hK.at hi
  have hgF : ∀ y, F y → y ≠ g := fun y hy e => hM.nog (by rw [← e]; exact hy)
  refine ⟨b, c, Fi, hr 3 _ rfl, ⟨⟨ci, hri, hTi⟩, fun h => (hFi b h).2 rfl, ⟨C, _, hb⟩, fun y hy => hM.lt y (hFi y hy).1⟩, fun y hy => (hFi y hy).1, hFb, fun w' k' Fk hfr hMk hFk => ?_⟩
  obtain ⟨cs', hrx, hTx'⟩ := hMk.cells
  have hKX := hset w' k' cs' Fk hfr hrx hTx' (fun y hy => ⟨(hFk y hy).1, fun e => hMk.nog (by rw [← e]; exact hy)⟩)
  have hV := hKX.close { t with kids := t.kids.set i k' } htx
  have hXw : ∀ y, y < w.heap.size → y ≠ b → ¬ Fi y → w'.heap[y]? = w.heap[y]? := fun y h1 h2 h3 => hfr.block y h1 h2 h3
  have hgX := hXw g hM.glt (fun e => hgF b hFb e.symm) (fun h => hgF g (hFi g h).1 rfl)
  obtain ⟨Cg, tyg, hwg⟩ := hM.blk
  have hlen' : (t.kids.set i k').length = t.kids.length := by simp
  refine ⟨⟨⟨_, fun j v hv => ?_, hV⟩, fun h => ?_, ⟨Cg, tyg, hgX.trans hwg⟩, fun y hy => ?_⟩, ⟨hfr.os, hfr.tape, hfr.output, hfr.size, fun y h1 h2 h3 => ?_, fun j _ => ?_, fun C' ty h => ⟨C', hgX.trans h⟩⟩⟩
  · rw [show ({ t with kids := t.kids.set i k' } : Tr).kids.length = t.kids.length from hlen'] at hv
    exact (World.cell?_of_block (a := ⟨g, o + j, none⟩) hgX).trans (hr j v hv)
  · rcases h with h | h
    · exact hM.nog h.1
    · exact (hFk g h).2 rfl
  · rcases hy with h | h
    · exact Nat.lt_of_lt_of_le (hM.lt y h.1) hfr.size
    · exact hMk.lt y h
  · exact hXw y h1 (fun e => h3 (by rw [e]; exact hFb)) (fun h => h3 (hFi y h).1)
  · exact World.cell?_of_block (a := ⟨g, j, none⟩) hgX
theorem MutAt.focus : ∀ {p : List Nat} {w : World} {g o : Nat} {t : Tr} {F : Nat → Prop} {g' o' : Nat} {x : Tr}, MutAt w g o t F → NodeAt w g o p g' o' → Tr.at? p t = some x →
    ∃ F' : Nat → Prop, MutAt w g' o' x F' ∧ (∀ y, F' y → F y) ∧ (g' = g ∨ F g') ∧ ∀ (w' : World) (x' : Tr) (Ft : Nat → Prop), Fr g' o' F' w w' → MutAt w' g' o' x' Ft → (∀ y, Ft y → F' y ∨ (¬ F y ∧ y ≠ g)) → ∃ Fn : Nat → Prop, MutAt w' g o (Tr.upd p t x') Fn ∧ Fr g o F w w' ∧ ∀ y, Fn y → F y ∨ Ft y
  | [], w, g, o, t, F, g', o', x, hM, hn, hx => by
    cases hn
    simp only [Tr.at?, Option.some.injEq] at hx
    subst hx
    exact ⟨F, hM, fun _ h => h, .inl rfl, fun w' x' Ft hfr hMx _ => ⟨Ft, hMx, hfr, fun y hy => .inr hy⟩⟩
  | i :: p, w, g, o, t, F, g', o', x, hM, hn, hx => by
    cases hn with
    | kid _ _ b ob n c _ _ _ _ h hi hr =>
      have hit : i < t.kids.length := by
        obtain ⟨A, c', hrr, _, _⟩ := hM.open
        have := hrr 3 _ rfl
        rw [h] at this; injection this with this; injection this with _ e _
        rw [← e]; exact hi
      obtain ⟨b', c', Fi, h', hMi, hFi, hFb, hset⟩ := hM.kid hit
      rw [h] at h'; injection h' with h'; injection h' with e1 e2 e3
      injection e1 with e1; injection e1 with e1 e4
      subst e1 e4
      rw [Nat.zero_add] at hr
      simp only [Tr.at?, List.getElem?_eq_getElem hit] at hx
      obtain ⟨F', h1, h2, h3, h4⟩ := MutAt.focus hMi hr hx
      refine ⟨F', h1, fun y hy => hFi y (h2 y hy), .inr ?_, fun w' x' Ft hfr hMx hFt => ?_⟩
      · rcases h3 with h3 | h3
        · rw [h3]; exact hFb
        · exact hFi _ h3
      · have hgb : b ≠ g := fun e => hM.nog (by rw [← e]; exact hFb)
        obtain ⟨Fn, h5, h6, h7⟩ := h4 w' x' Ft hfr hMx (fun y hy => by
          rcases hFt y hy with h | h
          · exact .inl h
          · exact .inr ⟨fun hf => h.1 (hFi y hf), fun e => h.1 (by rw [e]; exact hFb)⟩)
        have h8 := hset w' _ Fn h6 h5 (fun y hy => by
          rcases h7 y hy with h | h
          · exact ⟨.inl h, fun e => hM.nog (by rw [← e]; exact hFi y h)⟩
          · rcases hFt y h with h' | h'
            · exact ⟨.inl (h2 y h'), fun e => hM.nog (by rw [← e]; exact hFi y (h2 y h'))⟩
            · exact ⟨.inr h'.1, h'.2⟩)
        refine ⟨_, by simp only [Tr.upd, List.getElem?_eq_getElem hit]; exact h8.1, h8.2, fun y hy => ?_⟩
        rcases hy with h | h
        · exact .inl h.1
        · rcases h7 y h with h' | h'
          · exact .inl (hFi y h')
          · exact .inr h'
mutual
theorem Tr.path_at (id : Int) : ∀ (t : Tr) (p : List Nat), t.path id = some p → ∃ x, Tr.at? p t = some x ∧ x.id = id
  | ⟨i, k, x, ks⟩, p, h => by
    rw [Tr.path] at h
    split at h
    · rename_i e; cases h; exact ⟨_, rfl, e⟩
    · obtain ⟨j, q, y, rfl, ⟨k', hj, h1⟩, h2, _⟩ := pathL_at id ks 0 p h
      exact ⟨y, by simp only [Tr.at?, Nat.zero_add, hj]; exact h1, h2⟩
theorem pathL_at (id : Int) : ∀ (ks : List Tr) (n : Nat) (p : List Nat), pathL id ks n = some p → ∃ j q y, p = (n + j) :: q ∧ (∃ k, ks[j]? = some k ∧ Tr.at? q k = some y) ∧ y.id = id ∧ True
  | [], n, p, h => by simp [pathL] at h
  | k :: ks, n, p, h => by
    rw [pathL] at h
    cases hk : k.path id with
    | some q =>
      rw [hk] at h; simp at h
      obtain ⟨y, h1, h2⟩ := Tr.path_at id k q hk
      exact ⟨0, q, y, h.symm, ⟨k, rfl, h1⟩, h2, trivial⟩
    | none =>
      rw [hk] at h
      obtain ⟨j, q, y, e, ⟨k', h1, h2⟩, h3, _⟩ := pathL_at id ks (n + 1) p h
      exact ⟨j + 1, q, y, by rw [e]; congr 1; omega, ⟨k', by simpa using h1, h2⟩, h3, trivial⟩
end
end Go.Proofs.Ytofjocjljbkjgaa
namespace Go.Proofs.Ytofjocjljbkjgaa
open Go.RowKit
structure Stp where
  op : Int
  id : Int
  par : Int
  place : Int
  text : ByteArray
  sub : Tr
def StpC (ok : Nat → Prop) (w : World) (s : Stp) (cs : List Value) : Prop :=
  ∃ A c, cs = [.int .i8 s.op, .int .i64 s.id, .int .i64 s.par, .int .i64 s.place, .string s.text, .int .i64 s.sub.id, .int .i64 s.sub.kind, .string s.sub.text, .slice A s.sub.kids.length c] ∧ TrC ok w s.sub [.int .i64 (Tr.id s.sub), .int .i64 (Tr.kind s.sub), .string (Tr.text s.sub), .slice A (Tr.kids s.sub).length c] ∧ s.text.size ≤ 9223372036854775807 ∧ -128 ≤ s.op ∧ s.op ≤ 127
theorem StpC.nine {ok : Nat → Prop} {w : World} {s : Stp} {cs : List Value} (h : StpC ok w s cs) : cs.length = 9 := by obtain ⟨A, c, rfl, _⟩ := h; rfl
theorem StpC.one {ok : Nat → Prop} {w : World} {s : Stp} {cs : List Value} (h : StpC ok w s cs) : ∀ u ∈ cs, u.oneCell' = true := by
  obtain ⟨A, c, rfl, _⟩ := h
  intro u hu
  simp at hu
  rcases hu with rfl | rfl | rfl | rfl | rfl | rfl | rfl | rfl | rfl <;> rfl
theorem StpC.kept {ok : Nat → Prop} {w w' : World} {s : Stp} {cs : List Value} {l : List Nat} (h : StpC ok w s cs) (hc : Chg l w w') (hl : ∀ g, ok g → g ∉ l) : StpC ok w' s cs := by
  obtain ⟨A, c, e, ht, hs⟩ := h; exact ⟨A, c, e, ht.kept hc hl, hs⟩
theorem StpC.weak {ok ok' : Nat → Prop} {w : World} {s : Stp} {cs : List Value} (h : StpC ok w s cs) (hl : ∀ g, ok g → g < w.heap.size → ok' g) : StpC ok' w s cs := by
  obtain ⟨A, c, e, ht, hs⟩ := h; exact ⟨A, c, e, ht.weak hl, hs⟩
def StepsC (ok : Nat → Prop) (w : World) (B : Option Addr) (ss : List Stp) : Prop :=
  ss = [] ∨ ∃ (g o : Nat) (css : List (List Value)), B = some ⟨g, o, none⟩ ∧ ok g ∧ css.length = ss.length ∧ w.rangeAt g o css.flatten ∧ ∀ (i : Nat) s cs, ss[i]? = some s → css[i]? = some cs → StpC ok w s cs
theorem StepsC.kept {ok : Nat → Prop} {w w' : World} {B : Option Addr} {ss : List Stp} {l : List Nat} (h : StepsC ok w B ss) (hc : Chg l w w') (hl : ∀ g, ok g → g ∉ l) : StepsC ok w' B ss := by
  rcases h with h | ⟨g, o, css, hB, hg, h1, h2, h3⟩
  · exact .inl h
  · exact .inr ⟨g, o, css, hB, hg, h1, hc.range h2 (hl g hg), fun i s cs a b => (h3 i s cs a b).kept hc hl⟩
theorem StepsC.weak {ok ok' : Nat → Prop} {w : World} {B : Option Addr} {ss : List Stp} (h : StepsC ok w B ss) (hl : ∀ g, ok g → g < w.heap.size → ok' g) : StepsC ok' w B ss := by
  rcases h with h | ⟨g, o, css, hB, hg, h1, h2, h3⟩
  · exact .inl h
  · by_cases h0 : ss = []
    · exact .inl h0
    · have hp : 0 < ss.length := List.length_pos_iff.2 h0
      have h9 := (h3 0 _ _ (List.getElem?_eq_getElem hp) (List.getElem?_eq_getElem (by omega))).nine
      have hlt : g < w.heap.size := by
        refine range_lt h2 ?_
        have hm : css[0]'(by omega) ∈ css := List.getElem_mem _
        have := List.length_pos_iff.2 (show css.flatten ≠ [] by
          intro e
          have := (List.flatten_eq_nil_iff.1 e) _ hm
          rw [this] at h9; simp at h9)
        exact this
      exact .inr ⟨g, o, css, hB, hl g hg hlt, h1, h2, fun i s cs a b => (h3 i s cs a b).weak hl⟩
end Go.Proofs.Ytofjocjljbkjgaa
namespace Go.Proofs.Ytofjocjljbkjgaa
open Go.RowKit
theorem find_none {id : Int} {t : Tr} {g o : Nat} {w : World} (h : TrAt (fun _ => True) w g o t) (hp : t.path id = none) : Calls Try.prog 102 #[.pointer (some ⟨g, o, none⟩), .int .i64 id] w fun e w' => e = .returned (.pointer none) ∧ w = w' :=
  (find_any id t g o w h).mono (by
    rintro e w' ⟨rfl, h1⟩
    rcases h1 with ⟨_, h1⟩ | ⟨p, g', o', h1, _⟩
    · exact ⟨h1, rfl⟩
    · rw [hp] at h1; cases h1)
theorem find_some {id : Int} {t : Tr} {g o : Nat} {w : World} {p : List Nat} (h : TrAt (fun _ => True) w g o t) (hp : t.path id = some p) : Calls Try.prog 102 #[.pointer (some ⟨g, o, none⟩), .int .i64 id] w fun e w' => ∃ g' o', e = .returned (.pointer (some ⟨g', o', none⟩)) ∧ NodeAt w g o p g' o' ∧ w = w' :=
  (find_any id t g o w h).mono (by
    rintro e w' ⟨rfl, h1⟩
    rcases h1 with ⟨h1, _⟩ | ⟨p', g', o', h1, h2, h3⟩
    · rw [hp] at h1; cases h1
    · rw [hp] at h1; cases h1; exact ⟨g', o', h3, h2, rfl⟩)
mutual
theorem Tr.path_out (id : Int) : ∀ t : Tr, (t.path id).isSome = true → t.id ≠ id → (t.out id).isSome = true
  | ⟨i, k, x, ks⟩, h, hne => by
    rw [Tr.path, if_neg hne] at h
    have := pathL_out id ks 0 h
    rw [Tr.out]
    cases h1 : outL id ks with
    | none => rw [h1] at this; cases this
    | some y => rfl
theorem pathL_out (id : Int) : ∀ (ks : List Tr) (n : Nat), (pathL id ks n).isSome = true → (outL id ks).isSome = true
  | [], n, h => by simp [pathL] at h
  | k :: ks, n, h => by
    rw [outL]
    by_cases hk : k.id = id
    · rw [if_pos hk]; rfl
    · rw [if_neg hk]
      rw [pathL] at h
      cases hp : k.path id with
      | some q =>
        have := Tr.path_out id k (by rw [hp]; rfl) hk
        cases h1 : k.out id with
        | none => rw [h1] at this; cases this
        | some y => rfl
      | none =>
        rw [hp] at h
        have := pathL_out id ks (n + 1) h
        cases h1 : k.out id with
        | some y => rfl
        | none =>
          cases h2 : outL id ks with
          | none => rw [h2] at this; cases this
          | some y => rfl
end
mutual
theorem Tr.out_nodes (id : Int) : ∀ (t y r : Tr), t.out id = some (y, r) → r.nodes + y.nodes = t.nodes
  | ⟨i, k, x, ks⟩, y, r, h => by
    rw [Tr.out] at h
    cases h1 : outL id ks with
    | none => rw [h1] at h; cases h
    | some z =>
      obtain ⟨z1, z2⟩ := z
      rw [h1] at h
      simp at h
      obtain ⟨rfl, rfl⟩ := h
      have := outL_nodes id ks z1 z2 h1
      simp only [Tr.nodes]; omega
theorem outL_nodes (id : Int) : ∀ (ks : List Tr) (y : Tr) (rs : List Tr), outL id ks = some (y, rs) → nodesL rs + y.nodes = nodesL ks
  | [], y, rs, h => by simp [outL] at h
  | k :: ks, y, rs, h => by
    rw [outL] at h
    by_cases hk : k.id = id
    · rw [if_pos hk] at h; simp at h; obtain ⟨rfl, rfl⟩ := h; simp only [nodesL]; omega
    · rw [if_neg hk] at h
      cases h1 : k.out id with
      | some z =>
        obtain ⟨z1, z2⟩ := z
        rw [h1] at h; simp at h; obtain ⟨rfl, rfl⟩ := h
        have := Tr.out_nodes id k z1 z2 h1
        simp only [nodesL]; omega
      | none =>
        rw [h1] at h
        cases h2 : outL id ks with
        | none => rw [h2] at h; cases h
        | some z =>
          obtain ⟨z1, z2⟩ := z
          rw [h2] at h; simp at h; obtain ⟨rfl, rfl⟩ := h
          have := outL_nodes id ks z1 z2 h2
          simp only [nodesL]; omega
end
theorem Tr.at_nodes : ∀ (p : List Nat) (t x : Tr), Tr.at? p t = some x → x.nodes ≤ t.nodes
  | [], t, x, h => by simp [Tr.at?] at h; rw [h]; omega
  | i :: p, t, x, h => by
    simp only [Tr.at?] at h
    cases hk : t.kids[i]? with
    | none => rw [hk] at h; cases h
    | some k =>
      rw [hk] at h
      have h1 := Tr.at_nodes p k x h
      have h2 := nodesL_mem (List.mem_of_getElem? hk)
      rw [Tr.nodes_eq t]; omega
def moveT (t : Tr) (id par pl : Int) : Except Int Tr :=
  match t.path id, t.path par with
  | some p, some _ => if t.id = id then .error 90 else match Tr.at? p t with
    | none => .error 1
    | some x => if (x.path par).isSome then .error 91 else match t.out id with
      | none => .error 1
      | some (y, r) => match r.path par with
        | none => .error 2
        | some q => match Tr.at? q r with
          | none => .error 1
          | some n => if 0 ≤ pl ∧ pl ≤ n.kids.length then .ok (Tr.upd q r { n with kids := insAt n.kids pl.toNat y }) else .error 2
  | _, _ => .error 4
def DoPost (res : Except Int Tr) (g o : Nat) (F : Nat → Prop) (w : World) (e : Ending) (w' : World) : Prop :=
  match res with
  | .error n => e = .returned (.int .i64 n) ∧ Fr g o F w w'
  | .ok t' => e = .returned (.int .i64 0) ∧ Fr g o F w w' ∧ ∃ Fn, MutAt w' g o t' Fn ∧ ∀ y, Fn y → F y ∨ w.heap.size ≤ y
theorem Fr.trans2 {g o : Nat} {F F' : Nat → Prop} {a b c : World} (h : Fr g o F a b) (k : Fr g o F' b c) (hF : ∀ y, F' y → F y ∨ a.heap.size ≤ y) : Fr g o F a c :=
  ⟨k.os.trans h.os, k.tape.trans h.tape, k.output.trans h.output, Nat.le_trans h.size k.size, fun i hi h1 h2 => (k.block i (Nat.lt_of_lt_of_le hi h.size) h1 (fun hf => by rcases hF i hf with h | h; exact h2 h; omega)).trans (h.block i hi h1 h2), fun j hj => (k.cell j hj).trans (h.cell j hj), fun C ty hC => by obtain ⟨C', h1⟩ := h.shape C ty hC; exact k.shape C' ty h1⟩
theorem Fr.same {w : World} {g o : Nat} {F : Nat → Prop} (h : g < w.heap.size) : Fr g o F w w := Fr.of_chg (Chg.refl _ _) h
theorem Fr.at {g o : Nat} {F : Nat → Prop} {w w' : World} (h : Fr g o F w w') {b : Nat} {ob : Obj} (hb : w.heap[b]? = some ob) (h1 : b ≠ g) (h2 : ¬ F b) : w'.heap[b]? = some ob := (h.block b (lt_of_block hb) h1 h2).trans hb
set_option maxHeartbeats 4000000 in
set_option maxRecDepth 100000 in
theorem move_any (t : Tr) (s : Stp) (g o gs : Nat) (F : Nat → Prop) (As : Option Addr) (cs : Nat) (w : World) (hM : MutAt w g o t F) (hs : w.heap[gs]? = some (.cells #[.int .i8 (Stp.op s), .int .i64 (Stp.id s), .int .i64 (Stp.par s), .int .i64 (Stp.place s), .string (Stp.text s), .int .i64 (Stp.sub s).id, .int .i64 (Stp.sub s).kind, .string (Stp.sub s).text, .slice As (Stp.sub s).kids.length cs] 27 (0, 0))) (hgs : gs ≠ g) (hFs : ¬ F gs) (hN : t.nodes ≤ 100000) :
    Calls Try.prog 104 #[.pointer (some ⟨g, o, none⟩), .pointer (some ⟨gs, 0, none⟩)] w (DoPost (moveT t s.id s.par s.place) g o F w) := by
  have s1 : w.cell? ⟨gs, 1, none⟩ = some (.int .i64 s.id) := by simp [World.cell?, hs]
  have s2 : w.cell? ⟨gs, 2, none⟩ = some (.int .i64 s.par) := by simp [World.cell?, hs]
  have s3 : w.cell? ⟨gs, 3, none⟩ = some (.int .i64 s.place) := by simp [World.cell?, hs]
  have hg := hM.glt
  have hA := hM.toAt
  cases hp : t.path s.id with
  | none =>
    have hc := find_none hA hp
    have HP := Lib.hid (And.intro hc hp)
    clear hc hp hM hs hA
    go_enter Try.func104, Try.ntmps104
    go_wp2_with (go_at_call 102; refine HP.out.1.mono ?_; rintro e X ⟨rfl, rfl⟩)
    go_ret
    unfold DoPost moveT
    rw [HP.out.2]
    exact ⟨rfl, Fr.same hg⟩
  | some p =>
    cases hq : t.path s.par with
    | none =>
      have hc := find_some hA hp
      have hc2 := find_none hA hq
      have HP := Lib.hid (And.intro hc (And.intro hc2 (And.intro hp hq)))
      clear hc hc2 hp hq hM hs hA
      go_enter Try.func104, Try.ntmps104
      go_wp2_with fail
      refine HP.out.1.mono ?_
      rintro e X ⟨g', o', rfl, hn, rfl⟩
      clear hn
      go_wp2_with fail
      refine HP.out.2.1.mono ?_
      rintro e X ⟨rfl, rfl⟩
      go_wp2
      go_ret
      unfold DoPost moveT
      rw [HP.out.2.2.1, HP.out.2.2.2]
      exact ⟨rfl, Fr.same hg⟩
    | some p2 =>
      have hc := find_some hA hp
      have hc2 := find_some hA hq
      obtain ⟨A, c, d0, _⟩ := hA.cells
      by_cases hroot : t.id = s.id
      · have hb : (t.id == s.id) = true := by simpa using hroot
        have HP := Lib.hid (And.intro hc (And.intro hc2 (And.intro hp (And.intro hq hroot))))
        clear hc hc2 hp hq hM hs hA hroot
        go_enter Try.func104, Try.ntmps104
        go_wp2_with fail
        refine HP.out.1.mono ?_
        rintro e X ⟨g', o', rfl, hn, rfl⟩
        clear hn
        go_wp2_with fail
        refine HP.out.2.1.mono ?_
        rintro e X ⟨g2, o2, rfl, hn, rfl⟩
        clear hn
        go_wp2_with fail
        go_quiet (fail)
        go_wp2
        go_ret
        unfold DoPost moveT
        rw [HP.out.2.2.1, HP.out.2.2.2.1]
        simp only [HP.out.2.2.2.2, if_true]
        exact ⟨rfl, Fr.of_chg ((Chg.refl _ _).drewN _) hg⟩
      · have hb : (t.id == s.id) = false := by simpa using hroot
        obtain ⟨x, hx, _⟩ := Tr.path_at s.id t p hp
        have HP := Lib.hid (And.intro hc (And.intro hc2 (And.intro hp (And.intro hq (And.intro hroot (And.intro hx (And.intro hM hs)))))))
        clear hc hc2 hp hq hM hs hA hx hroot
        go_enter Try.func104, Try.ntmps104
        go_wp2_with fail
        refine HP.out.1.mono ?_
        rintro e X ⟨g', o', rfl, hn, rfl⟩
        have HN := Lib.hid hn
        clear hn
        go_wp2_with fail
        refine HP.out.2.1.mono ?_
        rintro e X ⟨g2, o2, rfl, hn, rfl⟩
        clear hn
        go_wp2_with fail
        go_quiet (fail)
        obtain ⟨X, hXe⟩ : ∃ X, X = w.drewN nq := ⟨_, rfl⟩
        have hX : Chg [] w X := by rw [hXe]; exact (Chg.refl _ _).drewN _
        rw [← hXe]
        clear hXe
        have hMX := HP.out.2.2.2.2.2.2.1.kept hX (by simp) (by simp)
        have hsX := hX.at HP.out.2.2.2.2.2.2.2 (by simp)
        obtain ⟨F', hMf, _⟩ := HP.out.2.2.2.2.2.2.1.focus HN.out HP.out.2.2.2.2.2.1
        have hAx := (hMf.kept hX (by simp) (by simp)).toAt
        have x1 := hX.cell s1 (by simp)
        have x2 := hX.cell s2 (by simp)
        cases hl : x.path s.par with
        | some p3 =>
          have hc := find_some hAx hl
          have HC := Lib.hid (And.intro hc (And.intro hl hX))
          clear hc hl hX hMX hsX hMf hAx
          go_wp2_with fail
          refine HC.out.1.mono ?_
          rintro e X' ⟨g3, o3, rfl, hn, rfl⟩
          clear hn
          go_wp2
          go_ret
          unfold DoPost moveT
          rw [HP.out.2.2.1, HP.out.2.2.2.1]
          simp only [HP.out.2.2.2.2.1, if_false, HP.out.2.2.2.2.2.1, HC.out.2.1, Option.isSome_some, if_true]
          exact ⟨rfl, Fr.of_chg HC.out.2.2 hg⟩
        | none =>
          have hc := find_none hAx hl
          have hout := Tr.path_out s.id t (by rw [HP.out.2.2.1]; rfl) HP.out.2.2.2.2.1
          cases ho : t.out s.id with
          | none => rw [ho] at hout; cases hout
          | some yr =>
            obtain ⟨y, r⟩ := yr
            have ht := take_any s.id t g o F X hMX hN
            unfold TakePost at ht
            rw [ho] at ht
            have hrn := Tr.out_nodes s.id t y r ho
            have HC := Lib.hid (And.intro hc (And.intro ht (And.intro hl (And.intro hX (And.intro hsX (And.intro hMX (And.intro ho hrn)))))))
            clear hc ht hl hX hMX hsX hMf hAx ho hout hrn
            go_wp2_with fail
            refine HC.out.1.mono ?_
            rintro e X' ⟨rfl, rfl⟩
            go_wp2_with (go_at_call 103; refine HC.out.2.1.mono ?_; rintro e Y ⟨Ay, cy, Fx, Ft, rfl, hTy, hMy, hFx, hFt, hfr⟩
                         have HY := Lib.hid (And.intro hTy (And.intro hMy (And.intro hFx (And.intro hFt hfr))))
                         have hsY := hfr.at HC.out.2.2.2.2.1 hgs hFs
                         obtain ⟨Z, hZe⟩ : ∃ Z, Z = Y.alloc (.cells #[.int .i64 (Tr.id y), .int .i64 (Tr.kind y), .string (Tr.text y), .slice Ay (Tr.kids y).length cy] 24) := ⟨_, rfl⟩
                         have hYZ : Chg [] Y Z := by rw [hZe]; exact (Chg.refl _ _).alloc _
                         have hZb : Z.heap[Y.heap.size]? = some (.cells #[.int .i64 (Tr.id y), .int .i64 (Tr.kind y), .string (Tr.text y), .slice Ay (Tr.kids y).length cy] 24 (0, 0)) := by rw [hZe]; exact heap_new _ _ rfl
                         have hsZ := hYZ.at hsY (by simp)
                         have y1 : (Y.alloc (.cells #[.int .i64 (Tr.id y), .int .i64 (Tr.kind y), .string (Tr.text y), .slice Ay (Tr.kids y).length cy] 24)).cell? ⟨gs, 1, none⟩ = some (.int .i64 s.id) := by rw [← hZe]; simp [World.cell?, hsZ]
                         have y2 : (Y.alloc (.cells #[.int .i64 (Tr.id y), .int .i64 (Tr.kind y), .string (Tr.text y), .slice Ay (Tr.kids y).length cy] 24)).cell? ⟨gs, 2, none⟩ = some (.int .i64 s.par) := by rw [← hZe]; simp [World.cell?, hsZ]
                         have HSZ := Lib.hid (And.intro hsZ (And.intro hYZ (And.intro hZb hZe)))
                         clear hsZ hYZ hZb hZe hTy hMy hFx hFt hfr hsY)
            rw [← HSZ.out.2.2.2]
            clear y1 y2
            have z2 : Z.cell? ⟨gs, 2, none⟩ = some (.int .i64 s.par) := by simp [World.cell?, HSZ.out.1]
            have z3 : Z.cell? ⟨gs, 3, none⟩ = some (.int .i64 s.place) := by simp [World.cell?, HSZ.out.1]
            have hMZ := HY.out.2.1.kept HSZ.out.2.1 (by simp) (by simp)
            have hfrZ : Fr g o F w Z := (Fr.of_chg HC.out.2.2.2.1 hg).trans (HY.out.2.2.2.2.trans (Fr.of_chg HSZ.out.2.1 HY.out.2.1.glt))
            have hmv : moveT t s.id s.par s.place = match r.path s.par with | none => .error 2 | some q => match Tr.at? q r with | none => .error 1 | some n => if 0 ≤ s.place ∧ s.place ≤ n.kids.length then .ok (Tr.upd q r { n with kids := insAt n.kids s.place.toNat y }) else .error 2 := by
              unfold moveT
              rw [HP.out.2.2.1, HP.out.2.2.2.1]
              simp only [HP.out.2.2.2.2.1, if_false, HP.out.2.2.2.2.2.1, HC.out.2.2.1, Option.isSome_none, Bool.false_eq_true, HC.out.2.2.2.2.2.2.1]
            cases hq : r.path s.par with
            | none =>
              rw [hq] at hmv
              have hc := find_none hMZ.toAt hq
              have HD := Lib.hid (And.intro hc (And.intro hmv hfrZ))
              clear hc hmv hfrZ hMZ hq
              refine HD.out.1.mono ?_
              rintro e X' ⟨rfl, rfl⟩
              go_wp2_with fail
              go_quiet (fail)
              go_wp2
              go_ret
              unfold DoPost
              rw [HD.out.2.1]
              exact ⟨rfl, HD.out.2.2.trans (Fr.of_chg ((Chg.refl _ _).drewN _) (Nat.lt_of_lt_of_le hg HD.out.2.2.size))⟩
            | some q =>
              obtain ⟨n, hn, _⟩ := Tr.path_at s.par r q hq
              rw [hq] at hmv
              simp only [hn] at hmv
              have hc := find_some hMZ.toAt hq
              have hnn := Tr.at_nodes q r n hn
              have HD := Lib.hid (And.intro hc (And.intro hmv (And.intro hfrZ (And.intro hMZ (And.intro hn hnn)))))
              clear hc hmv hfrZ hMZ hq hn hnn
              refine HD.out.1.mono ?_
              rintro e X' ⟨g5, o5, rfl, hnode, rfl⟩
              obtain ⟨F5, hM5, hF5, hg5, hset⟩ := HD.out.2.2.2.1.focus hnode HD.out.2.2.2.2.1
              obtain ⟨A5, c5, n0, n1, n2, n3, hl5, hm5, _⟩ := hM5.toAt.cells
              have HF := Lib.hid (And.intro hM5 (And.intro hF5 (And.intro hg5 hset)))
              clear hM5 hF5 hg5 hset hnode n0 n1 n2
              by_cases hneg : s.place < 0
              · have b1 : decide (s.place < 0) = true := by simpa using hneg
                have HNg := Lib.hid hneg
                clear hneg
                go_wp2_with fail
                go_quiet (fail)
                go_wp2
                go_ret
                unfold DoPost
                rw [HD.out.2.1, if_neg (fun h => by have := HNg.out; omega)]
                exact ⟨rfl, HD.out.2.2.1.trans (Fr.of_chg ((Chg.refl _ _).drewN _) (Nat.lt_of_lt_of_le hg HD.out.2.2.1.size))⟩
              · have b1 : decide (s.place < 0) = false := by simpa using hneg
                by_cases hbig : (n.kids.length : Int) < s.place
                · have b2 : decide ((n.kids.length : Int) < s.place) = true := by simpa using hbig
                  have HNg := Lib.hid hbig
                  clear hneg hbig
                  go_wp2_with fail
                  go_quiet (fail)
                  go_wp2
                  go_ret
                  unfold DoPost
                  rw [HD.out.2.1, if_neg (fun h => by have := HNg.out; omega)]
                  exact ⟨rfl, HD.out.2.2.1.trans (Fr.of_chg ((Chg.refl _ _).drewN _) (Nat.lt_of_lt_of_le hg HD.out.2.2.1.size))⟩
                · have b2 : decide ((n.kids.length : Int) < s.place) = false := by simpa using hbig
                  go_wp2_with fail
                  go_quiet (fail)
                  obtain ⟨V, hVe⟩ : ∃ V, V = Z.drewN nq := ⟨_, rfl⟩
                  have hZV : Chg [] Z V := by rw [hVe]; exact (Chg.refl _ _).drewN _
                  rw [← hVe]
                  obtain ⟨pl, hpl⟩ : ∃ pl : Nat, s.place = pl := ⟨s.place.toNat, by omega⟩
                  have hpn : pl ≤ n.kids.length := by omega
                  have hif : (0 ≤ s.place ∧ s.place ≤ n.kids.length) := ⟨hneg, hbig⟩
                  have hplt : s.place.toNat = pl := by omega
                  have v3 : V.cell? ⟨gs, 3, none⟩ = some (.int .i64 (pl : Int)) := by rw [← hpl]; exact hZV.cell z3 (by simp)
                  have hyV : V.rangeAt Y.heap.size 0 [.int .i64 (Tr.id y), .int .i64 (Tr.kind y), .string (Tr.text y), .slice Ay (Tr.kids y).length cy] := range_all (hZV.at HSZ.out.2.2.1 (by simp))
                  have hVd : Chg [] Z V.drew := hZV.drew
                  have hM5 := HF.out.1
                  have hF5 := HF.out.2.1
                  have hFx := HY.out.2.2.1
                  have hyx : ∀ z, Fx z → ¬ F5 z ∧ z ≠ g5 ∧ z < Y.heap.size := fun z hz => by
                    obtain ⟨h1, h2, h3, h4⟩ := hFx z hz
                    refine ⟨fun h => h4 (hF5 z h), fun e => ?_, h2⟩
                    rcases HF.out.2.2.1 with h | h
                    · exact h3 (e.trans h)
                    · exact h4 (by rw [e]; exact h)
                  have hYV : Chg [] Y V.drew := HSZ.out.2.1.trans hVd
                  have hc5 := put_any n y pl g5 o5 F5 Fx Ay cy V.drew (hM5.kept hVd (by simp) (by simp)) (HY.out.1.kept hYV (by simp)) (fun z hz => ⟨(hyx z hz).1, (hyx z hz).2.1, Nat.lt_of_lt_of_le (hyx z hz).2.2 hYV.size⟩) hpn (by have := nodesL_len n.kids; have := n.nodes_eq; have := HD.out.2.2.2.2.2; have := HC.out.2.2.2.2.2.2.2; omega)
                  have HE := Lib.hid (And.intro hc5 (And.intro hVd (And.intro hyV (And.intro hif hplt))))
                  clear hVe hZV hpl hpn hif hplt hyV hVd hM5 hF5 hFx hyx hYV hc5 hneg hbig
                  go_wp2_with fail
                  refine wp_region_M (fun _ => True) (fun k => [6].contains k) (fun k => [6].contains k) (by kernel_rfl) ?_
                  ((try dsimp only); (try simp only [Act.put, List.setIfInBounds_toArray, List.set_cons_zero, List.set_cons_succ]))
                  refine M_pure (i := 0) (v := ?_) rfl (by kernel_rfl) (by kernel_rfl) (by kernel_rfl) (fun _ _ _ h => h) (by rfl) ?hy ?_; (case hy => (intro w; go_simp; with_reducible rfl)); ((try dsimp only); (try simp only [Act.put, List.setIfInBounds_toArray, List.set_cons_zero, List.set_cons_succ]))
                  refine M_pure (i := 1) (v := ?_) rfl (by kernel_rfl) (by kernel_rfl) (by kernel_rfl) (fun _ _ _ h => h) (by rfl) ?hy ?_; (case hy => (intro w; go_simp; with_reducible rfl)); ((try dsimp only); (try simp only [Act.put, List.setIfInBounds_toArray, List.set_cons_zero, List.set_cons_succ]))
                  refine M_pure (i := 2) (v := ?_) rfl (by kernel_rfl) (by kernel_rfl) (by kernel_rfl) (fun _ _ _ h => h) (by rfl) ?hy ?_; (case hy => (intro w; go_simp; with_reducible rfl)); ((try dsimp only); (try simp only [Act.put, List.setIfInBounds_toArray, List.set_cons_zero, List.set_cons_succ]))
                  refine M_pure (i := 3) (v := ?_) rfl (by kernel_rfl) (by kernel_rfl) (by kernel_rfl) (fun _ _ _ h => h) (by rfl) ?hy ?_; (case hy => (intro w; go_simp; with_reducible rfl)); ((try dsimp only); (try simp only [Act.put, List.setIfInBounds_toArray, List.set_cons_zero, List.set_cons_succ]))
                  refine M_take (i := 4) (v := ?_) rfl (by kernel_rfl) (by kernel_rfl) (by kernel_rfl) (by kernel_rfl) (fun _ _ _ h => h) (by rfl) ?hy ?_; (case hy => (go_simp; with_reducible rfl)); ((try dsimp only); (try simp only [Act.put, List.setIfInBounds_toArray, List.set_cons_zero, List.set_cons_succ]))
                  refine M_take (i := 5) rfl (by kernel_rfl) (by kernel_rfl) (by kernel_rfl) (by kernel_rfl) (fun _ _ _ h => h) (by rfl) (exec_load_mid 24 (.tmp 6) rfl Y.heap.size 0 rfl _ _ (w := V.drew) HE.out.2.2.1 Try.underlying24 rfl szNode) ?_; ((try dsimp only); (try simp only [Act.put, List.setIfInBounds_toArray, List.set_cons_zero, List.set_cons_succ]))
                  refine M_brk (i := 6) rfl (by kernel_rfl) (by rfl) (by rfl) ?_
                  go_wp2_with (go_at_call 132; refine HE.out.1.mono ?_; rintro e U ⟨Ft2, rfl, hMU, hFt2, hfrU⟩; have HU := Lib.hid (And.intro hMU (And.intro hFt2 hfrU)); clear hMU hFt2 hfrU)
                  refine M_done (by kernel_rfl) ?_ _
                  go_wp2
                  go_ret
                  have hXs := HC.out.2.2.2.1.size
                  have hYs := HY.out.2.2.2.2.size
                  have hZs := HSZ.out.2.1.size
                  have hVs := HE.out.2.1.size
                  have hFt := HY.out.2.2.2.1
                  have hMt := HY.out.2.1
                  obtain ⟨Fn, k1, k2, k3⟩ := HF.out.2.2.2 U _ Ft2 ((Fr.of_chg HE.out.2.1 HF.out.1.glt).trans HU.out.2.2) HU.out.1 (fun z hz => by
                    rcases HU.out.2.1 z hz with h | h | h
                    · exact .inl h
                    · obtain ⟨_, _, h3, h4⟩ := HY.out.2.2.1 z h
                      exact .inr ⟨h4, h3⟩
                    · exact .inr ⟨fun h' => by have := hMt.lt z h'; omega, fun e => by have := hMt.glt; omega⟩)
                  unfold DoPost
                  rw [HD.out.2.1, if_pos HE.out.2.2.2.1, HE.out.2.2.2.2]
                  refine ⟨rfl, HD.out.2.2.1.trans2 k2 (fun z hz => ?_), Fn, k1, fun z hz => ?_⟩
                  · rcases hFt z hz with h | h
                    · exact .inl h
                    · exact .inr (by omega)
                  · have old : Ft z → F z ∨ w.heap.size ≤ z := fun h => by
                      rcases hFt z h with h | h
                      · exact .inl h
                      · exact .inr (by omega)
                    rcases k3 z hz with h | h
                    · exact old h
                    · rcases HU.out.2.1 z h with h | h | h
                      · exact old (HF.out.2.1 z h)
                      · rcases (HY.out.2.2.1 z h).1 with h | h
                        · exact .inl h
                        · exact .inr (by omega)
                      · exact .inr (by omega)
end Go.Proofs.Ytofjocjljbkjgaa
namespace Go.Proofs.Ytofjocjljbkjgaa
open Go.RowKit
def deleteT (t : Tr) (id : Int) : Except Int Tr :=
  match t.path id with
  | none => .error 4
  | some _ => if t.id = id then .error 90 else match t.out id with
    | none => .error 1
    | some (_, r) => .ok r
def textT (t : Tr) (id : Int) (tx : ByteArray) : Except Int Tr :=
  match t.path id with
  | none => .error 4
  | some p => match Tr.at? p t with
    | none => .error 1
    | some n => .ok (Tr.upd p t { n with text := tx })
theorem MutAt.retext {w : World} {g o : Nat} {t : Tr} {F : Nat → Prop} (h : MutAt w g o t F) (tx : ByteArray) (htx : tx.size ≤ 9223372036854775807) :
    MutAt (w.setCell ⟨g, o + 2, none⟩ (.string tx)) g o { t with text := tx } F ∧ Fr g o F w (w.setCell ⟨g, o + 2, none⟩ (.string tx)) := by
  have hfr : Fr g o F w (w.setCell ⟨g, o + 2, none⟩ (.string tx)) := Fr.set _ ⟨by omega, by omega⟩
  have hc : Chg [g] w (w.setCell ⟨g, o + 2, none⟩ (.string tx)) := (Chg.refl _ _).setCell _ _ (by simp)
  obtain ⟨⟨cs, hr, hT⟩, hn, ⟨C, ty, hb⟩, hlt⟩ := h
  have hT' := hT.kept hc (fun x hx => by simp; exact fun e => hn (by rw [← e]; exact hx))
  obtain ⟨A, c, rfl, _, hK⟩ := hT'.kidsV
  obtain ⟨C', hC'⟩ := hfr.shape C ty hb
  have h2 : C[o + 2]? = some (.string t.text) := by
    have := hr 2 _ rfl
    simpa [World.cell?, hb] using this
  have hs2 := heap_setCell_same w g (o + 2) C ty (.string tx) hb
  refine ⟨⟨⟨[.int .i64 t.id, .int .i64 t.kind, .string tx, .slice A t.kids.length c], fun j v hv => ?_, hK.close { t with text := tx } htx⟩, hn, ⟨C', ty, hC'⟩, fun x hx => Nat.lt_of_lt_of_le (hlt x hx) hfr.size⟩, hfr⟩
  have cell : ∀ j v, w.cell? ⟨g, o + j, none⟩ = some v → j ≠ 2 → (w.setCell ⟨g, o + 2, none⟩ (.string tx)).cell? ⟨g, o + j, none⟩ = some v := fun j v h hj => by
    simp only [World.cell?, hb, hs2, Option.isSome_none, Bool.false_eq_true, if_false] at h ⊢
    rw [Array.getElem?_setIfInBounds, if_neg (by omega)]; exact h
  match j, hv with
  | 0, hv => exact cell 0 v (by cases hv; exact hr 0 _ rfl) (by omega)
  | 1, hv => exact cell 1 v (by cases hv; exact hr 1 _ rfl) (by omega)
  | 2, hv =>
    simp only [World.cell?, hs2, Option.isSome_none, Bool.false_eq_true, if_false]
    rw [Array.getElem?_setIfInBounds_self_of_lt (Array.getElem?_eq_some_iff.1 h2).1]
    simpa using hv
  | 3, hv => exact cell 3 v (by cases hv; exact hr 3 _ rfl) (by omega)
  | j + 4, hv => simp at hv
set_option maxHeartbeats 4000000 in
set_option maxRecDepth 100000 in
theorem delete_any9 (t : Tr) (s : Stp) (g o gs : Nat) (F : Nat → Prop) (As : Option Addr) (cs : Nat) (w : World) (hM : MutAt w g o t F) (hs : w.heap[gs]? = some (.cells #[.int .i8 (Stp.op s), .int .i64 (Stp.id s), .int .i64 (Stp.par s), .int .i64 (Stp.place s), .string (Stp.text s), .int .i64 (Stp.sub s).id, .int .i64 (Stp.sub s).kind, .string (Stp.sub s).text, .slice As (Stp.sub s).kids.length cs] 27 (0, 0))) (hN : t.nodes ≤ 100000) :
    Calls Try.prog 101 #[.pointer (some ⟨g, o, none⟩), .pointer (some ⟨gs, 0, none⟩)] w (DoPost (deleteT t s.id) g o F w) := by
  have s1 : w.cell? ⟨gs, 1, none⟩ = some (.int .i64 s.id) := by simp [World.cell?, hs]
  have hg := hM.glt
  have hA := hM.toAt
  cases hp : t.path s.id with
  | none =>
    have hc := find_none hA hp
    have HP := Lib.hid (And.intro hc hp)
    clear hc hp hM hs hA
    go_enter Try.func101, Try.ntmps101
    go_wp2_with (go_at_call 102; refine HP.out.1.mono ?_; rintro e X ⟨rfl, rfl⟩)
    go_ret
    unfold DoPost deleteT
    rw [HP.out.2]
    exact ⟨rfl, Fr.same hg⟩
  | some p =>
    have hc := find_some hA hp
    obtain ⟨A, c, d0, _⟩ := hA.cells
    by_cases hroot : t.id = s.id
    · have hb : (t.id == s.id) = true := by simpa using hroot
      have HP := Lib.hid (And.intro hc (And.intro hp hroot))
      clear hc hp hM hs hA hroot
      go_enter Try.func101, Try.ntmps101
      go_wp2_with fail
      refine HP.out.1.mono ?_
      rintro e X ⟨g', o', rfl, hn, rfl⟩
      clear hn
      go_wp2_with fail
      go_quiet (fail)
      go_wp2
      go_ret
      unfold DoPost deleteT
      rw [HP.out.2.1]
      simp only [HP.out.2.2, if_true]
      exact ⟨rfl, Fr.of_chg ((Chg.refl _ _).drewN _) hg⟩
    · have hb : (t.id == s.id) = false := by simpa using hroot
      have hout := Tr.path_out s.id t (by rw [hp]; rfl) hroot
      cases ho : t.out s.id with
      | none => rw [ho] at hout; cases hout
      | some yr =>
        obtain ⟨y, r⟩ := yr
        have HP := Lib.hid (And.intro hc (And.intro hp (And.intro hroot (And.intro hM (And.intro hs ho)))))
        clear hc hp hM hs hA hroot ho hout
        go_enter Try.func101, Try.ntmps101
        go_wp2_with fail
        refine HP.out.1.mono ?_
        rintro e X ⟨g', o', rfl, hn, rfl⟩
        clear hn
        go_wp2_with fail
        go_quiet (fail)
        obtain ⟨X, hXe⟩ : ∃ X, X = w.drewN nq := ⟨_, rfl⟩
        have hX : Chg [] w X := by rw [hXe]; exact (Chg.refl _ _).drewN _
        rw [← hXe]
        clear hXe
        have x1 := hX.cell s1 (by simp)
        have ht := take_any s.id t g o F X (HP.out.2.2.2.1.kept hX (by simp) (by simp)) hN
        unfold TakePost at ht
        rw [HP.out.2.2.2.2.2] at ht
        have HT := Lib.hid (And.intro ht hX)
        clear ht hX s1 d0
        go_wp2_with fail
        refine HT.out.1.mono ?_
        rintro e Y ⟨Ay, cy, Fx, Ft, rfl, hTy, hMy, hFx, hFt, hfr⟩
        have HY := Lib.hid (And.intro hMy (And.intro hFt hfr))
        clear hTy hMy hFx hFt hfr
        go_wp2
        go_ret
        unfold DoPost deleteT
        rw [HP.out.2.1]
        simp only [HP.out.2.2.1, if_false, HP.out.2.2.2.2.2]
        refine ⟨rfl, (Fr.of_chg HT.out.2 hg).trans HY.out.2.2, Ft, HY.out.1, fun z hz => ?_⟩
        have := HT.out.2.size
        rcases HY.out.2.1 z hz with h | h
        · exact .inl h
        · exact .inr (by omega)
set_option maxHeartbeats 4000000 in
set_option maxRecDepth 100000 in
theorem text_any9 (t : Tr) (s : Stp) (g o gs : Nat) (F : Nat → Prop) (As : Option Addr) (cs : Nat) (w : World) (hM : MutAt w g o t F) (hs : w.heap[gs]? = some (.cells #[.int .i8 (Stp.op s), .int .i64 (Stp.id s), .int .i64 (Stp.par s), .int .i64 (Stp.place s), .string (Stp.text s), .int .i64 (Stp.sub s).id, .int .i64 (Stp.sub s).kind, .string (Stp.sub s).text, .slice As (Stp.sub s).kids.length cs] 27 (0, 0))) (hx : s.text.size ≤ 9223372036854775807) :
    Calls Try.prog 105 #[.pointer (some ⟨g, o, none⟩), .pointer (some ⟨gs, 0, none⟩)] w (DoPost (textT t s.id s.text) g o F w) := by
  have s1 : w.cell? ⟨gs, 1, none⟩ = some (.int .i64 s.id) := by simp [World.cell?, hs]
  have s4 : w.cell? ⟨gs, 4, none⟩ = some (.string s.text) := by simp [World.cell?, hs]
  have hg := hM.glt
  have hA := hM.toAt
  cases hp : t.path s.id with
  | none =>
    have hc := find_none hA hp
    have HP := Lib.hid (And.intro hc hp)
    clear hc hp hM hs hA
    go_enter Try.func105, Try.ntmps105
    go_wp2_with (go_at_call 102; refine HP.out.1.mono ?_; rintro e X ⟨rfl, rfl⟩)
    go_ret
    unfold DoPost textT
    rw [HP.out.2]
    exact ⟨rfl, Fr.same hg⟩
  | some p =>
    have hc := find_some hA hp
    obtain ⟨n, hn, _⟩ := Tr.path_at s.id t p hp
    have HP := Lib.hid (And.intro hc (And.intro hp (And.intro hn hM)))
    clear hc hp hn hM hs hA
    go_enter Try.func105, Try.ntmps105
    go_wp2_with fail
    refine HP.out.1.mono ?_
    rintro e X ⟨g', o', rfl, hnode, rfl⟩
    obtain ⟨F', hMf, hF', _, hset⟩ := HP.out.2.2.2.focus hnode HP.out.2.2.1
    obtain ⟨C, ty, hb⟩ := hMf.blk
    obtain ⟨A', c', r2, _⟩ := hMf.open
    have d2 := r2 2 _ rfl
    have f2 : w.frozen? ⟨g', o' + 2, none⟩ = false := blkF hb (o' + 2)
    obtain ⟨h1, h2⟩ := hMf.retext s.text hx
    obtain ⟨Fn, k1, k2, k3⟩ := hset _ _ F' h2 h1 (fun y hy => .inl hy)
    have HF := Lib.hid (And.intro k1 (And.intro k2 (fun y hy => (k3 y hy).elim id (hF' y))))
    clear hMf hF' hset hb r2 h1 h2 k1 k2 k3 hnode
    go_wp2
    go_ret
    unfold DoPost textT
    rw [HP.out.2.1]
    simp only [HP.out.2.2.1]
    exact ⟨rfl, HF.out.2.1, Fn, HF.out.1, fun y hy => .inl (HF.out.2.2 y hy)⟩
end Go.Proofs.Ytofjocjljbkjgaa
namespace Go.Proofs.Ytofjocjljbkjgaa
open Go.RowKit
theorem moveT_ne {t : Tr} {id par pl n : Int} (h : moveT t id par pl = .error n) : n ≠ 0 := by
  unfold moveT at h
  repeat (first | (split at h) | (injection h with h; omega) | (cases h))
def waysV : Array Value := #[.nilFunc, .func (.func 100) #[] #[], .func (.func 101) #[] #[], .func (.func 104) #[] #[], .func (.func 105) #[] #[]]
theorem szAR : (Try.prog.info? 100).map (·.size) = some 5 := by kernel_rfl
theorem ways_any (w : World) : Calls Try.prog 55 #[] w fun e w' => e = .returned (.agg waysV) ∧ Chg [] w w' := by
  go_enter Try.func55, Try.ntmps55
  go_wp2
  refine bodyPost_ret (v := .agg waysV) (results_cell_row rfl _ _ w.heap.size _ _ _ _ rfl (heap_new _ _ rfl) Try.underlying100 rfl szAR) rfl ⟨rfl, (by with_reducible repeat (first | exact Chg.refl _ _ | apply Chg.alloc | apply Chg.drew | apply Chg.drewN | (refine Chg.setCell ?_ _ _ (by simp))))⟩
def ApplyPost (res : Except Int Tr) (w : World) (e : Ending) (w' : World) : Prop :=
  match res with
  | .error n => e = .returned (.tuple #[.agg #[.int .i64 0, .int .i64 0, .string ⟨#[]⟩, .slice none 0 0], .int .i64 n]) ∧ Chg [] w w'
  | .ok t' => ∃ A c, e = .returned (.tuple #[.agg #[.int .i64 (Tr.id t'), .int .i64 (Tr.kind t'), .string (Tr.text t'), .slice A (Tr.kids t').length c], .int .i64 0]) ∧ TrV w' t' [.int .i64 (Tr.id t'), .int .i64 (Tr.kind t'), .string (Tr.text t'), .slice A (Tr.kids t').length c] (fun b => w.heap.size ≤ b ∧ b < w'.heap.size) ∧ Chg [] w w'
def applyMove (t : Tr) (id par pl : Int) (sub : Tr) : Except Int Tr := if t.nodes ≤ 2000 ∧ sub.nodes ≤ 2000 then moveT t id par pl else .error 2
end Go.Proofs.Ytofjocjljbkjgaa
namespace Go.Proofs.Ytofjocjljbkjgaa
open Go.RowKit
theorem text_inj {a b : ByteArray} (h : a.toList = b.toList) : a = b := Go.WideShapes.bytes_inj (by rw [← ByteArray.toList_eq, ← ByteArray.toList_eq]; exact h)
theorem Tr.ext_of {a b : Tr} (h1 : a.id = b.id) (h2 : a.kind = b.kind) (h3 : a.text = b.text) (h4 : a.kids = b.kids) : a = b := by cases a; cases b; simp_all
def SamePost (a b : Tr) (w : World) (e : Ending) (w' : World) : Prop := ∃ r : Bool, e = .returned (.bool r) ∧ (r = true ↔ a = b) ∧ Chg [] w w'
theorem SamePost.no {a b : Tr} {w w' : World} (h : a ≠ b) (hc : Chg [] w w') : SamePost a b w (.returned (.bool false)) w' := ⟨false, rfl, by simp [h], hc⟩
structure Both (w wr : World) (ca cb : Array Value) : Prop where
  a : wr.heap[w.heap.size]? = some (.cells ca 24 (0, 0))
  b : wr.heap[w.heap.size + 1]? = some (.cells cb 24 (0, 0))
  chg : Chg [] w wr
set_option maxHeartbeats 4000000 in
set_option maxRecDepth 100000 in
theorem same_any : ∀ (a b : Tr) (A : Option Addr) (c : Nat) (B : Option Addr) (d : Nat) (w : World), TrC (fun _ => True) w a [.int .i64 (Tr.id a), .int .i64 (Tr.kind a), .string (Tr.text a), .slice A (Tr.kids a).length c] → TrC (fun _ => True) w b [.int .i64 (Tr.id b), .int .i64 (Tr.kind b), .string (Tr.text b), .slice B (Tr.kids b).length d] → Calls Try.prog 20 #[.agg #[.int .i64 (Tr.id a), .int .i64 (Tr.kind a), .string (Tr.text a), .slice A (Tr.kids a).length c], .agg #[.int .i64 (Tr.id b), .int .i64 (Tr.kind b), .string (Tr.text b), .slice B (Tr.kids b).length d]] w (SamePost a b w) := by
  intro a
  induction a using Tr.ind with
  | h a ih =>
  intro b A c B d w hA hB
  obtain ⟨A', c', hcs, hlc, hcm, htx, hKA⟩ := hA.opens
  simp only [List.cons.injEq, Value.slice.injEq, true_and, and_true] at hcs
  obtain ⟨rfl, rfl⟩ := hcs
  obtain ⟨B', d', hcs, hld, hdm, hty, hKB⟩ := hB.opens
  simp only [List.cons.injEq, Value.slice.injEq, true_and, and_true] at hcs
  obtain ⟨rfl, rfl⟩ := hcs
  have HH := Lib.hid (And.intro ih (And.intro hKA hKB))
  clear ih hA hB hKA hKB
  by_cases h1 : a.id = b.id
  · have e1' : (a.id != b.id) = false := by simpa using h1
    by_cases h2 : a.kind = b.kind
    · have e2' : (a.kind != b.kind) = false := by simpa using h2
      by_cases h3 : a.text.toList = b.text.toList
      · have e3' : (a.text.toList != b.text.toList) = false := by simpa using h3
        by_cases h4 : a.kids.length = b.kids.length
        · have HE := Lib.hid (And.intro h1 (And.intro h2 (And.intro h3 h4)))
          have hAB := (And.intro hlc (And.intro hcm (And.intro hld hdm)))
          clear h1 h2
          have e4' : ((a.kids.length : Int) != (b.kids.length : Int)) = false := by simp; omega
          clear h4
          go_enter Try.func20, Try.ntmps20
          go_wp2_with fail
          clear e1' e2' e3' e4' h3 hAB
          go_loopw [5] (fun i wr => ∃ k : Nat, k ≤ a.kids.length ∧ i = .int .i64 k ∧ Hid (Both w wr #[.int .i64 a.id, .int .i64 a.kind, .string a.text, .slice A a.kids.length c] #[.int .i64 b.id, .int .i64 b.kind, .string b.text, .slice B b.kids.length d] ∧ ∀ j, j < k → a.kids[j]? = b.kids[j]?)) (fun i _ => a.kids.length - (intOf i).toNat)
          case atStart => exact ⟨0, Nat.zero_le _, rfl, ⟨heap_old (heap_new _ _ rfl) _, heap_new _ _ (by simp), (by with_reducible repeat (first | exact Chg.refl _ _ | apply Chg.alloc | apply Chg.drew | apply Chg.drewN | (refine Chg.setCell ?_ _ _ (by simp))))⟩, fun j hj => by omega⟩
          case round =>
            obtain ⟨k, hk, rfl, H⟩ := hrel
            obtain ⟨p0, p1, p2, p3⟩ := blk4 H.out.1.a
            obtain ⟨q0, q1, q2, q3⟩ := blk4 H.out.1.b
            by_cases hlt : k < a.kids.length
            · have hltb : k < b.kids.length := by have := HE.out.2.2.2; omega
              obtain ⟨ga, oa, csa, rfl, _, hra, hta⟩ := HH.out.2.1 k _ (List.getElem?_eq_getElem hlt)
              obtain ⟨gb, ob, csb, rfl, _, hrb, htb⟩ := HH.out.2.2 k _ (List.getElem?_eq_getElem hltb)
              obtain ⟨Ak, ck, rfl, _⟩ := hta.opens
              obtain ⟨Bk, dk, rfl, _⟩ := htb.opens
              have hra' := H.out.1.chg.range hra (by simp)
              have hrb' := H.out.1.chg.range hrb (by simp)
              have hcall := HH.out.1 _ (List.getElem_mem hlt) (b.kids[k]) Ak ck Bk dk wr.drew (hta.kept H.out.1.chg.drew (by simp)) (htb.kept H.out.1.chg.drew (by simp))
              have HC := Lib.hid hcall
              have HR := Lib.hid (And.intro hra' hrb')
              clear hcall hra hrb hta htb hra' hrb'
              go_wp2_with fail
              refine wp_region_M (fun _ => True) (fun k => [10].contains k) (fun k => [10].contains k) (by kernel_rfl) ?_
              ((try dsimp only); (try simp only [Act.put, List.setIfInBounds_toArray, List.set_cons_zero, List.set_cons_succ]))
              refine M_pure (i := 0) (v := ?_) rfl (by kernel_rfl) (by kernel_rfl) (by kernel_rfl) (fun _ _ _ h => h) (by rfl) ?hy ?_; (case hy => (intro w; go_simp; with_reducible rfl)); ((try dsimp only); (try simp only [Act.put, List.setIfInBounds_toArray, List.set_cons_zero, List.set_cons_succ]))
              refine M_take (i := 1) (v := ?_) rfl (by kernel_rfl) (by kernel_rfl) (by kernel_rfl) (by kernel_rfl) (fun _ _ _ h => h) (by rfl) ?hy ?_; (case hy => (go_simp; with_reducible rfl)); ((try dsimp only); (try simp only [Act.put, List.setIfInBounds_toArray, List.set_cons_zero, List.set_cons_succ]))
              refine M_pure (i := 2) (v := ?_) rfl (by kernel_rfl) (by kernel_rfl) (by kernel_rfl) (fun _ _ _ h => h) (by rfl) ?hy ?_; (case hy => (intro w; go_simp; with_reducible rfl)); ((try dsimp only); (try simp only [Act.put, List.setIfInBounds_toArray, List.set_cons_zero, List.set_cons_succ]))
              refine M_pure (i := 3) (v := ?_) rfl (by kernel_rfl) (by kernel_rfl) (by kernel_rfl) (fun _ _ _ h => h) (by rfl) ?hy ?_; (case hy => (intro w; go_simp; with_reducible rfl)); ((try dsimp only); (try simp only [Act.put, List.setIfInBounds_toArray, List.set_cons_zero, List.set_cons_succ]))
              refine M_take (i := 4) rfl (by kernel_rfl) (by kernel_rfl) (by kernel_rfl) (by kernel_rfl) (fun _ _ _ h => h) (by rfl) (exec_load_mid 24 (.tmp 44) rfl ga (oa + k * 4) rfl _ _ (w := wr.drew) HR.out.1 Try.underlying24 rfl szNode) ?_; ((try dsimp only); (try simp only [Act.put, List.setIfInBounds_toArray, List.set_cons_zero, List.set_cons_succ]))
              refine M_pure (i := 5) (v := ?_) rfl (by kernel_rfl) (by kernel_rfl) (by kernel_rfl) (fun _ _ _ h => h) (by rfl) ?hy ?_; (case hy => (intro w; go_simp; with_reducible rfl)); ((try dsimp only); (try simp only [Act.put, List.setIfInBounds_toArray, List.set_cons_zero, List.set_cons_succ]))
              refine M_take (i := 6) (v := ?_) rfl (by kernel_rfl) (by kernel_rfl) (by kernel_rfl) (by kernel_rfl) (fun _ _ _ h => h) (by rfl) ?hy ?_; (case hy => (go_simp; with_reducible rfl)); ((try dsimp only); (try simp only [Act.put, List.setIfInBounds_toArray, List.set_cons_zero, List.set_cons_succ]))
              refine M_pure (i := 7) (v := ?_) rfl (by kernel_rfl) (by kernel_rfl) (by kernel_rfl) (fun _ _ _ h => h) (by rfl) ?hy ?_; (case hy => (intro w; go_simp; with_reducible rfl)); ((try dsimp only); (try simp only [Act.put, List.setIfInBounds_toArray, List.set_cons_zero, List.set_cons_succ]))
              refine M_pure (i := 8) (v := ?_) rfl (by kernel_rfl) (by kernel_rfl) (by kernel_rfl) (fun _ _ _ h => h) (by rfl) ?hy ?_; (case hy => (intro w; go_simp; with_reducible rfl)); ((try dsimp only); (try simp only [Act.put, List.setIfInBounds_toArray, List.set_cons_zero, List.set_cons_succ]))
              refine M_take (i := 9) rfl (by kernel_rfl) (by kernel_rfl) (by kernel_rfl) (by kernel_rfl) (fun _ _ _ h => h) (by rfl) (exec_load_mid 24 (.tmp 49) rfl gb (ob + k * 4) rfl _ _ (w := wr.drew) HR.out.2 Try.underlying24 rfl szNode) ?_; ((try dsimp only); (try simp only [Act.put, List.setIfInBounds_toArray, List.set_cons_zero, List.set_cons_succ]))
              refine M_brk (i := 10) rfl (by kernel_rfl) (by rfl) (by rfl) ?_
              go_wp2_with (go_at_call 20; refine HC.out.mono ?_; rintro e X ⟨r, rfl, hr, hX⟩; have HX := Lib.hid (And.intro hr hX); clear hr hX)
              ((try dsimp only [EffQ]); (try simp only [Act.put, List.setIfInBounds_toArray, List.set_cons_zero, List.set_cons_succ]))
              refine M_pure (i := 11) (v := ?_) rfl (by kernel_rfl) (by kernel_rfl) (by kernel_rfl) (fun _ _ _ h => h) (by rfl) ?hy ?_; (case hy => (intro w; go_simp; with_reducible rfl)); ((try dsimp only); (try simp only [Act.put, List.setIfInBounds_toArray, List.set_cons_zero, List.set_cons_succ]))
              refine M_done (by kernel_rfl) ?_ _
              cases r with
              | false =>
                go_wp2
                go_ret
                refine SamePost.no (fun e => ?_) (H.out.1.chg.trans ((Chg.drew (Chg.refl _ _)).trans HX.out.2))
                have h0 := HX.out.1
                subst e
                simp at h0
              | true =>
                have hX := (Chg.drew (Chg.refl [] wr)).trans HX.out.2
                have he := HX.out.1.1 rfl
                have HY := Lib.hid (And.intro hX he)
                clear hX he
                go_wp2_with fail
                go_roundw
                case rel => exact ⟨k + 1, by omega, by go_num, ⟨HY.out.1.at H.out.1.a (by simp), HY.out.1.at H.out.1.b (by simp), H.out.1.chg.trans HY.out.1⟩, fun j hj => by
                  rcases Nat.lt_or_ge j k with h | h
                  · exact H.out.2 j h
                  · obtain rfl : j = k := by omega
                    rw [List.getElem?_eq_getElem hlt, List.getElem?_eq_getElem hltb, HY.out.2]⟩
                case measure => simp [intOf]; omega
            · go_wp2
              go_ret
              refine ⟨true, rfl, ⟨fun _ => Tr.ext_of HE.out.1 HE.out.2.1 (text_inj HE.out.2.2.1) (List.ext_getElem? fun j => ?_), fun _ => rfl⟩, H.out.1.chg⟩
              rcases Nat.lt_or_ge j k with h | h
              · exact H.out.2 j h
              · have := HE.out.2.2.2
                rw [List.getElem?_eq_none (by omega), List.getElem?_eq_none (by omega)]
        · have hne : a ≠ b := fun e => h4 (by rw [e])
          have e4' : ((a.kids.length : Int) != (b.kids.length : Int)) = true := by simp; omega
          clear h1 h2 h4
          have HN := Lib.hid hne
          clear hne
          go_enter Try.func20, Try.ntmps20
          go_wp2
          go_ret
          exact SamePost.no HN.out (by with_reducible repeat (first | exact Chg.refl _ _ | apply Chg.alloc | apply Chg.drew | apply Chg.drewN | (refine Chg.setCell ?_ _ _ (by simp))))
      · have hne : a ≠ b := fun e => h3 (by rw [e])
        have e3' : (a.text.toList != b.text.toList) = true := by simpa using h3
        clear h1 h2
        have HN := Lib.hid hne
        clear hne
        go_enter Try.func20, Try.ntmps20
        go_wp2
        go_ret
        exact SamePost.no HN.out (by with_reducible repeat (first | exact Chg.refl _ _ | apply Chg.alloc | apply Chg.drew | apply Chg.drewN | (refine Chg.setCell ?_ _ _ (by simp))))
    · have hne : a ≠ b := fun e => h2 (by rw [e])
      have e2' : (a.kind != b.kind) = true := by simpa using h2
      clear h1 h2
      have HN := Lib.hid hne
      clear hne
      go_enter Try.func20, Try.ntmps20
      go_wp2
      go_ret
      exact SamePost.no HN.out (by with_reducible repeat (first | exact Chg.refl _ _ | apply Chg.alloc | apply Chg.drew | apply Chg.drewN | (refine Chg.setCell ?_ _ _ (by simp))))
  · have hne : a ≠ b := fun e => h1 (by rw [e])
    have e1' : (a.id != b.id) = true := by simpa using h1
    clear h1
    have HN := Lib.hid hne
    clear hne
    go_enter Try.func20, Try.ntmps20
    go_wp2
    go_ret
    exact SamePost.no HN.out (by with_reducible repeat (first | exact Chg.refl _ _ | apply Chg.alloc | apply Chg.drew | apply Chg.drewN | (refine Chg.setCell ?_ _ _ (by simp))))
end Go.Proofs.Ytofjocjljbkjgaa
namespace Go.Proofs.Ytofjocjljbkjgaa
open Go.RowKit
mutual
def Tr.walk : Tr → Int → List (Tr × Int)
  | ⟨i, k, x, ks⟩, d => (⟨i, k, x, ks⟩, d) :: walkL ks (d + 1)
def walkL : List Tr → Int → List (Tr × Int)
  | [], _ => []
  | k :: ks, d => k.walk d ++ walkL ks d
end
theorem Tr.walk_eq (t : Tr) (d : Int) : t.walk d = (t, d) :: walkL t.kids (d + 1) := by cases t; rfl
theorem walkL_append (a b : List Tr) (d : Int) : walkL (a ++ b) d = walkL a d ++ walkL b d := by
  induction a with
  | nil => rfl
  | cons k a ih => simp only [List.cons_append, walkL, ih, List.append_assoc]
mutual
theorem Tr.walk_length : ∀ (t : Tr) (d : Int), (t.walk d).length = t.nodes
  | ⟨_, _, _, ks⟩, d => by simp only [Tr.walk, Tr.nodes, List.length_cons, walkL_length ks (d + 1)]; omega
theorem walkL_length : ∀ (ks : List Tr) (d : Int), (walkL ks d).length = nodesL ks
  | [], _ => rfl
  | k :: ks, d => by simp only [walkL, nodesL, List.length_append, Tr.walk_length k d, walkL_length ks d]
end
def SpotC (ok : Nat → Prop) (w : World) (x : Tr × Int) (cs : List Value) : Prop := ∃ c4, TrC ok w x.1 c4 ∧ cs = c4 ++ [.int .i64 x.2]
theorem SpotC.five {ok : Nat → Prop} {w : World} {x : Tr × Int} {cs : List Value} (h : SpotC ok w x cs) : cs.length = 5 := by
  obtain ⟨c4, h, rfl⟩ := h; simp [h.four]
def RowS (w : World) (B base : Nat) (v : Value) (l : List (Tr × Int)) : Prop :=
  B ≤ base ∧ ∃ css : List (List Value), w.ownsRow base 95 5 v l.length css.flatten ∧ css.length = l.length ∧ ∀ (i : Nat) x cs, l[i]? = some x → css[i]? = some cs → SpotC (fun g => g < B) w x cs
theorem RowS.nil (w : World) {B base : Nat} (h : B ≤ base) : RowS w B base (.slice none 0 0) [] := ⟨h, [], World.ownsRow_nil _ _ _ _, rfl, fun i x cs h => by simp at h⟩
theorem RowS.own {w : World} {B base : Nat} {v : Value} {l : List (Tr × Int)} (h : RowS w B base v l) : ∀ b, v.ownBlock = some b → base ≤ b ∧ b < w.heap.size := by
  obtain ⟨_, css, ho, _⟩ := h; exact ho.lt
theorem RowS.slice {w : World} {B base : Nat} {v : Value} {l : List (Tr × Int)} (h : RowS w B base v l) : ∃ A c, v = .slice A l.length c := by
  obtain ⟨_, css, ho, _⟩ := h; exact own_slice ho
theorem RowS.kept {w w' : World} {B base : Nat} {v : Value} {l : List (Tr × Int)} (h : RowS w B base v l) {c : List Nat} (hc : Chg c w w') (h1 : ∀ b, v.ownBlock = some b → b ∉ c) (h2 : ∀ g, g < B → g ∉ c) : RowS w' B base v l := by
  obtain ⟨hB, css, ho, hl, hk⟩ := h
  exact ⟨hB, css, own_kept ho hc h1, hl, fun i x cs a b => by obtain ⟨c4, h, e⟩ := hk i x cs a b; exact ⟨c4, h.kept hc h2, e⟩⟩
theorem flat_at {n : Nat} : ∀ (css : List (List Value)) (i : Nat) (cs : List Value) (j : Nat) (v : Value), (∀ cs ∈ css, cs.length = n) → css[i]? = some cs → cs[j]? = some v → css.flatten[i * n + j]? = some v
  | [], i, cs, j, v, _, h, _ => by simp at h
  | c :: css, 0, cs, j, v, h, h1, h2 => by
    simp at h1; subst h1
    rw [List.flatten_cons, Nat.zero_mul, Nat.zero_add, List.getElem?_append_left (List.getElem?_eq_some_iff.1 h2).1]; exact h2
  | c :: css, i + 1, cs, j, v, h, h1, h2 => by
    have h4 := h c (by simp)
    rw [List.flatten_cons, List.getElem?_append_right (by rw [h4, Nat.add_mul]; omega), h4, show (i + 1) * n + j - n = i * n + j from by rw [Nat.add_mul]; omega]
    exact flat_at css i cs j v (fun x hx => h x (by simp [hx])) (by simpa using h1) h2
theorem RowS.at {w : World} {B base : Nat} {v : Value} {l : List (Tr × Int)} (h : RowS w B base v l) {i : Nat} (hi : i < l.length) : ∃ g c A cA, v = .slice (some ⟨g, 0, none⟩) l.length c ∧ base ≤ g ∧ TrC (fun g => g < B) w (l[i]).1 [.int .i64 (Tr.id (l[i]).1), .int .i64 (Tr.kind (l[i]).1), .string (Tr.text (l[i]).1), .slice A (Tr.kids (l[i]).1).length cA] ∧ w.rangeAt g (i * 5) [.int .i64 (l[i]).1.id, .int .i64 (l[i]).1.kind, .string (l[i]).1.text, .slice A (l[i]).1.kids.length cA, .int .i64 (l[i]).2] := by
  obtain ⟨hB, css, ho, hl, hk⟩ := h
  have h5 := all4 (ks := l) (n := 5) hl (fun i k cs a b => (hk i k cs a b).five)
  rcases ho.2 with ⟨rfl, h0⟩ | ⟨g, cap, cur, rfl, hb, hg, hn1, hn2, hsz, htk⟩
  · omega
  · obtain ⟨c4, hT, e⟩ := hk i (l[i]) (css[i]'(by omega)) (List.getElem?_eq_getElem _) (List.getElem?_eq_getElem _)
    obtain ⟨A, cA, rfl, _⟩ := hT.opens
    refine ⟨g, cap, A, cA, rfl, hb, hT, fun j u hu => ?_⟩
    have := flat_at css i _ j u h5 (List.getElem?_eq_getElem (by omega)) (by rw [e]; exact hu)
    rw [← htk, List.getElem?_take] at this
    split at this
    · simp only [World.cell?, hg]; simpa using this
    · cases this
theorem infoSpot : (Try.prog.info? 95).map (fun i => (i.zero, i.size, i.bytes)) = some (some (.agg #[.int .i64 0, .int .i64 0, .string ⟨#[]⟩, .slice none 0 0, .int .i64 0]), 5, 64) := by kernel_rfl
theorem RowS.push {w1 w2 : World} {B base : Nat} {v : Value} {l : List (Tr × Int)} (h : RowS w1 B base v l) (hc : Chg [] w1 w2) (t : Tr) (d : Int) (c4 : List Value) (hT : TrC (fun g => g < B) w1 t c4) :
    ∃ xs, w2.ownsRow base 95 5 v l.length xs ∧ ∀ (w3 : World) (v' : Value), w3.ownsRow base 95 5 v' (l.length + 1) (xs ++ (c4 ++ [.int .i64 d])) → w2.grownBy w3 v.ownBlock → RowS w3 B base v' (l ++ [(t, d)]) := by
  have hv := h.own
  obtain ⟨hB, css, ho, hl, hk⟩ := h
  refine ⟨css.flatten, own_kept ho hc (by simp), fun w3 v' ho' hg => ?_⟩
  have hC : Chg v.ownBlock.toList w1 w3 := Chg.grown (hc.mono (by simp)) hg (by intro k hk; rw [hk]; simp)
  have hok : ∀ g, g < B → g ∉ v.ownBlock.toList := fun g hg hm => by have := hv g (by simpa using hm); omega
  refine ⟨hB, css ++ [c4 ++ [.int .i64 d]], by simpa using ho', by simp [hl], fun i x cs h1 h2 => ?_⟩
  rcases Nat.lt_or_ge i l.length with hi | hi
  · rw [List.getElem?_append_left hi] at h1
    rw [List.getElem?_append_left (by omega)] at h2
    obtain ⟨c, h3, h4⟩ := hk i x cs h1 h2
    exact ⟨c, h3.kept hC hok, h4⟩
  · rw [List.getElem?_append_right hi] at h1
    rw [List.getElem?_append_right (by omega), hl] at h2
    have : i - l.length = 0 := by
      have := (List.getElem?_eq_some_iff.1 h1).1
      simp at this; omega
    rw [this] at h1 h2
    simp at h1 h2; subst h1 h2
    exact ⟨c4, hT.kept hC hok, rfl⟩
theorem take_take_append {α : Type} (a b : List α) (n : Nat) : (a.take n ++ b).take n = (a ++ b).take n := by
  rw [List.take_append, List.take_append, List.take_take, Nat.min_self, List.length_take]
  by_cases h : n ≤ a.length
  · rw [Nat.min_eq_left h, Nat.sub_self, Nat.sub_eq_zero_of_le h]
  · rw [Nat.min_eq_right (by omega)]
end Go.Proofs.Ytofjocjljbkjgaa
namespace Go.Proofs.Ytofjocjljbkjgaa
open Go.RowKit
def WalkPost (B base : Nat) (v : Value) (res : List (Tr × Int)) (w : World) (e : Ending) (w' : World) : Prop :=
  ∃ v', e = .returned v' ∧ RowS w' B base v' res ∧ Chg v.ownBlock.toList w w' ∧ (v'.ownBlock = v.ownBlock ∨ ∃ b, v'.ownBlock = some b ∧ w.heap.size ≤ b)
theorem chg_next {w w' w'' : World} {v v' : Value} (h1 : v'.ownBlock = v.ownBlock ∨ ∃ b, v'.ownBlock = some b ∧ w.heap.size ≤ b) (hc : Chg v.ownBlock.toList w w') (hd : Chg v'.ownBlock.toList w' w'') : Chg v.ownBlock.toList w w'' :=
  hc.andThen hd (fun i hi => by
    rcases h1 with h | ⟨b, h, hb⟩
    · rw [h] at hi; exact .inl hi
    · rw [h] at hi; simp at hi; exact .inr (by omega))
theorem blk_grown_at {w w' : World} {b : Nat} {o : Obj} {row : Option Nat} (h : w.heap[b]? = some o) (hg : w.grownBy w' row) (hn : some b ≠ row) : w'.heap[b]? = some o := (hg.block b (lt_of_block h) hn).trans h
structure Wk (w wr : World) (B base : Nat) (v vr : Value) (ct : Array Value) (l : List (Tr × Int)) : Prop where
  box : wr.heap[w.heap.size]? = some (.cells ct 24 (0, 0))
  row : RowS wr B base vr l
  chg : Chg v.ownBlock.toList w wr
  own : vr.ownBlock = v.ownBlock ∨ ∃ b, vr.ownBlock = some b ∧ w.heap.size < b
set_option maxHeartbeats 4000000 in
set_option maxRecDepth 100000 in
theorem walk_any (B base m : Nat) (hm : m ≤ 1000000) : ∀ (t : Tr) (A : Option Addr) (c : Nat) (d : Int) (v : Value) (l : List (Tr × Int)) (w : World), TrC (fun g => g < B) w t [.int .i64 (Tr.id t), .int .i64 (Tr.kind t), .string (Tr.text t), .slice A (Tr.kids t).length c] → RowS w B base v l → base ≤ w.heap.size → l.length ≤ m → 0 ≤ d → d ≤ l.length + 1 →
    Calls Try.prog 53 #[v, .agg #[.int .i64 (Tr.id t), .int .i64 (Tr.kind t), .string (Tr.text t), .slice A (Tr.kids t).length c], .int .i64 d, .int .i64 m] w (WalkPost B base v ((l ++ t.walk d).take m) w) := by
  intro t
  induction t using Tr.ind with
  | h t ih =>
  intro A c d v l w hT hR hbase hl hd0 hd1
  obtain ⟨ip, hi, hz0, hz1, hz2⟩ := info_parts infoSpot
  obtain ⟨A', c', hcs, hlc, hcm, htx, hK⟩ := hT.opens
  simp only [List.cons.injEq, Value.slice.injEq, true_and, and_true] at hcs
  obtain ⟨rfl, rfl⟩ := hcs
  obtain ⟨Av, cv, rfl⟩ := hR.slice
  have HI := Lib.hid (And.intro hi (And.intro hz0 (And.intro hz1 hz2)))
  have HH := Lib.hid (And.intro ih (And.intro hK (And.intro hT (And.intro hR (And.intro hm hbase)))))
  clear hi hz0 hz1 hz2 ih hK hT hR hbase
  by_cases hfull : m ≤ l.length
  · have hfb : decide ((m : Int) ≤ (l.length : Int)) = true := by simp; omega
    have hml : m = l.length := by omega
    go_enter Try.func53, Try.ntmps53
    go_wp2
    go_ret
    refine ⟨_, rfl, ?_, (by with_reducible repeat (first | exact Chg.refl _ _ | apply Chg.alloc | apply Chg.drew | apply Chg.drewN | (refine Chg.setCell ?_ _ _ (by simp)))), .inl rfl⟩
    rw [List.take_append_of_le_length (by omega), List.take_of_length_le (by omega)]
    exact HH.out.2.2.2.1.kept (c := []) (by with_reducible repeat (first | exact Chg.refl _ _ | apply Chg.alloc | apply Chg.drew | apply Chg.drewN | (refine Chg.setCell ?_ _ _ (by simp)))) (by simp) (by simp)
  · have hfb : decide ((m : Int) ≤ (l.length : Int)) = false := by simp; omega
    have hbx : ∀ W : World, W = w.alloc (.cells #[.int .i64 t.id, .int .i64 t.kind, .string t.text, .slice A t.kids.length c] 24) → Chg [] w W ∧ W.heap[w.heap.size]? = some (.cells #[.int .i64 t.id, .int .i64 t.kind, .string t.text, .slice A t.kids.length c] 24 (0, 0)) ∧ W.heap.size = w.heap.size + 1 := by rintro W rfl; exact ⟨(by with_reducible repeat (first | exact Chg.refl _ _ | apply Chg.alloc | apply Chg.drew | apply Chg.drewN | (refine Chg.setCell ?_ _ _ (by simp)))), heap_new _ _ rfl, by simp⟩
    have hCa : Chg [] w ((w.alloc (.cells #[.int .i64 t.id, .int .i64 t.kind, .string t.text, .slice A t.kids.length c] 24)).alloc (.cells #[.int .i64 t.id, .int .i64 t.kind, .string t.text, .slice A t.kids.length c, .int .i64 d] 95)).drew := (by with_reducible repeat (first | exact Chg.refl _ _ | apply Chg.alloc | apply Chg.drew | apply Chg.drewN | (refine Chg.setCell ?_ _ _ (by simp))))
    have hCb : Chg [] w ((w.alloc (.cells #[.int .i64 t.id, .int .i64 t.kind, .string t.text, .slice A t.kids.length c] 24)).alloc (.cells #[.int .i64 t.id, .int .i64 t.kind, .string t.text, .slice A t.kids.length c, .int .i64 d] 95)) := (by with_reducible repeat (first | exact Chg.refl _ _ | apply Chg.alloc | apply Chg.drew | apply Chg.drewN | (refine Chg.setCell ?_ _ _ (by simp))))
    obtain ⟨xs, hown, hpush⟩ := HH.out.2.2.2.1.push hCb t d _ HH.out.2.2.1
    have HP := Lib.hid (And.intro hown (And.intro hpush (And.intro hCb HH.out.2.2.2.1.own)))
    clear hown hpush hCa hCb hbx
    go_enter Try.func53, Try.ntmps53
    go_wp2_with (first
      | (refine wpList_append_own_at _ rfl (.tmp 15) (.tmp 19) 31 rfl base 95 ip _ 5 64 Try.underlying31 HI.out.1 HI.out.2.1 HI.out.2.2.1 HI.out.2.2.2 rfl (by omega) (.slice Av l.length cv) _ _ rfl HP.out.1 ⟨w.heap.size + 1, 0, none⟩ 1 1 (#[.int .i64 t.id, .int .i64 t.kind, .string t.text, .slice A t.kids.length c, .int .i64 d]).toList rfl rfl (fun j u hu => by rw [Addr.add_mid]; exact range_all (heap_new _ _ (by simp)) j u hu) (by intro u hu; simp at hu; rcases hu with rfl | rfl | rfl | rfl | rfl <;> rfl) (by unfold maxLen; omega) (by omega) (by have := HH.out.2.2.2.2.2; simp; omega) ?_
         intro v' X hown' hgr _ hat
         have hrow := HP.out.2.1 X v' hown' hgr
         have hbox := blk_grown_at (Go.Proofs.Ytofjocjljbkjgaa.heap_old (heap_new w (.cells #[.int .i64 t.id, .int .i64 t.kind, .string t.text, .slice A t.kids.length c] 24) rfl) (.cells #[.int .i64 t.id, .int .i64 t.kind, .string t.text, .slice A t.kids.length c, .int .i64 d] 95)) hgr (fun e => by have := HP.out.2.2.2 _ e.symm; omega)
         have hCX : Chg (Value.slice Av l.length cv).ownBlock.toList w X := Chg.grown (HP.out.2.2.1.mono (by simp)) hgr (by intro k hk; rw [hk]; simp)
         have hnx : v'.ownBlock = (Value.slice Av l.length cv).ownBlock ∨ ∃ b, v'.ownBlock = some b ∧ w.heap.size < b := by
           rcases hat with h | h
           · exact .inl h
           · exact .inr ⟨_, h, by simp; omega⟩
         have HX := Lib.hid (Wk.mk (w := w) hbox hrow hCX hnx)
         obtain ⟨A', c', rfl⟩ := own_slice hown'
         clear hown' hgr hat hrow hbox hCX hnx)
      | fail)
    have hown0 := Lib.hid HP.out.2.2.2
    clear HP
    go_loopw [0, 9] (fun vs i wr => ∃ (k : Nat) (vr : Value), k ≤ t.kids.length ∧ vr = vs ∧ i = .int .i64 k ∧ Hid (Wk w wr B base (.slice Av l.length cv) vr #[.int .i64 t.id, .int .i64 t.kind, .string t.text, .slice A t.kids.length c] ((l ++ (t, d) :: walkL (t.kids.take k) (d + 1)).take m))) (fun _ i _ => t.kids.length - (intOf i).toNat)
    case atStart =>
      refine ⟨0, _, Nat.zero_le _, rfl, rfl, ?_⟩
      have h := HX.out
      rw [show (l ++ (t, d) :: walkL (t.kids.take 0) (d + 1)).take m = l ++ [(t, d)] from by simp only [List.take_zero, walkL]; rw [List.take_of_length_le (by simp; omega)]]
      exact h
    case round =>
      obtain ⟨k, vr, hk, rfl, rfl, H⟩ := hrel
      clear HX
      have q3 := (blk4 H.out.box).2.2.2
      by_cases hlt : k < t.kids.length
      · obtain ⟨gk, ok, cs, rfl, _, hr, hT⟩ := HH.out.2.1 k _ (List.getElem?_eq_getElem hlt)
        obtain ⟨Ak, ck, rfl, _⟩ := hT.opens
        have hnv : ∀ g, g < B → g ∉ (Value.slice Av l.length cv).ownBlock.toList := fun g hg hm => by have := hown0.out g (by simpa using hm); have := HH.out.2.2.2.1.1; omega
        have hgk : gk ∉ (Value.slice Av l.length cv).ownBlock.toList := hnv gk ‹_›
        have hr' := H.out.chg.range hr hgk
        have hlen : ((l ++ (t, d) :: walkL (t.kids.take k) (d + 1)).take m).length ≤ m := by simp; omega
        have hlen2 : l.length + 1 ≤ ((l ++ (t, d) :: walkL (t.kids.take k) (d + 1)).take m).length := by simp; omega
        have hcall := HH.out.1 _ (List.getElem_mem hlt) Ak ck (d + 1) vr _ wr (hT.kept H.out.chg hnv) H.out.row (by have := H.out.chg.size; have := HH.out.2.2.2.2.2; omega) hlen (by omega) (by omega)
        rw [take_take_append, List.append_assoc, List.cons_append, show walkL (t.kids.take k) (d + 1) ++ (t.kids[k]).walk (d + 1) = walkL (t.kids.take (k + 1)) (d + 1) from by rw [take_snoc' _ _ hlt, walkL_append]; simp [walkL]] at hcall
        have HC := Lib.hid (And.intro hcall hr')
        clear hcall hr hT hnv hgk hr' hlen hlen2
        go_wp2_with (first
          | (refine wpList_load_mid rfl 24 (.tmp 32) rfl gk (ok + k * 4) rfl _ _ HC.out.2 Try.underlying24 rfl szNode ?_)
          | (go_at_call 53; refine HC.out.1.mono ?_; rintro e X ⟨v', rfl, hR, hX, hn⟩; have HX := Lib.hid (And.intro hR (And.intro hX hn)); clear hR hX hn))
        go_roundw
        case rel =>
          have hsz := H.out.chg.size
          have hbx := lt_of_block H.out.box
          have hnb : w.heap.size ∉ vr.ownBlock.toList := fun hm => by
            have hm' : vr.ownBlock = some w.heap.size := by simpa using hm
            rcases H.out.own with h | ⟨b, h, hb⟩
            · rw [h] at hm'; have := hown0.out _ hm'; omega
            · rw [h] at hm'; simp at hm'; omega
          refine ⟨k + 1, v', by omega, rfl, by go_num, HX.out.2.1.at H.out.box hnb, HX.out.1, chg_next (v' := vr) ?_ H.out.chg HX.out.2.1, ?_⟩
          · rcases H.out.own with h | ⟨b, h, hb⟩
            · exact .inl h
            · exact .inr ⟨b, h, by omega⟩
          · rcases HX.out.2.2 with h | ⟨b, h, hb⟩
            · rw [h]; exact H.out.own
            · exact .inr ⟨b, h, by omega⟩
        case measure => simp [intOf]; omega
      · obtain rfl : k = t.kids.length := by omega
        go_wp2
        go_ret
        refine ⟨vr, rfl, ?_, H.out.chg, ?_⟩
        · have h := H.out.row
          rw [List.take_of_length_le (Nat.le_refl _)] at h
          rw [Tr.walk_eq]; exact h
        · rcases H.out.own with h | ⟨b, h, hb⟩
          · exact .inl h
          · exact .inr ⟨b, h, by omega⟩
theorem walkT_any (B m : Nat) (hm : m ≤ 1000000) (t : Tr) (A : Option Addr) (c : Nat) (w : World) (hT : TrC (fun g => g < B) w t [.int .i64 (Tr.id t), .int .i64 (Tr.kind t), .string (Tr.text t), .slice A (Tr.kids t).length c]) (hB : B ≤ w.heap.size) :
    Calls Try.prog 16 #[.agg #[.int .i64 (Tr.id t), .int .i64 (Tr.kind t), .string (Tr.text t), .slice A (Tr.kids t).length c], .int .i64 m] w fun e w' => ∃ v, e = .returned v ∧ RowS w' B w.heap.size v ((t.walk 1).take m) ∧ Chg [] w w' := by
  have hA : Chg [] w (w.alloc (.cells #[.int .i64 t.id, .int .i64 t.kind, .string t.text, .slice A t.kids.length c] 24)) := (by with_reducible repeat (first | exact Chg.refl _ _ | apply Chg.alloc | apply Chg.drew | apply Chg.drewN | (refine Chg.setCell ?_ _ _ (by simp))))
  have hc := walk_any B w.heap.size m hm t A c 1 (.slice none 0 0) [] (w.alloc (.cells #[.int .i64 t.id, .int .i64 t.kind, .string t.text, .slice A t.kids.length c] 24)) (hT.kept hA (by simp)) (RowS.nil _ hB) (by simp) (by simp) (by omega) (by simp)
  have HC := Lib.hid (And.intro hc hA)
  clear hc hA hT
  go_enter Try.func16, Try.ntmps16
  go_wp2_with (go_at_call 53; refine HC.out.1.mono ?_; rintro e X ⟨v', rfl, hR, hX, hn⟩; have HX := Lib.hid (And.intro hR hX); clear hR hX hn)
  go_ret
  exact ⟨v', rfl, by simpa using HX.out.1, HC.out.2.trans HX.out.2⟩
end Go.Proofs.Ytofjocjljbkjgaa
namespace Go.Proofs.Ytofjocjljbkjgaa
open Go.RowKit
def GreatT (t : Tr) (w : World) (e : Ending) (w' : World) : Prop := ∃ r : Bool, e = .returned (.bool r) ∧ (r = false → t.nodes ≤ 250) ∧ Chg [] w w'
set_option maxHeartbeats 4000000 in
set_option maxRecDepth 100000 in
theorem great_t (t : Tr) (A : Option Addr) (c : Nat) (w : World) (hT : TrC (fun g => g < w.heap.size) w t [.int .i64 (Tr.id t), .int .i64 (Tr.kind t), .string (Tr.text t), .slice A (Tr.kids t).length c]) : Calls Try.prog 14 #[.agg #[.int .i64 (Tr.id t), .int .i64 (Tr.kind t), .string (Tr.text t), .slice A (Tr.kids t).length c]] w (GreatT t w) := by
  have hA : Chg [] w (w.alloc (.cells #[.int .i64 (Tr.id t), .int .i64 (Tr.kind t), .string (Tr.text t), .slice A (Tr.kids t).length c] 24)) := (by with_reducible repeat (first | exact Chg.refl _ _ | apply Chg.alloc | apply Chg.drew | apply Chg.drewN | (refine Chg.setCell ?_ _ _ (by simp))))
  have hc := walkT_any w.heap.size 251 (by omega) t A c (w.alloc (.cells #[.int .i64 (Tr.id t), .int .i64 (Tr.kind t), .string (Tr.text t), .slice A (Tr.kids t).length c] 24)) (hT.kept hA (by simp)) (by simp)
  have HC := Lib.hid (And.intro hc hA)
  clear hc hA hT
  go_enter Try.func14, Try.ntmps14
  go_wp2_with (go_at_call 16; refine HC.out.1.mono ?_; rintro e X ⟨v, rfl, hR, hX⟩
               obtain ⟨A', c', rfl⟩ := hR.slice
               have hlen : ((t.walk 1).take 251).length ≤ 251 := by simp; omega
               have hnodes : ((t.walk 1).take 251).length ≤ 250 → t.nodes ≤ 250 := by rw [List.length_take, Tr.walk_length]; omega
               generalize (t.walk 1).take 251 = l at hR hlen hnodes ⊢
               have HX := Lib.hid (And.intro hR (And.intro (HC.out.2.trans hX) hnodes)); clear hR hX hnodes)
  go_loop [4, 10] (fun n i => ∃ (k : Nat) (s : Int), k ≤ l.length ∧ i = .int .i64 k ∧ n = .int .i64 s ∧ 0 ≤ s ∧ s ≤ 20000) (fun _ i => l.length - (intOf i).toNat)
  case atStart => exact ⟨0, 0, Nat.zero_le _, rfl, rfl, by omega, by omega⟩
  case round =>
    obtain ⟨k, s, hk, rfl, rfl, hs0, hs1⟩ := hrel
    by_cases hlt : k < l.length
    · obtain ⟨g, c2, A2, cA, e, _, hT, hr⟩ := HX.out.1.at hlt
      injection e with e1 e2 e3
      subst e1 e3
      have r2 : X.cell? ⟨g, k * 5 + 2, none⟩ = some (.string (l[k]).1.text) := hr 2 _ rfl
      obtain ⟨_, _, _, _, _, ht, _⟩ := hT.opens
      clear hr hT
      by_cases hb : 20000 - s < ((l[k]).1.text.size : Int)
      · have hbb : decide (20000 - s < ((l[k]).1.text.size : Int)) = true := by simpa using hb
        go_wp2
        go_ret
        exact ⟨true, rfl, (fun h => by cases h), HX.out.2.1⟩
      · have hbb : decide (20000 - s < ((l[k]).1.text.size : Int)) = false := by simpa using hb
        go_wp2
        go_round
        case rel => exact ⟨k + 1, s + (l[k]).1.text.size, by omega, by go_num, rfl, by omega, by omega⟩
        case measure => simp [intOf]; omega
    · go_wp2
      go_ret
      exact ⟨decide (250 < (l.length : Int)), rfl, fun h => HX.out.2.2 (by simp at h; omega), HX.out.2.1⟩
def lastOf (n : Int) : List Tr → Option Tr
  | [] => none
  | x :: l => match lastOf n l with
    | some y => some y
    | none => if x.id = n then some x else none
def IsNode (B : Nat) (w : World) (v : Option Value) (x : Option Tr) : Prop := match x with
  | none => v = none
  | some x => ∃ A c, v = some (.agg #[.int .i64 (Tr.id x), .int .i64 (Tr.kind x), .string (Tr.text x), .slice A (Tr.kids x).length c]) ∧ TrC (fun g => g < B) w x [.int .i64 (Tr.id x), .int .i64 (Tr.kind x), .string (Tr.text x), .slice A (Tr.kids x).length c]
theorem IsNode.kept {B : Nat} {w w' : World} {v : Option Value} {x : Option Tr} {l : List Nat} (h : IsNode B w v x) (hc : Chg l w w') (hl : ∀ g, g < B → g ∉ l) : IsNode B w' v x := by
  cases x with
  | none => exact h
  | some x => obtain ⟨A, c, h1, h2⟩ := h; exact ⟨A, c, h1, h2.kept hc hl⟩
def MapT (B : Nat) (w : World) (b : Nat) (l : List Tr) : Prop := ∃ m, MapI w b m ∧ ∀ n, IsNode B w (m n) (lastOf n l)
theorem MapT.kept {B : Nat} {w w' : World} {b : Nat} {ts : List Tr} {l : List Nat} (h : MapT B w b ts) (hc : Chg l w w') (hb : b ∉ l) (hl : ∀ g, g < B → g ∉ l) : MapT B w' b ts := by
  obtain ⟨m, h1, h2⟩ := h; exact ⟨m, h1.kept hc hb, fun n => (h2 n).kept hc hl⟩
end Go.Proofs.Ytofjocjljbkjgaa
namespace Go.Proofs.Ytofjocjljbkjgaa
open Go.RowKit
mutual
def Tr.ids : Tr → List Int
  | ⟨i, _, _, ks⟩ => i :: idsL ks
def idsL : List Tr → List Int
  | [] => []
  | k :: ks => k.ids ++ idsL ks
end
theorem Tr.ids_eq (t : Tr) : t.ids = t.id :: idsL t.kids := by cases t; rfl
theorem idsL_append (a b : List Tr) : idsL (a ++ b) = idsL a ++ idsL b := by
  induction a with
  | nil => rfl
  | cons k a ih => simp only [List.cons_append, idsL, ih, List.append_assoc]
mutual
theorem Tr.path_iff (id : Int) : ∀ t : Tr, (t.path id).isSome = true ↔ id ∈ t.ids
  | ⟨i, k, x, ks⟩ => by
    rw [Tr.path, Tr.ids]
    by_cases h : i = id
    · simp [h]
    · rw [if_neg h, pathL_iff id ks 0]; simp [Ne.symm h]
theorem pathL_iff (id : Int) : ∀ (ks : List Tr) (n : Nat), (pathL id ks n).isSome = true ↔ id ∈ idsL ks
  | [], _ => by simp [pathL, idsL]
  | k :: ks, n => by
    rw [pathL, idsL, List.mem_append, ← Tr.path_iff id k, ← pathL_iff id ks (n + 1)]
    cases k.path id <;> simp
end
theorem path_none {id : Int} {t : Tr} (h : id ∉ t.ids) : t.path id = none := by
  cases hp : t.path id with
  | none => rfl
  | some p => exact absurd ((Tr.path_iff id t).1 (by rw [hp]; rfl)) h
theorem path_some {id : Int} {t : Tr} (h : id ∈ t.ids) : ∃ p, t.path id = some p := by
  have := (Tr.path_iff id t).2 h
  cases hp : t.path id with
  | none => rw [hp] at this; cases this
  | some p => exact ⟨p, rfl⟩
theorem mem_idsL {ks : List Tr} {k : Tr} (h : k ∈ ks) {x : Int} (hx : x ∈ k.ids) : x ∈ idsL ks := by
  induction ks with
  | nil => cases h
  | cons a ks ih =>
    simp only [idsL, List.mem_append]
    rcases List.mem_cons.1 h with rfl | h
    · exact .inl hx
    · exact .inr (ih h)
theorem id_mem (t : Tr) : t.id ∈ t.ids := by rw [Tr.ids_eq]; simp
end Go.Proofs.Ytofjocjljbkjgaa
