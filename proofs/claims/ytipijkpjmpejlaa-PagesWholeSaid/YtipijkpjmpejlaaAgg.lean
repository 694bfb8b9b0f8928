import Derived.Test.YtipijkpjmpejlaaOrd
import Derived.Laws.CopyOwn
import Derived.Maps.AppendAt
import Derived.Laws.StructEq
/- Operations on values of many cells (structs, arrays), over any program: what they leave, told by blocks. Conditions: the facts that each law names. -/
namespace Go.Proofs.Ytipijkpjmpejlaa
open Go.RowKit
section
variable {P : Program} {ops : Array Oper} {rest : List Oper} {o : Oper} {a : Act} {w : World} {Q : Exit → Act → World → Prop}
theorem wpList_runv (hgd : o.guard = none) {v : Value} {w' : World} (hrun : (execOp a.eval o).run P w = .ok (.value v) w') (h : wpList P ops Q rest (a.put o.dst v) w') : wpList P ops Q (o :: rest) a w :=
  wpList_plain hgd fun K hK => by unfold Oper.wp; rw [hrun]; exact hK _ _ h
theorem wpList_runs (hgd : o.guard = none) {w' : World} (hrun : (execOp a.eval o).run P w = .ok .skip w') (h : wpList P ops Q rest (a.put o.dst undef) w') : wpList P ops Q (o :: rest) a w :=
  wpList_plain hgd fun K hK => by unfold Oper.wp; rw [hrun]; exact hK _ _ h
theorem wpList_alloc (hgd : o.guard = none) (T : TypeId) (ho : o.op = .alloc T) (z : Value) (hz : ∀ w, (zeroValue T).run P w = .ok z w)
    (h : wpList P ops Q rest (a.put o.dst (.pointer (some ⟨w.heap.size, 0, none⟩))) (w.alloc (.cells z.cells T))) : wpList P ops Q (o :: rest) a w := by
  refine wpList_runv hgd (w' := w.alloc (.cells z.cells T)) ?_ h
  simp [execOp, ho, Instr.alloc, hz, newVar, newRow, newObj, Sem.run, Result.andThen, World.alloc_eq]
theorem wpList_box (hgd : o.guard = none) (T : TypeId) (x : Operand) (ho : o.op = .box T x) (v : Value) (hx : a.eval x = v)
    (h : wpList P ops Q rest (a.put o.dst (.pointer (some ⟨w.heap.size, 0, none⟩))) (w.alloc (.cells v.cells T))) : wpList P ops Q (o :: rest) a w := by
  refine wpList_runv hgd (w' := w.alloc (.cells v.cells T)) ?_ h
  simp [execOp, ho, hx, Instr.box, newVar, newRow, newObj, Sem.run, Result.andThen, World.alloc_eq]

end
theorem foldl_put (off : Nat) : ∀ (l : List Value) (i : Nat) (cs : Array Value), off + i + l.length ≤ cs.size →
    ((l.zipIdx i).foldl (fun (cs : Array Value) (x : Value × Nat) => cs.setIfInBounds (off + x.2) x.1) cs).toList = cs.toList.take (off + i) ++ l ++ cs.toList.drop (off + i + l.length)
  | [], i, cs, _ => by simp
  | v :: l, i, cs, h => by
    simp only [List.length_cons] at h
    rw [List.zipIdx_cons, List.foldl_cons, foldl_put off l (i + 1) _ (by simp; omega)]
    simp only [Array.toList_setIfInBounds]
    have e1 : (cs.toList.set (off + i) v).take (off + (i + 1)) = cs.toList.take (off + i) ++ [v] := by
      rw [show off + (i + 1) = (off + i) + 1 from by omega, List.take_succ_eq_append_getElem (by simp; omega), List.take_set_of_le (Nat.le_refl _)]
      simp
    have e2 : (cs.toList.set (off + i) v).drop (off + (i + 1) + l.length) = cs.toList.drop (off + i + (l.length + 1)) := by
      rw [List.drop_set_of_lt (by omega)]
      congr 1; omega
    rw [e1, e2]
    simp
section
variable {P : Program} {ops : Array Oper} {rest : List Oper} {o : Oper} {a : Act} {w : World} {Q : Exit → Act → World → Prop}
/-- 'T{x}' as a slice of one: x lies in a new block. -/
theorem buildSlice_one (T E : TypeId) (hT : P.underlying T = some (.slice E)) (i : TypeInfo) (z : Value) (hi : P.info? E = some i) (hz : i.zero = some z) (hzs : z.cells.size = i.size) (hpos : 0 < i.size) (hle : i.size ≤ 16777216)
    (v : Value) (hv : v.cells.size = i.size) : (Instr.buildSlice T 1 #[(0, v)]).run P w = .ok (.slice (some ⟨w.heap.size, 0, none⟩) 1 1) (w.alloc (.cells v.cells E)) := by
  have hne : ¬ i.size = 0 := by omega
  have hfold : v.cells.zipIdx.foldl (fun (cs : Array Value) (x : Value × Nat) => cs.setIfInBounds (0 + x.2) x.1) ((Array.range i.size).map (fun k => z.cells[k % z.cells.size]!)) = v.cells := by
    apply Array.toList_inj.1
    rw [← Array.foldl_toList, Array.toList_zipIdx, foldl_put 0 v.cells.toList 0 _ (by simp; omega)]
    simp [hv]
  simp only [Nat.zero_add] at hfold
  have hf : Instr.fill (fun i' => some (i' * i.size, i.size)) ((Array.range i.size).map (fun k => z.cells[k % z.cells.size]!)) [(0, v)] = some v.cells := by
    simp only [Instr.fill, Nat.zero_mul, Nat.zero_add]
    rw [if_neg (by simp [hv])]
    simp only [hfold]
  have hz' : (zeroValue E).run P w = .ok z w := by simp [zeroValue, typeInfo, hi, hz, Result.andThen]
  have hgt : ¬ 16777216 < i.size := by omega
  simp [Instr.buildSlice, run_underlying hT, sizeOf, typeInfo, hi, hne, hz', hf, newRow, newObj, Result.andThen, hgt]
  rfl
theorem wpList_store_row (hgd : o.guard = none) (T : TypeId) (x y : Operand) (ho : o.op = .store T x y) (g : Nat) (hx : a.eval x = .pointer (some ⟨g, 0, none⟩)) (cells : Array Value) (hy : a.eval y = .agg cells)
    (old : Array Value) (t : TypeId) (hg : w.heap[g]? = some (.cells old t (0, 0))) (hi : (P.info? T).map (·.size) = some cells.size) (hsz : old.size = cells.size) (h1 : cells.all (·.oneCell') = true)
    (h : wpList P ops Q rest (a.put o.dst undef) (w.setRow g cells)) : wpList P ops Q (o :: rest) a w := by
  refine wpList_runs hgd (w' := w.setRow g cells) ?_ h
  simp [execOp, ho, hx, hy, Instr.storeAt, Instr.sureAddr, run_storeVar_row w g t T old cells hg hi hsz h1, Result.andThen]
theorem setRow_new (w : World) (t : TypeId) (c c' : Array Value) : (w.alloc (.cells c t)).setRow w.heap.size c' = w.alloc (.cells c' t) := by
  have hh : ((w.alloc (.cells c t)).setRow w.heap.size c').heap = (w.alloc (.cells c' t)).heap := by
    apply Array.ext_getElem?
    intro i
    show ((w.heap.push _).modify w.heap.size _)[i]? = (w.heap.push _)[i]?
    rw [Array.getElem?_modify]
    by_cases e : w.heap.size = i
    · subst e; simp
    · rw [if_neg e]
      simp [Array.getElem?_push, Ne.symm e]
  show ({ (w.alloc (.cells c t)) with heap := ((w.alloc (.cells c t)).setRow w.heap.size c').heap } : World) = _
  rw [hh]; rfl
theorem setRow_chg (w : World) (g : Nat) (cs : Array Value) : Chg [g] w (w.setRow g cs) :=
  ⟨rfl, rfl, rfl, by simp [World.setRow], fun k _ hn => by
    show (w.heap.modify g _)[k]? = _
    rw [Array.getElem?_modify, if_neg (fun e => hn (by simp [e]))]⟩
theorem Chg.grown {l : List Nat} {a w w' : World} {row : Option Nat} (h : Chg l a w) (hg : w.grownBy w' row) (hr : ∀ k, row = some k → k ∈ l ∨ a.heap.size ≤ k) : Chg l a w' :=
  h.andThen (l' := row.toList) ⟨hg.os, hg.tape, hg.output, hg.size, fun k hk hn => hg.block k hk (fun e => hn (by simp [← e]))⟩ (fun i hi => by cases row <;> simp at hi; subst hi; exact hr _ rfl)
theorem exec_load_mid (T : TypeId) (x : Operand) (ho : o.op = .load T x) (b k : Nat) (hx : a.eval x = .pointer (some ⟨b, k, none⟩)) (cs : List Value) (d : TypeDesc) (hc : w.rangeAt b k cs)
    (hu : P.underlying T = some d) (hd : d.isRow = true) (hi : (P.info? T).map (·.size) = some cs.length) : (execOp a.eval o).run P w = .ok (.value (.agg cs.toArray)) w := by
  simp [execOp, ho, hx, run_loadAt_mid w b k T cs d hc hu hd hi, Result.andThen]
theorem range_of_block {g : Nat} {cs : List Value} {t : TypeId} {fr : Nat × Nat} (hg : w.heap[g]? = some (.cells cs.toArray t fr)) (k n : Nat) : w.rangeAt g k ((cs.drop k).take n) := by
  intro j v hv
  simp only [World.cell?, hg]
  have hj : j < ((cs.drop k).take n).length := (List.getElem?_eq_some_iff.1 hv).1
  rw [List.getElem?_take_of_lt (by simp at hj; omega), List.getElem?_drop] at hv
  simpa using hv
theorem range_all {g : Nat} {cs : List Value} {t : TypeId} {fr : Nat × Nat} (hg : w.heap[g]? = some (.cells cs.toArray t fr)) : w.rangeAt g 0 cs := by
  intro j v hv
  simp only [World.cell?, hg]
  simpa using hv
theorem wpList_slice_one (hgd : o.guard = none) (T E : TypeId) (x : Operand) (ho : o.op = .buildSlice T 1 #[(0, x)]) (hT : P.underlying T = some (.slice E)) (i : TypeInfo) (z : Value) (hi : P.info? E = some i) (hz : i.zero = some z) (hzs : z.cells.size = i.size) (hpos : 0 < i.size) (hle : i.size ≤ 16777216)
    (v : Value) (hx : a.eval x = v) (hv : v.cells.size = i.size)
    (h : wpList P ops Q rest (a.put o.dst (.slice (some ⟨w.heap.size, 0, none⟩) 1 1)) (w.alloc (.cells v.cells E))) : wpList P ops Q (o :: rest) a w := by
  refine wpList_runv hgd (w' := w.alloc (.cells v.cells E)) ?_ h
  simp [execOp, ho, hx, buildSlice_one T E hT i z hi hz hzs hpos hle v hv, Result.andThen]
theorem own_slice {base n : Nat} {e : TypeId} {size : Nat} {v : Value} {xs : List Value} (h : w.ownsRow base e size v n xs) : ∃ A c, v = .slice A n c := by
  rcases h.2 with ⟨rfl, rfl⟩ | ⟨g, cap, cur, rfl, _⟩
  · exact ⟨none, 0, rfl⟩
  · exact ⟨_, cap, rfl⟩
theorem own_kept {base n : Nat} {e : TypeId} {size : Nat} {v : Value} {xs : List Value} {w' : World} {l : List Nat} (h : w.ownsRow base e size v n xs) (hc : Chg l w w') (hl : ∀ k, v.ownBlock = some k → k ∉ l) : w'.ownsRow base e size v n xs := by
  refine ⟨h.1, ?_⟩
  rcases h.2 with h0 | ⟨g, cap, cur, rfl, hg, hh, r⟩
  · exact .inl h0
  · exact .inr ⟨g, cap, cur, rfl, hg, hc.at hh (hl g rfl), r⟩
theorem all_range_ints : ∀ (xs ys : List Int), xs.length = ys.length → ((List.range xs.length).all fun i => xs.getD i 0 == ys.getD i 0) = (xs == ys)
  | [], [], _ => rfl
  | x :: xs, y :: ys, h => by
    have ih := all_range_ints xs ys (by simpa using h)
    rw [List.length_cons, List.range_succ_eq_map, List.all_cons, List.all_map]
    simp only [List.getD_cons_zero, Function.comp_def, List.getD_cons_succ, ih]
    simp [List.cons_beq_cons]
  | [], _ :: _, h => by simp at h
  | _ :: _, [], h => by simp at h
theorem run_equalIn_ints (d : Nat) (t e : TypeId) (k : IntKind) (n : Nat) (ht : P.underlying t = some (.array n e)) (he : P.underlying e = some (.int k)) (hsz : ∀ w, (sizeOf e).run P w = .ok 1 w)
    (xs ys : List Int) (hx : xs.length = n) (hy : ys.length = n) :
    (Op.equalIn (d + 2) t (.agg (xs.map (.int k)).toArray) (.agg (ys.map (.int k)).toArray)).run P w = .ok (xs == ys) w := by
  rw [← all_range_ints xs ys (hx.trans hy.symm), hx, List.range_eq_range', Op.equalIn]
  simp only [Sem.run_bind, run_underlying ht, Result.andThen_ok, hsz, Std.Legacy.Range.forIn_eq_forIn_range', Std.Legacy.Range.size, Nat.sub_zero, Nat.add_sub_cancel, Nat.div_one]
  have hl : ∀ i ∈ List.range' 0 n 1, i < n := fun i hi => by simpa using (List.mem_range'_1.1 hi).2
  generalize List.range' 0 n 1 = l at hl ⊢
  induction l with
  | nil => simp
  | cons i l ih =>
    have hi : i < n := hl i (by simp)
    have px : (part e (xs.map (Value.int k)).toArray (i * 1)).run P w = .ok (.int k (xs.getD i 0)) w := by
      simp [part, isAgg, run_underlying he, List.getD, List.getElem?_eq_getElem (show i < xs.length by omega)]
    have py : (part e (ys.map (Value.int k)).toArray (i * 1)).run P w = .ok (.int k (ys.getD i 0)) w := by
      simp [part, isAgg, run_underlying he, List.getD, List.getElem?_eq_getElem (show i < ys.length by omega)]
    have pe : (Op.equalIn (d + 1) e (.int k (xs.getD i 0)) (.int k (ys.getD i 0))).run P w = .ok (xs.getD i 0 == ys.getD i 0) w := by
      rw [run_equalIn_int w d e k k _ _ he]
    simp only [List.forIn_cons, Sem.run_bind, px, py, pe, Result.andThen_ok, List.all_cons]
    cases hb : (xs.getD i 0 == ys.getD i 0)
    · simp
    · simp only [Bool.not_true, Bool.false_eq_true, if_false, Sem.run_pure, Result.andThen_ok, Bool.true_and]
      exact ih fun j hj => hl j (by simp [hj])
/-- '==' of two arrays of numbers. -/
theorem wpList_eql_ints (hgd : o.guard = none) (t yt e : TypeId) (x y : Operand) (ho : o.op = .binOp .eql t x y yt) (k : IntKind) (n : Nat) (ht : P.underlying t = some (.array n e)) (he : P.underlying e = some (.int k)) (hsz : ∀ w, (sizeOf e).run P w = .ok 1 w)
    (hgt : P.eqGuardType P.depth t = false) (xs ys : List Int) (hx : a.eval x = .agg (xs.map (.int k)).toArray) (hy : a.eval y = .agg (ys.map (.int k)).toArray) (hlx : xs.length = n) (hly : ys.length = n)
    (h : wpList P ops Q rest (a.put o.dst (.bool (xs == ys))) w) : wpList P ops Q (o :: rest) a w := by
  refine wpList_runv hgd (w' := w) ?_ h
  have h1 : (binOp .eql t (.agg (xs.map (Value.int k)).toArray) (.agg (ys.map (Value.int k)).toArray)).run P w = .ok (.bool (xs == ys)) w := by
    rw [run_eql_struct, run_equalIn_ints 9998 t e k n ht he hsz xs ys hlx hly]; rfl
  have h2 : (eqGuard .eql t x y (.agg (xs.map (Value.int k)).toArray) (.agg (ys.map (Value.int k)).toArray)).run P w = .ok () w := by
    simp [eqGuard, hgt, Result.andThen]
  simp [execOp, ho, hx, hy, h1, h2, Result.andThen]
theorem wpList_build (hgd : o.guard = none) (T : TypeId) (parts : Array (Nat × Operand)) (ho : o.op = .build T parts) (pv : Array (Nat × Value)) (hp : (parts.map fun (i, x) => (i, a.eval x)) = pv) (v : Value) (hrun : ∀ w, (Instr.build T pv).run P w = .ok v w)
    (h : wpList P ops Q rest (a.put o.dst v) w) : wpList P ops Q (o :: rest) a w := by
  refine wpList_runv hgd (w' := w) ?_ h
  have hp' : (parts.map fun x => (x.1, a.eval x.2)) = pv := hp
  simp [execOp, ho, hp', hrun, Result.andThen]
theorem wpList_delete_I {T K E t0 : TypeId} {b : Nat} {m : Int → Option Value} (hgd : o.guard = none) (x y : Operand) (ho : o.op = .call { callee := .builtin .delete, args := #[x, y], argTypes := #[T, t0] })
    (hT : P.underlying T = some (.map K E)) (hK : P.underlying K = some (.int .i64)) (h : MapI w b m) (n : Int) (hx : a.eval x = .map (some b)) (hy : a.eval y = .int .i64 n)
    (k : ∀ w', MapI w' b (updI m n none) → Chg [b] w w' → w'.heap.size = w.heap.size → wpList P ops Q rest (a.put o.dst (.tuple #[])) w') : wpList P ops Q (o :: rest) a w := by
  obtain ⟨es, c, hrun, hm⟩ := delete_run t0 o.type hT hK h n
  refine wpList_runv hgd ?_ (k _ hm (Chg.putBlk w b _) (by simp [putBlk]))
  simp [execOp, ho, resolve, invoke, builtin, hx, hy, hrun, Result.andThen]
theorem wpList_update_I {T K E : TypeId} {b : Nat} {m : Int → Option Value} (hgd : o.guard = none) (x y z : Operand) (ho : o.op = .mapUpdate T x y z)
    (hT : P.underlying T = some (.map K E)) (hK : P.underlying K = some (.int .i64)) (h : MapI w b m) (n : Int) (v : Value) (hx : a.eval x = .map (some b)) (hy : a.eval y = .int .i64 n) (hz : a.eval z = v)
    (k : ∀ w', MapI w' b (updI m n (some v)) → Chg [b] w w' → w'.heap.size = w.heap.size → wpList P ops Q rest (a.put o.dst undef) w') : wpList P ops Q (o :: rest) a w := by
  obtain ⟨es, c, hrun, hm⟩ := update_run hT hK h n v
  refine wpList_runs hgd ?_ (k _ hm (Chg.putBlk w b _) (by simp [putBlk]))
  simp [execOp, ho, hx, hy, hz, hrun, Result.andThen]
theorem exec_lookup_I {T K E : TypeId} {b : Nat} {m : Int → Option Value} (x y : Operand) (ok : Bool) (ho : o.op = .lookup T x y ok)
    (hT : P.underlying T = some (.map K E)) (hK : P.underlying K = some (.int .i64)) {z : Value} (hz : (zeroValue E).run P w = .ok z w) (h : MapI w b m) (n : Int) (hx : a.eval x = .map (some b)) (hy : a.eval y = .int .i64 n) :
    (execOp a.eval o).run P w = .ok (.value (if ok then .tuple #[(m n).getD z, .bool (m n).isSome] else (m n).getD z)) w := by
  simp [execOp, ho, hx, hy, lookup_run hT hK hz h n ok, Result.andThen]
theorem wpList_lookup_I {T K E : TypeId} {b : Nat} {m : Int → Option Value} (hgd : o.guard = none) (x y : Operand) (ho : o.op = .lookup T x y false)
    (hT : P.underlying T = some (.map K E)) (hK : P.underlying K = some (.int .i64)) {z : Value} (hz : ∀ w, (zeroValue E).run P w = .ok z w) (h : MapI w b m) (n : Int) (hx : a.eval x = .map (some b)) (hy : a.eval y = .int .i64 n)
    {u : Value} (hu : (m n).getD z = u) (k : wpList P ops Q rest (a.put o.dst u) w) : wpList P ops Q (o :: rest) a w := by
  refine wpList_runv hgd (w' := w) ?_ k
  have := exec_lookup_I (P := P) (o := o) (a := a) x y false ho hT hK (hz w) h n hx hy
  rw [hu] at this
  simpa using this
theorem own_row {base n : Nat} {e : TypeId} {A : Option Addr} {c : Nat} {xs : List Value} (h : w.ownsRow base e 1 (.slice A n c) n xs) (hn : 0 < n) : ∃ g, A = some ⟨g, 0, none⟩ ∧ base ≤ g ∧ g < w.heap.size ∧ n ≤ c ∧ ∀ j u, xs[j]? = some u → w.cell? ⟨g, j, none⟩ = some u := by
  rcases h.2 with ⟨_, h1⟩ | ⟨g, cap, cur, hv, hg, hh, hcap, _⟩
  · omega
  · injection hv with hA _ hc
    subst hA hc
    refine ⟨g, rfl, hg, lt_of_block hh, hcap, fun j u hu => ?_⟩
    have := h.cells (g := g) rfl j u hu
    rwa [Addr.add_mid, Nat.zero_add] at this
end
end Go.Proofs.Ytipijkpjmpejlaa
