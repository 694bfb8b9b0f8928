import Derived.Test.YtipijkpjmpejlaaPgP
import Derived.Laws.EntriesVeiled
/- The contract of (*Pages).write: what is written, up to the first error. -/
set_option linter.unusedVariables false
set_option linter.unusedSimpArgs false
namespace Go.Proofs.Ytipijkpjmpejlaa
open Go.RowKit
def padP (l : List Int) : List Int := l ++ List.replicate (44 - l.length) 0
/-- The i-th part's load, of a record. -/
def partLd (b : List Int) (i : Nat) : List Int := padP (((be4 b.length ++ b).drop (44 * i)).take 44)
def u32 (n : Int) : Int := n % 4294967296
/-- What is written for a record: sectors and bytes. -/
def partW (x : Img) (record : Int) (at' n : Nat) (b : List Int) (i : Nat) : Int × List Int := (1 + x.half * 1024 + at' + i, b20 (u32 x.gen) (u32 x.boot) (u32 record) i n ++ partLd b i)
def partWs (x : Img) (record : Int) (at' : Nat) (b : List Int) : List (Int × List Int) := (List.range (partsN b.length).toNat).map (partW x record at' (partsN b.length).toNat b)
/-- Writes, up to the first error. -/
def DS.run (D : DS) : List (Int × List Int) → DS × Int
  | [] => (D, 0)
  | x :: l => if D.err x.1 x.2 = 0 then (D.write x.1 x.2).run l else (D.write x.1 x.2, D.err x.1 x.2)
/-- What write comes to. -/
def writeOf (D : DS) (P : PS) (x : Img) (record : Int) (at' : Nat) (b : List Int) (more : List (Int × List Int)) : DS × PS × Int :=
  let t := D.run (partWs x record at' b ++ more)
  if t.2 = 0 then (t.1, ⟨{ x with recs := x.recs ++ [b] }, at' + (partsN b.length).toNat, P.dead⟩, 0) else (t.1, { P with dead := true }, t.2)
theorem partsN_range {n : Nat} (h : n ≤ 32768) : 1 ≤ (partsN n).toNat ∧ (partsN n).toNat ≤ 745 ∧ ((partsN n).toNat : Int) = partsN n ∧ 44 * (partsN n).toNat ≤ n + 47 ∧ n + 4 ≤ 44 * (partsN n).toNat := by
  unfold partsN
  rw [if_neg (by omega)]
  omega
theorem padP_len {l : List Int} (h : l.length ≤ 44) : (padP l).length = 44 := by simp [padP]; omega
theorem partLd_len (b : List Int) (i : Nat) : (partLd b i).length = 44 := padP_len (by rw [List.length_take]; omega)
theorem be4_bytes {n : Int} (h0 : 0 ≤ n) (h1 : n < 4294967296) : Bytes (be4 n) := fun x hx => by
  simp only [be4, List.mem_cons, List.not_mem_nil, or_false] at hx
  omega
theorem partLd_bytes {b : List Int} (hb : Bytes b) (hl : b.length ≤ 32768) (i : Nat) : Bytes (partLd b i) := fun x hx => by
  rcases List.mem_append.1 hx with h | h
  · have h := List.mem_of_mem_drop (List.mem_of_mem_take h)
    rcases List.mem_append.1 h with h | h
    · exact be4_bytes (by omega) (by omega) x h
    · exact hb x h
  · rw [List.eq_of_mem_replicate h]; decide
/-- What a call on pages touches. -/
def TP : List (Option TypeId) := [some 126, some 130, none, some 152]
theorem TD_TP {w0 w w' : World} (h : ChgT w0 TD w w') : ChgT w0 TP w w' := h.mono (fun x hx => by simp only [TD, TP, List.mem_cons] at hx ⊢; rcases hx with h | h | h | h; exact .inl h; exact .inr (.inl h); exact .inr (.inr (.inl h)); cases h)
theorem ChgT.fresh {w0 w X Y : World} {T : List (Option TypeId)} {l : List Nat} (h : ChgT w0 T w X) (hc : Chg l X Y) (hl : ∀ k ∈ l, w.heap.size ≤ k) : ChgT w0 T w Y :=
  ⟨hc.os.trans h.os, hc.tape.trans h.tape, hc.output.trans h.output, Nat.le_trans h.size hc.size, fun k hk hn => (hc.block k (Nat.lt_of_lt_of_le hk h.size) (fun hm => by have := hl k hm; omega)).trans (h.block k hk hn)⟩
/-- Bytes put behind a row, none or some. -/
theorem wpList_append_bytes {ops : Array Oper} {rest : List Oper} {o : Oper} {a : Act} {w : World} {Q : Exit → Act → World → Prop} (hgd : o.guard = none) (s x : Operand) (ho : o.op = .call { callee := .builtin .append, args := #[s, x], argTypes := #[49, 49] }) (base : Nat) (v : Value) (cs : List Int) (hs : a.eval s = v) (hown : RowB w base v cs)
    (A : Option Addr) (bs : List Int) (c : Nat) (hx : a.eval x = .slice A bs.length c) (hB : BytesAt w A bs) (hc : A = none → bs = [] ∧ c = 0) (hl : cs.length + bs.length ≤ 1073741824) (hbase : base ≤ w.heap.size)
    (h : ∀ v' w', Ext base v w v' (cs ++ bs) w' → wpList Try.prog ops Q rest (a.put o.dst v') w') : wpList Try.prog ops Q (o :: rest) a w := by
  obtain ⟨ip, hi, hz0, hz1, hz2⟩ := info_parts infoU8
  cases A with
  | none =>
    obtain ⟨rfl, rfl⟩ := hc rfl
    exact wpList_append_own_none hgd s x 49 ho base 5 ip 1 Try.underlying49 hi v cs.length (u8s cs) hs hown hx (h _ _ (by rw [List.append_nil]; exact Ext.refl hown))
  | some ad =>
    have hat : ∀ j u, (u8s bs)[j]? = some u → w.cell? (ad.add j) = some u := by
      rcases Nat.eq_zero_or_pos bs.length with h0 | h0
      · obtain rfl := List.length_eq_zero_iff.1 h0
        intro j u hu; simp [u8s] at hu
      · obtain ⟨ad', e, _, h⟩ := hB h0
        cases e; exact h
    refine wpList_append_own_at _ hgd s x 49 ho base 5 ip _ 1 1 Try.underlying49 hi hz0 hz1 hz2 rfl (by omega) v cs.length (u8s cs) hs hown ad bs.length c (u8s bs) hx (by simp [u8s]) hat (u8s_one bs) (by unfold maxLen; omega) (by omega) hbase ?_
    intro v' X hown' hg _ hat'
    exact h v' X (Ext.push (Chg.refl [] w) hown' (by simp) (by rw [u8s_app]) hg hat')
theorem infoFT : (Try.prog.info? 65).map (fun i => (i.zero, i.size, i.bytes)) = some (some .nilFunc, 1, 8) := by kernel_rfl
theorem buildPT (a b c d e : Int) (w : World) : (Instr.build 174 #[(0, .agg #[.int .u32 a, .int .u32 b, .int .u32 c, .int .u32 d, .int .u32 e])]).run Try.prog w = .ok (.agg (partC [a, b, c, d, e] z44).toArray) w := by kernel_rfl
/-- A part's closure. -/
def CloAt (B : Nat) (w : World) (x : Img) (record : Int) (n : Nat) (b : List Int) (f : Value) (i : Nat) : Prop :=
  ∃ bi bs, f = .func (.func 115) #[] #[.pointer (some ⟨B, 0, none⟩), .pointer (some ⟨B + 1, 0, none⟩), .pointer (some ⟨B + 2, 0, none⟩), .pointer (some ⟨bi, 0, none⟩), .pointer (some ⟨bs, 0, none⟩)] ∧
    w.heap[bi]? = some (.cells #[.int .i64 i] 3 (0, 0)) ∧ w.heap[bs]? = some (.cells (partC [u32 x.gen, u32 x.boot, u32 record, i, n] (partLd b i)).toArray 174 (0, 0))
theorem CloAt.kept {B : Nat} {w w' : World} {x : Img} {record : Int} {n : Nat} {b : List Int} {f : Value} {i : Nat} (h : CloAt B w x record n b f i) {w0 : World} {T : List (Option TypeId)} (hc : ChgT w0 T w w') (h1 : some 3 ∉ T) (h2 : some 174 ∉ T) : CloAt B w' x record n b f i := by
  obtain ⟨bi, bs, e, h3, h4⟩ := h
  exact ⟨bi, bs, e, hc.at h3 h1, hc.at h4 h2⟩
/-- The rows of closures so far. -/
def Clos (w1 w : World) (B : Nat) (x : Img) (record : Int) (n : Nat) (b : List Int) (v : Value) (j : Nat) (wr : World) : Prop :=
  ∃ fs : List Value, wr.ownsRow w1.heap.size 65 1 v j fs ∧ (∀ (k : Nat) f, fs[k]? = some f → CloAt B wr x record n b f k) ∧ (∀ f ∈ fs, f.oneCell' = true) ∧ Chg [] w1 wr
theorem be4_small {n : Nat} (h : n ≤ 32768) : be4 n = [(n : Int) / 16777216, (n : Int) / 65536, (n : Int) / 256, (n : Int) % 256] := by
  have m2 : (n : Int) / 65536 % 256 = n / 65536 := by omega
  have m3 : (n : Int) / 256 % 256 = n / 256 := by omega
  unfold be4
  rw [m2, m3]
theorem splice_part (a b c d e : Int) (l : List Int) (h : l.length ≤ 44) : splice (partC [a, b, c, d, e] z44) 5 (u8s l) = partC [a, b, c, d, e] (padP l) := by
  have h2 : (u8s z44).drop l.length = u8s (List.replicate (44 - l.length) 0) := by unfold u8s z44; rw [← List.map_drop, List.drop_replicate]
  have h3 : (u8s l).length = l.length := by simp [u8s]
  have h4 : (u32s [a, b, c, d, e]).length = 5 := rfl
  simp only [splice, partC, h3]
  rw [List.take_append_of_le_length (by rw [h4]; omega), List.take_of_length_le (by rw [h4]; omega), List.drop_append, h4, List.drop_of_length_le (by rw [h4]; omega), List.nil_append, show 5 + l.length - 5 = l.length from by omega, h2]
  simp [padP, u8s]
theorem own_okind {w : World} {base n : Nat} {e : TypeId} {size : Nat} {v : Value} {xs : List Value} (h : w.ownsRow base e size v n xs) : ∀ k ∈ v.ownBlock.toList, ∀ o, w.heap[k]? = some o → okind o ∈ [some e] := fun k hk o ho => by
  rcases h.2 with ⟨rfl, _⟩ | ⟨g, cap, cur, rfl, hg, hb, r⟩
  · simp [Value.ownBlock] at hk
  · simp [Value.ownBlock] at hk
    subst hk
    rw [hb] at ho; cases ho; simp [okind]
/-- Bytes that a call on pages leaves alone. -/
def BytesK (w0 w : World) (A : Option Addr) (bs : List Int) : Prop := BytesAt w A bs ∧ ∀ ad, 0 < bs.length → A = some ad → ad.block < w0.heap.size ∨ ∃ cs fr, w.heap[ad.block]? = some (.cells cs 5 fr)
theorem BytesK.kept {w0 w w' : World} {A : Option Addr} {bs : List Int} (h : BytesK w0 w A bs) {T : List (Option TypeId)} (hc : ChgT w0 T w w') (h1 : some 5 ∉ T) : BytesK w0 w' A bs := by
  have hbk : ∀ ad, 0 < bs.length → A = some ad → ad.block < w.heap.size → w'.heap[ad.block]? = w.heap[ad.block]? := fun ad hp e hb => hc.block ad.block hb (by
    rcases h.2 ad hp e with h2 | ⟨cs, fr, h2⟩
    · exact .inl h2
    · exact .inr (fun o ho => by rw [h2] at ho; cases ho; exact h1))
  constructor
  · intro hp
    obtain ⟨ad, e, hb, hcell⟩ := h.1 hp
    refine ⟨ad, e, Nat.lt_of_lt_of_le hb hc.size, fun j v hv => ?_⟩
    exact (World.cell?_of_block (w := w) (by rw [add_block]; exact hbk ad hp e hb)).trans (hcell j v hv)
  · intro ad hp e
    obtain ⟨ad', e', hb, _⟩ := h.1 hp
    rw [e] at e'; cases e'
    rcases h.2 ad hp e with h2 | ⟨cs, fr, h2⟩
    · exact .inl h2
    · exact .inr ⟨cs, fr, by rw [hbk ad hp e hb]; exact h2⟩
/-- The closure that writes sector 0. -/
def Step2At (q : Nat) (w : World) (x : Img) (f : Value) : Prop := ∃ bp bx A n c, f = .func (.func 98) #[] #[.pointer (some ⟨bp, 0, none⟩), .pointer (some ⟨bx, 0, none⟩)] ∧ w.heap[bp]? = some (.cells #[.pointer (some ⟨q, 0, none⟩)] 91 (0, 0)) ∧ w.heap[bx]? = some (.cells #[.int .i64 x.gen, .int .i64 x.half, .int .i64 x.boot, .slice A n c] 98 (0, 0))
theorem Step2At.kept {q : Nat} {w w' : World} {x : Img} {f : Value} (h : Step2At q w x f) {w0 : World} {T : List (Option TypeId)} (hc : ChgT w0 T w w') (h1 : some 91 ∉ T) (h2 : some 98 ∉ T) : Step2At q w' x f := by
  obtain ⟨bp, bx, A, n, c, e, h3, h4⟩ := h
  exact ⟨bp, bx, A, n, c, e, hc.at h3 h1, hc.at h4 h2⟩
def MoreIs (w : World) (q : Nat) (x : Img) (mv : Value) (more : List (Int × List Int)) : Prop :=
  (mv = .slice none 0 0 ∧ more = []) ∨ ∃ g f, mv = .slice (some ⟨g, 0, none⟩) 1 1 ∧ more = [(0, x.first)] ∧ w.heap[g]? = some (.cells #[f] 65 (0, 0)) ∧ Step2At q w x f
theorem MoreIs.kept {q : Nat} {w w' : World} {x : Img} {mv : Value} {more : List (Int × List Int)} (h : MoreIs w q x mv more) (hc : Chg [] w w') : MoreIs w' q x mv more := by
  rcases h with h | ⟨g, f, h1, h2, h3, h4⟩
  · exact .inl h
  · exact .inr ⟨g, f, h1, h2, hc.at h3 (by simp), h4.kept (w0 := w) (T := []) (ChgT.of_nil hc) (by simp) (by simp)⟩
theorem Step2At.one {q : Nat} {w : World} {x : Img} {f : Value} (h : Step2At q w x f) : f.oneCell' = true := by obtain ⟨_, _, _, _, _, rfl, _⟩ := h; rfl
theorem wpList_append_more {ops : Array Oper} {rest : List Oper} {o : Oper} {a : Act} {w : World} {Q : Exit → Act → World → Prop} (hgd : o.guard = none) (s y : Operand) (ho : o.op = .call { callee := .builtin .append, args := #[s, y], argTypes := #[178, 178] }) (base : Nat) (v : Value) (n : Nat) (fs : List Value) (hs : a.eval s = v) (hown : w.ownsRow base 65 1 v n fs)
    (q : Nat) (x : Img) (mv : Value) (more : List (Int × List Int)) (hx : a.eval y = mv) (hm : MoreIs w q x mv more) (hn : n ≤ 1000) (hbase : base ≤ w.heap.size)
    (h : ∀ v' w' gs, w'.ownsRow base 65 1 v' (n + more.length) (fs ++ gs) → gs.length = more.length → (∀ (k : Nat) f y, gs[k]? = some f → more[k]? = some y → y = (0, x.first) ∧ Step2At q w x f) → Chg v.ownBlock.toList w w' → wpList Try.prog ops Q rest (a.put o.dst v') w') : wpList Try.prog ops Q (o :: rest) a w := by
  obtain ⟨ip, hi, hz0, hz1, hz2⟩ := info_parts infoFT
  rcases hm with ⟨rfl, rfl⟩ | ⟨g, f, rfl, rfl, hg, h2⟩
  · exact wpList_append_own_none hgd s y 178 ho base 65 ip 1 Try.underlying178 hi v n fs hs hown hx (h v w [] (by simpa using hown) rfl (by simp) (Chg.refl _ _))
  · refine wpList_append_own_at _ hgd s y 178 ho base 65 ip _ 1 8 Try.underlying178 hi hz0 hz1 hz2 rfl (by omega) v n fs hs hown ⟨g, 0, none⟩ 1 1 [f] hx rfl (fun j u hu => by rw [Addr.add_mid]; exact range_all (cs := [f]) hg j u hu) (fun u hu => by simp at hu; subst hu; exact h2.one) (by unfold maxLen; omega) (by omega) hbase ?_
    intro v' w' hown' hgr _ _
    refine h v' w' [f] (by simpa using hown') rfl (fun k f' y hf hy => ?_) (Chg.grown (Chg.refl _ _) hgr (by intro k hk; rw [hk]; simp))
    have hk : k = 0 := by have := (List.getElem?_eq_some_iff.1 hf).1; simp at this; omega
    subst hk
    simp at hf hy
    subst hf hy
    exact ⟨rfl, h2⟩
section
variable {P : Program} {ops : Array Oper} {rest : List Oper} {o : Oper} {a : Act} {w : World} {Q : Exit → Act → World → Prop}
/-- A store of a value of many cells into the middle of a block. -/
theorem wpList_store_at (hgd : o.guard = none) (T : TypeId) (x y : Operand) (ho : o.op = .store T x y) (g k : Nat) (hx : a.eval x = .pointer (some ⟨g, k, none⟩)) (cells : Array Value) (hy : a.eval y = .agg cells)
    (cur : Array Value) (t : TypeId) (hg : w.heap[g]? = some (.cells cur t (0, 0))) (hi : (P.info? T).map (·.size) = some cells.size) (hfit : k + cells.size ≤ cur.size) (h1 : ∀ u ∈ cells.toList, u.oneCell' = true)
    (h : wpList P ops Q rest (a.put o.dst undef) (w.setRow g (cur.toList.take k ++ cells.toList ++ cur.toList.drop (k + cells.size)).toArray)) : wpList P ops Q (o :: rest) a w := by
  refine wpList_runs hgd ?_ h
  have := run_storeCells_at (P := P) g k t cells.toList 0 cur w hg (by simpa using hfit) h1
  cases hq : P.info? T with
  | none => simp [hq] at hi
  | some i =>
    have hs : cells.size = i.size := by simp [hq] at hi; omega
    simp only [Nat.add_zero, Array.length_toList] at this
    simp [execOp, ho, hx, hy, Instr.storeAt, Instr.sureAddr, storeVar, sizeOf, typeInfo, hq, Value.cells, hs, Result.andThen]
    rw [hs] at this
    rw [this]
    simp
end
/-- A call of a function value. -/
theorem wpList_callv {P : Program} {ops : Array Oper} {rest : List Oper} {o : Oper} {a : Act} {w : World} {Q : Exit → Act → World → Prop} (hgd : o.guard = none) (x : Operand) (ho : o.op = .call { callee := .value x, args := #[], argTypes := #[] }) (fid : FuncId) (args : Array Value) (hx : a.eval x = .func (.func fid) #[] args)
    (hcf : ∀ w, (callFunc fid args).run P w = .ok (.enter fid args) w) {R : Value → World → Prop} (hc : Calls P fid args w (fun e w' => ∃ v, e = .returned v ∧ R v w')) (h : ∀ v w', R v w' → wpList P ops Q rest (a.put o.dst v) w') : wpList P ops Q (o :: rest) a w := by
  refine wpList_plain hgd fun K hK => ?_
  have hrun : (execOp a.eval o).run P w = .ok (.enter fid args) w := by
    simp [execOp, ho, hx, resolve, Deferred.ofValue, invoke, hcf, Result.andThen]
  unfold Oper.wp
  rw [hrun, Oper.upon_enter]
  refine hc.mono ?_
  rintro e w' ⟨v, rfl, hr⟩
  exact hK _ _ (h v w' hr)
/-- A step of a write, as a value. -/
def StepAt (B q : Nat) (w : World) (x : Img) (record : Int) (at' n : Nat) (b : List Int) (f : Value) (y : Int × List Int) : Prop :=
  (∃ i, i < n ∧ y = partW x record at' n b i ∧ CloAt B w x record n b f i) ∨ (y = (0, x.first) ∧ Step2At q w x f)
theorem StepAt.kept {B q : Nat} {w w' : World} {x : Img} {record : Int} {at' n : Nat} {b : List Int} {f : Value} {y : Int × List Int} (h : StepAt B q w x record at' n b f y) {w0 : World} {T : List (Option TypeId)} (hc : ChgT w0 T w w') (h1 : some 3 ∉ T) (h2 : some 174 ∉ T) (h3 : some 91 ∉ T) (h4 : some 98 ∉ T) : StepAt B q w' x record at' n b f y := by
  rcases h with ⟨i, hi, e, h⟩ | ⟨e, h⟩
  · exact .inl ⟨i, hi, e, h.kept hc h1 h2⟩
  · exact .inr ⟨e, h.kept hc h3 h4⟩
def WritePost (w0 : World) (p q : Nat) (t : DS × PS × Int) (w : World) (e : Ending) (w' : World) : Prop :=
  e = .returned (.int .i64 t.2.2) ∧ DiskI w0 w' p t.1 ∧ PagesI w0 w' q p t.2.1 ∧ ChgT w0 TP w w'
set_option maxHeartbeats 8000000 in
set_option maxRecDepth 100000 in
theorem write_walk (w0 w : World) (p q : Nat) (D : DS) (P : PS) (x : Img) (xv : Value) (record : Int) (at' : Nat) (Ab : Option Addr) (b : List Int) (cb : Nat) (mv : Value) (more : List (Int × List Int)) (hD : DiskI w0 w p D) (hP : PagesI w0 w q p P) (hxv : RecsA w w0.heap.size xv x.recs) (hxh : 0 ≤ x.half ∧ x.half ≤ 1) (hxl : x.recs.length ≤ 1024)
    (hat : at' ≤ 1024) (hB : BytesK w0 w Ab b) (hBc : Ab = none → b = [] ∧ cb = 0) (hbb : Bytes b) (hbl : b.length ≤ 32768) (hm : MoreIs w q x mv more) (hr : D.Room 1024) :
    Calls Try.prog 97 #[.pointer (some ⟨q, 0, none⟩), .agg #[.int .i64 x.gen, .int .i64 x.half, .int .i64 x.boot, xv], .int .i64 record, .int .i64 at', .slice Ab b.length cb, mv] w (WritePost w0 p q (writeOf D P x record at' b more) w) := by
  obtain ⟨Ax, cx, rfl⟩ := hxv.slice
  obtain ⟨ip, hi, hz0, hz1, hz2⟩ := info_parts infoU8
  have HU8 := Lib.hid (And.intro hi (And.intro hz0 (And.intro hz1 hz2)))
  clear hi hz0 hz1 hz2
  obtain ⟨ip3, hi, hz0, hz1, hz2⟩ := info_parts infoFT
  have HFT := Lib.hid (And.intro hi (And.intro hz0 (And.intro hz1 hz2)))
  clear hi hz0 hz1 hz2
  obtain ⟨hn1, hn2, hn3, hn4, hn5⟩ := partsN_range hbl
  obtain ⟨n, hn⟩ : ∃ n, n = (partsN b.length).toNat := ⟨_, rfl⟩
  rw [← hn] at hn1 hn2 hn3 hn4 hn5
  have HN := Lib.hid (And.intro hn hn3)
  have HD := Lib.hid (And.intro hD (And.intro hP (And.intro hxv (And.intro hr (And.intro hB (And.intro hBc (And.intro hbb hm)))))))
  clear hD hP hxv hr hB hBc hbb hm hn hn3
  obtain ⟨hh0, hh1⟩ := hxh
  have hpc : ∀ W, Calls Try.prog 66 #[.int .i64 b.length] W fun e w' => e = .returned (.int .i64 n) ∧ W = w' := fun W => by rw [HN.out.2]; exact parts_any _ _
  have HPC := Lib.hid hpc
  clear hpc
  go_enter Try.func97, Try.ntmps97
  go_wp2_with (first
    | (at_builtin
       refine wpList_world (fun W1 => W1.heap[w.heap.size]? = some (.cells #[.pointer (some ⟨q, 0, none⟩)] 91 (0, 0)) ∧ W1.heap[w.heap.size + 1]? = some (.cells #[.int .i64 x.gen, .int .i64 x.half, .int .i64 x.boot, .slice Ax x.recs.length cx] 98 (0, 0)) ∧ W1.heap[w.heap.size + 1 + 1]? = some (.cells #[.int .i64 at'] 3 (0, 0)) ∧ W1.heap[w.heap.size + 1 + 1 + 1]? = some (.cells (u8s (be4 b.length)).toArray 5 (0, 0)) ∧ Chg [] w W1)
         ⟨heap_old (heap_old (heap_old (heap_new w _ rfl) _) _) _, heap_old (heap_old (heap_new _ _ (by simp)) _) _, heap_old (heap_new _ _ (by simp)) _, by rw [be4_small hbl]; first | done | exact heap_new _ _ (by simp), (by with_reducible repeat (first | exact Chg.refl _ _ | apply Chg.alloc | apply Chg.drew | apply Chg.drewN | (refine Chg.setCell ?_ _ _ (by simp))))⟩ ?_
       rintro W1 ⟨hb0, hb1, hb2, hb3, hcw⟩
       have hrow : RowB W1 w.heap.size (.slice (some ⟨w.heap.size + 1 + 1 + 1, 0, none⟩) 4 4) (be4 b.length) := ⟨rfl, .inr ⟨_, 4, _, rfl, by omega, hb3, Nat.le_refl _, by unfold maxLen; omega, rfl, rfl⟩⟩
       refine wpList_append_bytes rfl (.tmp 36) (.tmp 37) rfl w.heap.size _ (be4 b.length) (by kernel_rfl) hrow Ab b cb (by kernel_rfl) (HD.out.2.2.2.2.1.1.kept hcw (by simp)) HD.out.2.2.2.2.2.1 (by have : (be4 b.length).length = 4 := rfl; omega) hcw.size ?_
       intro v' W2 hE
       obtain ⟨all, hall⟩ : ∃ all, all = be4 b.length ++ b := ⟨_, rfl⟩
       rw [← hall] at hE
       obtain ⟨Aa, ca, rfl⟩ := hE.1.slice
       have HALL := Lib.hid hall
       have HW2 := Lib.hid (And.intro (hE.2.1.at hb0 (by simp [Value.ownBlock] <;> omega)) (And.intro (hE.2.1.at hb1 (by simp [Value.ownBlock] <;> omega)) (And.intro (hE.2.1.at hb2 (by simp [Value.ownBlock] <;> omega)) (And.intro hE.1 (hcw.andThen hE.2.1 (fun k hk => by simp [Value.ownBlock] at hk; omega))))))
       clear hb0 hb1 hb2 hb3 hcw hrow hE hall
       ((try dsimp only); (try simp only [Act.put, List.setIfInBounds_toArray, List.set_cons_zero, List.set_cons_succ])))
    | (go_at_call 66; refine (HPC.out _).mono ?_; rintro e w' ⟨rfl, rfl⟩)
    | (skip; fail))
  have hla : all.length ≤ b.length + 4 := by rw [HALL.out, List.length_append]; have : (be4 b.length).length = 4 := rfl; omega
  have hlb : b.length + 4 ≤ all.length := by rw [HALL.out, List.length_append]; have : (be4 b.length).length = 4 := rfl; omega
  go_loopw [15, 43] (fun v iv wr => ∃ j : Nat, j ≤ n ∧ iv = .int .i64 j ∧ Hid (Clos W2 w w.heap.size x record n b v j wr)) (fun _ iv _ => n - (intOf iv).toNat)
  case atStart => exact ⟨0, Nat.zero_le _, rfl, Lib.hid ⟨[], World.ownsRow_nil _ _ _ _, by simp, by simp, Chg.refl _ _⟩⟩
  case round =>
    obtain ⟨j, hj, rfl, fs, hfr, hfc, hf1, hc2⟩ := hrel
    have HI := Lib.hid (And.intro hfr (And.intro hfc (And.intro hf1 hc2)))
    have hz : w.heap.size + 1 + 1 < wr.heap.size := by have h1 := hc2.size; have h2 := lt_of_block HW2.out.2.2.1; omega
    by_cases hlt : j < n
    · clear hfr hfc hf1 hc2
      go_upto_region 7 with (fail)
      refine wp_world (fun V => V.heap[wr.heap.size]? = some (.cells #[.int .i64 j] 3 (0, 0)) ∧ Chg [] wr V ∧ V.heap.size = wr.heap.size + 1) ⟨heap_new _ _ rfl, (by with_reducible repeat (first | exact Chg.refl _ _ | apply Chg.alloc | apply Chg.drew | apply Chg.drewN | (refine Chg.setCell ?_ _ _ (by simp)))), by simp⟩ ?_
      rintro V ⟨hv1, hv2, hv3⟩
      obtain ⟨i0, i1, i2, i3, _⟩ := cell4 ((HI.out.2.2.2.trans hv2).at HW2.out.2.1 (by simp))
      have ci := block1 hv1
      have HV := Lib.hid (And.intro hv1 (And.intro hv2 hv3))
      clear hv1 hv2 hv3
      ((try dsimp only); (try simp only [Act.put, List.setIfInBounds_toArray, List.set_cons_zero, List.set_cons_succ]))
      go_wp2_with (first
        | (refine wpList_build rfl 174 #[(0, .tmp 58)] rfl #[(0, .agg #[.int .u32 (x.gen % 4294967296), .int .u32 (x.boot % 4294967296), .int .u32 (record % 4294967296), .int .u32 j, .int .u32 n])] (by kernel_rfl) _ (buildPT _ _ _ _ _) ?_
           ((try dsimp only); (try simp only [Act.put, List.setIfInBounds_toArray, List.set_cons_zero, List.set_cons_succ])))
        | (refine wpList_alloc rfl 174 rfl _ zeroPart ?_
           rw [HV.out.2.2]
           refine wpList_world (fun U => U.heap[wr.heap.size + 1]? = some (.cells (partC z5 z44).toArray 174 (0, 0)) ∧ Chg [] V U) ⟨heap_new _ _ HV.out.2.2.symm, (by with_reducible repeat (first | exact Chg.refl _ _ | apply Chg.alloc | apply Chg.drew | apply Chg.drewN | (refine Chg.setCell ?_ _ _ (by simp))))⟩ ?_
           rintro U ⟨hu1, hu2⟩
           refine wpList_store_row rfl 174 (.tmp 17) (.tmp 59) rfl (wr.heap.size + 1) (by kernel_rfl) (partC [u32 x.gen, u32 x.boot, u32 record, j, n] z44).toArray (by kernel_rfl) _ _ hu1 (partSz (by decide +kernel)) (partSame (by decide +kernel)) (part_one _ _) ?_
           refine wpList_world (fun X => X.heap[wr.heap.size + 1]? = some (.cells (partC [u32 x.gen, u32 x.boot, u32 record, j, n] z44).toArray 174 (0, 0)) ∧ Chg [] V X) ⟨setRow_heap _ _ _ _ _ _ hu1, hu2.andThen (setRow_chg _ _ _) (by have := HV.out.2.2; simp; omega)⟩ ?_
           rintro X ⟨hx1, hx2⟩
           have ci2 := hx2.cell ci (by simp)
           have HX := Lib.hid (And.intro hx1 hx2)
           clear hu1 hu2 hx1 hx2 i0 i1 i2 i3 ci
           ((try dsimp only); (try simp only [Act.put, List.setIfInBounds_toArray, List.set_cons_zero, List.set_cons_succ])))
        | (skip; fail))
      have hga := HW2.out.2.2.2.1
      obtain ⟨ga, hAa, hg1, hg2, hcap, hcell⟩ := own_row hga (by omega)
      subst hAa
      have hj44 : j * 44 < all.length := by omega
      have w44 : IntKind.i64.wrap ((j : Int) * 44) = j * 44 := IntWalk.i64_in _ (by omega)
      have t44 : ((j : Int) * 44).toNat = j * 44 := by omega
      have hcs : ((all.drop (j * 44)).take 44).length = Nat.min (all.length - j * 44) 44 := by rw [List.length_take, List.length_drop]; exact Nat.min_comm _ _
      have hac : ∀ W, Chg [] W2 W → ∀ k u, (u8s ((all.drop (j * 44)).take 44))[k]? = some u → W.cell? ((⟨ga, j * 44, none⟩ : Addr).add k) = some u := by
        intro W hW k u hu
        rw [Addr.add_mid]
        refine hW.cell (hcell (j * 44 + k) u ?_) (by simp)
        rw [u8s, ← hu, u8s, List.getElem?_map, List.getElem?_map]
        rw [List.getElem?_take_of_lt (by have := (List.getElem?_eq_some_iff.1 hu).1; simp [u8s] at this; omega), List.getElem?_drop]
      have HAC := Lib.hid (And.intro hac hcs)
      clear hga hcell hac hcs
      refine wp_region_M (fun _ => True) (fun k => [6].contains k) (fun k => [6].contains k) (by kernel_rfl) ?_
      ((try dsimp only); (try simp only [Act.put, List.setIfInBounds_toArray, List.set_cons_zero, List.set_cons_succ]))
      refine M_pure (i := 0) (v := ?_) rfl (by kernel_rfl) (by kernel_rfl) (by kernel_rfl) (fun _ _ _ h => h) (by rfl) ?hy ?_; (case hy => (intro w; go_simp; with_reducible rfl)); ((try dsimp only); (try simp only [Act.put, List.setIfInBounds_toArray, List.set_cons_zero, List.set_cons_succ]))
      refine M_pure (i := 1) (v := ?_) rfl (by kernel_rfl) (by kernel_rfl) (by kernel_rfl) (fun _ _ _ h => h) (by rfl) ?hy ?_; (case hy => (intro w; go_simp; with_reducible rfl)); ((try dsimp only); (try simp only [Act.put, List.setIfInBounds_toArray, List.set_cons_zero, List.set_cons_succ]))
      refine M_pure (i := 2) (v := ?_) rfl (by kernel_rfl) (by kernel_rfl) (by kernel_rfl) (fun _ _ _ h => h) (by rfl) ?hy ?_; (case hy => (intro w; go_simp; with_reducible rfl)); ((try dsimp only); (try simp only [Act.put, List.setIfInBounds_toArray, List.set_cons_zero, List.set_cons_succ]))
      refine M_take (i := 3) (v := ?_) rfl (by kernel_rfl) (by kernel_rfl) (by kernel_rfl) (by kernel_rfl) (fun _ _ _ h => h) (by rfl) ?hy ?_; (case hy => (go_simp; with_reducible rfl)); ((try dsimp only); (try simp only [Act.put, List.setIfInBounds_toArray, List.set_cons_zero, List.set_cons_succ]))
      refine M_pure (i := 4) (v := ?_) rfl (by kernel_rfl) (by kernel_rfl) (by kernel_rfl) (fun _ _ _ h => h) (by rfl) ?hy ?_; (case hy => (intro w; go_simp; with_reducible rfl)); ((try dsimp only); (try simp only [Act.put, List.setIfInBounds_toArray, List.set_cons_zero, List.set_cons_succ]))
      refine M_pure (i := 5) (v := .slice (some ⟨ga, j * 44, none⟩) (all.length - j * 44) (ca - j * 44)) rfl (by kernel_rfl) (by kernel_rfl) (by kernel_rfl) (fun _ _ _ h => h) (by kernel_rfl) ?hy ?_
      case hy =>
        intro w
        go_simp
        rw [if_pos (by omega), if_neg (by omega)]
      ((try dsimp only); (try simp only [Act.put, List.setIfInBounds_toArray, List.set_cons_zero, List.set_cons_succ]))
      have HX3 := Lib.hid ((HI.out.2.2.2.trans HV.out.2.1).trans HX.out.2)
      clear w44 t44
      refine M_brk (i := 6) rfl (by kernel_rfl) (by rfl) (by rfl) ?_
      refine wpList_copy_splice rfl (.tmp 61) (.tmp 65) 49 49 rfl 5 Try.underlying49 szU8 (some ⟨wr.heap.size + 1, 5, none⟩) (some ⟨ga, j * 44, none⟩) 44 44 (all.length - j * 44) (ca - j * 44) (by kernel_rfl) (by kernel_rfl) (wr.heap.size + 1) 5 (partC [u32 x.gen, u32 x.boot, u32 record, j, n] z44) 174 HX.out.1 (u8s ((all.drop (j * 44)).take 44)) (by rw [← HAC.out.2]; simp [u8s]) (fun _ => ⟨rfl, _, rfl, HAC.out.1 _ HX3.out.drew⟩) ?c2 (u8s_one _) V.heap.size V HX.out.2.drew.below (by rw [HV.out.2.2]; exact Nat.le_refl _) ?_
      case c2 =>
        have h1 : (u8s ((all.drop (j * 44)).take 44)).length ≤ 44 := by simp [u8s]; omega
        have h2 : (partC [u32 x.gen, u32 x.boot, u32 record, j, n] z44).length = 49 := by simp [partC, u32s, u8s, z44]
        omega
      intro Y hy1 hy2
      have hyb : Y.heap[wr.heap.size + 1]? = some (.cells (partC [u32 x.gen, u32 x.boot, u32 record, j, n] (partLd b j)).toArray 174 (0, 0)) := by
        have := hy1.out
        rwa [splice_part _ _ _ _ _ _ (by rw [List.length_take]; omega), HALL.out, Nat.mul_comm j 44] at this
      have hyc : Chg [] V Y := Chg.of_below hy2
      have hyi := hyc.at HV.out.1 (by simp)
      have HY := Lib.hid (And.intro hyb (And.intro hyc hyi))
      clear hy1 hy2 hyb hyc hyi
      refine wpList_nil ?_
      ((try dsimp only [EffQ]); (try simp only [Act.put, List.setIfInBounds_toArray, List.set_cons_zero, List.set_cons_succ]))
      refine M_done (by kernel_rfl) ?_ _
      have hsz : wr.heap.size + 1 < Y.heap.size := lt_of_block HY.out.1
      have hmf : ∀ (fn : Fn) (first cap : Array Value) (w : World), (Instr.makeFunc fn first cap).run Try.prog w = .ok (.func fn first cap) w := fun _ _ _ _ => rfl
      obtain ⟨f, hf⟩ : ∃ f, f = Value.func (.func 115) #[] #[.pointer (some ⟨w.heap.size, 0, none⟩), .pointer (some ⟨w.heap.size + 1, 0, none⟩), .pointer (some ⟨w.heap.size + 1 + 1, 0, none⟩), .pointer (some ⟨wr.heap.size, 0, none⟩), .pointer (some ⟨wr.heap.size + 1, 0, none⟩)] := ⟨_, rfl⟩
      have HF := Lib.hid hf
      clear hf
      have hbase : W2.heap.size ≤ Y.heap.size := ((HI.out.2.2.2.trans HV.out.2.1).trans HY.out.2.1).size
      go_wp2_with (first
        | (refine wpList_append_own_at _ rfl (.tmp 67) (.tmp 69) 178 rfl W2.heap.size 65 ip3 _ 1 8 Try.underlying178 HFT.out.1 HFT.out.2.1 HFT.out.2.2.1 HFT.out.2.2.2 rfl (by omega) u15 j fs (by kernel_rfl) (own_kept HI.out.1 ((HV.out.2.1.trans HY.out.2.1).alloc _) (by simp)) ⟨Y.heap.size, 0, none⟩ 1 1 [f] (by kernel_rfl) rfl (by rw [HF.out]; exact cell_one_new _ _ _) (by rw [HF.out]; simp [Value.oneCell']) (by unfold maxLen; omega) (by omega) (by simp; omega) ?_
           intro v' W3 hown hgr _ hat
           have HG := Lib.hid (And.intro hown hgr)
           clear hown hgr hat
           ((try dsimp only); (try simp only [Act.put, List.setIfInBounds_toArray, List.set_cons_zero, List.set_cons_succ])))
        | (skip; fail))
      go_roundw
      case rel =>
        have hgr := HG.out.2
        rw [← HF.out] at hgr
        have hc3 : Chg [] wr (Y.alloc (.cells #[f] 65)) := (HV.out.2.1.trans HY.out.2.1).alloc _
        have hC := (hc3.mono (l' := u15.ownBlock.toList) (by simp)).grown hgr (by intro k hk; rw [hk]; simp)
        have hT : ChgT w [some 65] wr W3 := ChgT.of_chg hC (fun k hk _ => ⟨Nat.le_trans HW2.out.2.2.2.2.size (HI.out.1.lt k (by simpa using hk)).1, fun o ho => own_okind HI.out.1 k hk o ho⟩)
        have hn1 : wr.heap.size ∉ u15.ownBlock.toList := fun hm => by have := (HI.out.1.lt _ (by simpa using hm)).2; omega
        have hn2 : wr.heap.size + 1 ∉ u15.ownBlock.toList := fun hm => by have := (HI.out.1.lt _ (by simpa using hm)).2; omega
        have hg2 : Chg u15.ownBlock.toList (Y.alloc (.cells #[f] 65)) W3 := Chg.grown (Chg.refl _ _) hgr (by intro k hk; rw [hk]; simp)
        refine ⟨j + 1, by omega, by go_num, Lib.hid ⟨fs ++ [f], HG.out.1, fun k g hk => ?_, fun g hg => ?_, HI.out.2.2.2.andThen hC (fun k hk => .inr ?_)⟩⟩
        · have hfl : fs.length = j := by have := HI.out.1.1; omega
          rcases Nat.lt_or_ge k fs.length with h1 | h1
          · rw [List.getElem?_append_left h1] at hk
            exact (HI.out.2.1 k g hk).kept hT (by decide) (by decide)
          · rw [List.getElem?_append_right h1] at hk
            have h2 : k - fs.length = 0 := by have := (List.getElem?_eq_some_iff.1 hk).1; simp at this; omega
            rw [h2] at hk
            simp at hk
            subst hk
            obtain rfl : k = j := by omega
            exact ⟨wr.heap.size, wr.heap.size + 1, HF.out, hg2.at (heap_old HY.out.2.2 _) hn1, hg2.at (heap_old HY.out.1 _) hn2⟩
        · rcases List.mem_append.1 hg with h1 | h1
          · exact HI.out.2.2.1 g h1
          · simp at h1; subst h1; rw [HF.out]; rfl
        · exact (HI.out.1.lt k (by simpa using hk)).1
      case measure => simp [intOf]; omega
    · obtain rfl : j = n := by omega
      have hws : (partWs x record at' b).length = j := by unfold partWs; rw [List.length_map, List.length_range]; exact HN.out.1.symm
      have hmw := HD.out.2.2.2.2.2.2.2.kept ((HW2.out.2.2.2.2).trans hc2)
      have hml : more.length ≤ 1 := by rcases hmw with ⟨_, e⟩ | ⟨_, _, _, e, _⟩ <;> simp [e]
      have HM := Lib.hid (And.intro hmw hws)
      clear hfr hfc hf1 hc2 hmw hws
      have hb2 : W2.heap.size ≤ wr.heap.size := HI.out.2.2.2.size
      go_wp2_with (first
        | (refine wpList_append_more rfl (.tmp 72) (.tmp 73) rfl W2.heap.size u15 j fs (by kernel_rfl) HI.out.1 q x mv more (by kernel_rfl) HM.out.1 (by omega) hb2 ?_
           intro v' X gs hown hgl hgs hcx
           obtain ⟨N, hN⟩ : ∃ N, N = j + more.length := ⟨_, rfl⟩
           rw [← hN] at hown
           obtain ⟨As, cs, rfl⟩ := own_slice hown
           have HX := Lib.hid (And.intro hown (And.intro hgl (And.intro hgs (And.intro hcx hN))))
           clear hown hgl hgs hcx hN
           ((try dsimp only); (try simp only [Act.put, List.setIfInBounds_toArray, List.set_cons_zero, List.set_cons_succ])))
        | (skip; fail))
      have hcx := HX.out.2.2.2.1
      have hcxT : ChgT w [some 65] wr X := ChgT.of_chg hcx (fun k hk _ => ⟨Nat.le_trans HW2.out.2.2.2.2.size (HI.out.1.lt k (by simpa using hk)).1, fun o ho => own_okind HI.out.1 k hk o ho⟩)
      have hwX : Chg [] w X := (HW2.out.2.2.2.2.trans HI.out.2.2.2).andThen hcx (fun k hk => .inr (Nat.le_trans HW2.out.2.2.2.2.size (HI.out.1.lt k (by simpa using hk)).1))
      have hW2X : Chg [] W2 X := HI.out.2.2.2.andThen hcx (fun k hk => .inr (HI.out.1.lt k (by simpa using hk)).1)
      obtain ⟨ws, hwse⟩ : ∃ ws, ws = partWs x record at' b ++ more := ⟨_, rfl⟩
      have hwl : ws.length = N := by rw [hwse, List.length_append, HM.out.2, HX.out.2.2.2.2]
      have hall : ∀ (k : Nat) f y, (fs ++ gs)[k]? = some f → ws[k]? = some y → StepAt w.heap.size q X x record at' j b f y := by
        intro k f y hf hy
        have hfl : fs.length = j := by have := HI.out.1.1; omega
        rw [hwse] at hy
        rcases Nat.lt_or_ge k j with h1 | h1
        · rw [List.getElem?_append_left (by omega)] at hf
          rw [List.getElem?_append_left (by rw [HM.out.2]; exact h1)] at hy
          refine .inl ⟨k, h1, ?_, (HI.out.2.1 k f hf).kept hcxT (by decide) (by decide)⟩
          unfold partWs at hy
          rw [← HN.out.1, List.getElem?_map, List.getElem?_range h1] at hy
          simpa using hy.symm
        · rw [List.getElem?_append_right (by omega), hfl] at hf
          rw [List.getElem?_append_right (by rw [HM.out.2]; exact h1), HM.out.2] at hy
          obtain ⟨h2, h3⟩ := HX.out.2.2.1 _ f y hf hy
          exact .inr ⟨h2, h3.kept hcxT (by decide) (by decide)⟩
      have hbx := And.intro (hW2X.at HW2.out.1 (by simp)) (And.intro (hW2X.at HW2.out.2.1 (by simp)) (hW2X.at HW2.out.2.2.1 (by simp)))
      have HY := Lib.hid (And.intro hwX (And.intro hall (And.intro hwl (And.intro hwse (And.intro hbx HX.out.1)))))
      have hN7 : N ≤ 746 := by have := HX.out.2.2.2.2; omega
      have HRUN := Lib.hid (show writeOf D P x record at' b more = (if (D.run ws).2 = 0 then ((D.run ws).1, ⟨{ x with recs := x.recs ++ [b] }, at' + j, P.dead⟩, 0) else ((D.run ws).1, { P with dead := true }, (D.run ws).2)) by rw [hwse, HN.out.1]; rfl)
      clear hcx hcxT hwX hW2X hall hwl hwse hbx
      go_loopw [76] (fun iv wz => ∃ (k : Nat) (E : DS), k ≤ N ∧ iv = .int .i64 k ∧ Hid (E.run (ws.drop k) = D.run ws ∧ DiskI w0 wz p E ∧ ChgT w0 TD X wz ∧ E.Room (1024 - k))) (fun iv _ => N - (intOf iv).toNat)
      case atStart => exact ⟨0, D, Nat.zero_le _, rfl, Lib.hid ⟨by rw [List.drop_zero], HD.out.1.kept0 HY.out.1, ChgT.refl _ _ _, HD.out.2.2.2.1⟩⟩
      case round =>
        obtain ⟨k, E, hk, rfl, HE⟩ := hrel
        have hpi : PagesI w0 wr q p P := (HD.out.2.1.kept0 HY.out.1).kept HE.out.2.2.1 (by decide) (by decide) (by decide)
        have HPI := Lib.hid hpi
        clear hpi
        by_cases hlt : k < N
        · obtain ⟨y, hy⟩ : ∃ y, ws[k]? = some y := ⟨_, List.getElem?_eq_getElem (by rw [HY.out.2.2.1]; exact hlt)⟩
          have hown := HE.out.2.2.1.own HY.out.2.2.2.2.2 (by decide)
          have hfl : (fs ++ gs).length = N := by have := hown.1; omega
          obtain ⟨f, hf⟩ : ∃ f, (fs ++ gs)[k]? = some f := ⟨_, List.getElem?_eq_getElem (by omega)⟩
          have hsa := (HY.out.2.1 k f y hf hy).kept HE.out.2.2.1 (by decide) (by decide) (by decide) (by decide)
          obtain ⟨gS, hAs, _, _, _, hcell⟩ := own_row hown (by omega)
          subst hAs
          have cf := hcell k f hf
          have hst : ∃ fid args, f = .func (.func fid) #[] args ∧ (∀ w, (callFunc fid args).run Try.prog w = .ok (.enter fid args) w) ∧ Calls Try.prog fid args wr (fun e w' => e = .returned (.int .i64 (E.err y.1 y.2)) ∧ DiskI w0 w' p (E.write y.1 y.2) ∧ ChgT w0 TD wr w') := by
            rcases hsa with ⟨i, hi, rfl, bi, bs, rfl, h4, h5⟩ | ⟨rfl, bp, bx, A, m, c, rfl, h3, h4⟩
            · refine ⟨_, _, rfl, fun _ => by kernel_rfl, ?_⟩
              exact step1_any w0 wr p q w.heap.size (w.heap.size + 1) (w.heap.size + 2) bi bs E P x.gen x.half x.boot _ at' i (u32 x.gen) (u32 x.boot) (u32 record) i j (partLd b i) HE.out.2.1 (HE.out.2.2.2.less (by omega)) HPI.out (HE.out.2.2.1.at HY.out.2.2.2.2.1.1 (by simp [okind, TD])) (HE.out.2.2.1.at HY.out.2.2.2.2.1.2.1 (by simp [okind, TD])) (HE.out.2.2.1.at HY.out.2.2.2.2.1.2.2 (by simp [okind, TD])) h4 h5 (partLd_len b i) (partLd_bytes HD.out.2.2.2.2.2.2.1 hbl i) (by unfold u32; omega) (by unfold u32; omega) (by unfold u32; omega) (by omega) (by omega) hh0 hh1 hat (by omega)
            · exact ⟨_, _, rfl, fun _ => by kernel_rfl, step2_any w0 wr p q bp bx E P x.gen x.half x.boot A m c HE.out.2.1 (HE.out.2.2.2.less (by omega)) HPI.out h3 h4⟩
          obtain ⟨fid, args, rfl, hcf, hcall⟩ := hst
          have hdr : E.run (ws.drop k) = (if E.err y.1 y.2 = 0 then (E.write y.1 y.2).run (ws.drop (k + 1)) else (E.write y.1 y.2, E.err y.1 y.2)) := by
            rw [List.drop_eq_getElem_cons (by rw [HY.out.2.2.1]; exact hlt)]
            have : ws[k]'(by rw [HY.out.2.2.1]; exact hlt) = y := by rw [List.getElem?_eq_getElem (by rw [HY.out.2.2.1]; exact hlt)] at hy; exact Option.some.inj hy
            rw [this]; rfl
          rw [HE.out.1] at hdr
          obtain ⟨er, her⟩ : ∃ er, er = E.err y.1 y.2 := ⟨_, rfl⟩
          rw [← her] at hcall hdr
          have hcall' : Calls Try.prog fid args wr (fun e w' => ∃ v, e = .returned v ∧ (v = .int .i64 er ∧ DiskI w0 w' p (E.write y.1 y.2) ∧ ChgT w0 TD wr w')) := hcall.mono fun e w' h => ⟨_, h.1, rfl, h.2⟩
          have HC := Lib.hid (And.intro hcall' (And.intro hdr hcf))
          clear hcall' hcf
          have hkl : 1 ≤ 1024 - k := by omega
          have hrm := DS.Room.write (D := E) (k := 1024 - (k + 1)) (by rw [show 1024 - (k + 1) + 1 = 1024 - k from by omega]; exact HE.out.2.2.2) y.1 y.2
          have HRM := Lib.hid hrm
          clear hy hown hfl hf hsa hcell hcall hdr her hrm
          by_cases hez : er = 0
          · subst hez
            go_wp2_with (first
              | (refine wpList_callv rfl (.tmp 80) rfl fid args (by kernel_rfl) HC.out.2.2 HC.out.1 ?_
                 rintro v V ⟨rfl, hv1, hv2⟩
                 have HV := Lib.hid (And.intro hv1 hv2)
                 clear hv1 hv2
                 ((try dsimp only); (try simp only [Act.put, List.setIfInBounds_toArray, List.set_cons_zero, List.set_cons_succ])))
              | (skip; fail))
            go_roundw
            case rel => exact ⟨k + 1, E.write y.1 y.2, by omega, by go_num, Lib.hid ⟨by have := HC.out.2.1; rw [if_pos rfl] at this; exact this.symm, HV.out.1, HE.out.2.2.1.trans HV.out.2, HRM.out⟩⟩
            case measure => simp [intOf]; omega
          · have e2 : (er != 0) = true := by simpa using hez
            have e3 : (er == 0) = false := by simpa using hez
            have hdr := HC.out.2.1
            rw [if_neg hez] at hdr
            have hq : HRUN = HRUN := rfl
            have hwr : writeOf D P x record at' b more = (E.write y.1 y.2, { P with dead := true }, er) := by rw [HRUN.out, hdr, if_neg hez]
            have HWR := Lib.hid hwr
            clear hdr hq hwr hez
            go_wp2_with (first
              | (refine wpList_callv rfl (.tmp 80) rfl fid args (by kernel_rfl) HC.out.2.2 HC.out.1 ?_
                 rintro v V ⟨rfl, hv1, hv2⟩
                 have hpv := HPI.out.kept hv2 (by decide) (by decide) (by decide)
                 have hb0 := (HE.out.2.2.1.trans hv2).at HY.out.2.2.2.2.1.1 (by simp [okind, TD])
                 obtain ⟨pv, hpb, hpr, hpq⟩ := hpv
                 have cb0 := block1 hb0
                 obtain ⟨_, _, _, _, _, _, cd, cf6⟩ := cell7 hpb
                 have cf6' := cf6 6
                 have HV := Lib.hid (And.intro hv1 (And.intro hv2 (And.intro hpb (And.intro hpr hpq))))
                 clear hv1 hv2 hb0 hpb hpr cf6
                 ((try dsimp only); (try simp only [Act.put, List.setIfInBounds_toArray, List.set_cons_zero, List.set_cons_succ])))
              | (skip; fail))
            go_ret
            rw [HWR.out]
            have hcs : Chg [q] V (V.setCell ⟨q, 6, none⟩ (.bool true)) := (Chg.refl _ _).setCell _ _ (by simp)
            have hts : ChgT w0 [some 152] V (V.setCell ⟨q, 6, none⟩ (.bool true)) := ChgT.of_chg hcs (fun k hk _ => by simp at hk; subst hk; exact ⟨HV.out.2.2.2.2, fun o ho => by rw [HV.out.2.2.1] at ho; cases ho; simp [okind]⟩)
            refine ⟨rfl, HV.out.1.kept hts (by decide) (by decide) (by decide), ⟨_, heap_setCell_same V q 6 _ _ (.bool true) HV.out.2.2.1, HV.out.2.2.2.1.kept hts (by decide) (by decide), HV.out.2.2.2.2⟩, ?_⟩
            exact (TD_TP (((ChgT.of_nil HY.out.1).trans HE.out.2.2.1).trans HV.out.2.1)).trans (hts.mono (by decide))
        · obtain rfl : k = N := by omega
          have hdr : (E, (0 : Int)) = D.run ws := by
            have := HE.out.1
            rw [List.drop_of_length_le (by rw [HY.out.2.2.1]; exact Nat.le_refl _)] at this
            exact this
          have hwr : writeOf D P x record at' b more = (E, ⟨{ x with recs := x.recs ++ [b] }, at' + j, P.dead⟩, 0) := by rw [HRUN.out, ← hdr]; rfl
          have HWR := Lib.hid hwr
          clear hdr hwr
          obtain ⟨hs, hrow, hh⟩ := HD.out.2.2.1
          have hxc : x.recs.length ≤ cx := by
            rcases hrow.2 with ⟨he, hz⟩ | ⟨g, c', cur, he, hb, hg, h1, h2, h3, h4⟩
            · omega
            · injection he with _ _ e3; rw [e3]; exact h1
          have hcw := HY.out.1
          have hbx1 := HE.out.2.2.1.at HY.out.2.2.2.2.1.2.1 (by simp [okind, TD])
          obtain ⟨_, _, _, g3, _⟩ := cell4 hbx1
          have HR := Lib.hid (And.intro hrow (And.intro hh hbx1))
          clear hrow hh hbx1 hcw
          go_wp2_with fail
          refine wp_region_M (fun W => W.cell? ⟨w.heap.size + 1, 3, none⟩ = some (.slice Ax x.recs.length cx)) (fun k => [10, 11, 12, 14].contains k) (fun k => [14].contains k) (by kernel_rfl) ?_
          ((try dsimp only); (try simp only [Act.put, List.setIfInBounds_toArray, List.set_cons_zero, List.set_cons_succ]))
          refine M_pure (i := 0) (v := ?_) rfl (by kernel_rfl) (by kernel_rfl) (by kernel_rfl) (fun _ _ _ h => h) (by rfl) ?hy ?_; (case hy => (intro w; go_simp; with_reducible rfl)); ((try dsimp only); (try simp only [Act.put, List.setIfInBounds_toArray, List.set_cons_zero, List.set_cons_succ]))
          refine M_semi (i := 1) (v := ?_) rfl (by kernel_rfl) (by kernel_rfl) (by kernel_rfl) (by kernel_rfl) (fun _ _ _ h => h) (by rfl) g3 ?hy ?_; (case hy => (intro w hS; go_simp; with_reducible rfl)); ((try dsimp only); (try simp only [Act.put, List.setIfInBounds_toArray, List.set_cons_zero, List.set_cons_succ]))
          refine M_pure (i := 2) (v := ?_) rfl (by kernel_rfl) (by kernel_rfl) (by kernel_rfl) (fun _ _ _ h => h) (by rfl) ?hy ?_; (case hy => (intro w; go_simp; with_reducible rfl)); ((try dsimp only); (try simp only [Act.put, List.setIfInBounds_toArray, List.set_cons_zero, List.set_cons_succ]))
          refine M_semi (i := 3) (v := ?_) rfl (by kernel_rfl) (by kernel_rfl) (by kernel_rfl) (by kernel_rfl) (fun _ _ _ h => h) (by rfl) g3 ?hy ?_; (case hy => (intro w hS; go_simp; with_reducible rfl)); ((try dsimp only); (try simp only [Act.put, List.setIfInBounds_toArray, List.set_cons_zero, List.set_cons_succ]))
          refine M_pure (i := 4) (v := ?_) rfl (by kernel_rfl) (by kernel_rfl) (by kernel_rfl) (fun _ _ _ h => h) (by rfl) ?hy ?_; (case hy => (intro w; go_simp; with_reducible rfl)); ((try dsimp only); (try simp only [Act.put, List.setIfInBounds_toArray, List.set_cons_zero, List.set_cons_succ]))
          refine M_pure (i := 5) (v := ?_) rfl (by kernel_rfl) (by kernel_rfl) (by kernel_rfl) (fun _ _ _ h => h) (by rfl) ?hy ?_; (case hy => (intro w; go_simp; with_reducible rfl)); ((try dsimp only); (try simp only [Act.put, List.setIfInBounds_toArray, List.set_cons_zero, List.set_cons_succ]))
          refine M_semi (i := 6) (v := ?_) rfl (by kernel_rfl) (by kernel_rfl) (by kernel_rfl) (by kernel_rfl) (fun _ _ _ h => h) (by rfl) g3 ?hy ?_; (case hy => (intro w hS; go_simp; with_reducible rfl)); ((try dsimp only); (try simp only [Act.put, List.setIfInBounds_toArray, List.set_cons_zero, List.set_cons_succ]))
          refine M_pure (i := 7) (v := ?_) rfl (by kernel_rfl) (by kernel_rfl) (by kernel_rfl) (fun _ _ _ h => h) (by rfl) ?hy ?_; (case hy => (intro w; go_simp; with_reducible rfl)); ((try dsimp only); (try simp only [Act.put, List.setIfInBounds_toArray, List.set_cons_zero, List.set_cons_succ]))
          refine M_pure (i := 8) (v := .slice Ax x.recs.length x.recs.length) rfl (by kernel_rfl) (by kernel_rfl) (by kernel_rfl) (fun _ _ _ h => h) (by kernel_rfl) ?hy ?_
          case hy =>
            intro w
            go_simp
          ((try dsimp only); (try simp only [Act.put, List.setIfInBounds_toArray, List.set_cons_zero, List.set_cons_succ]))
          refine M_pure (i := 9) (v := ?_) rfl (by kernel_rfl) (by kernel_rfl) (by kernel_rfl) (fun _ _ _ h => h) (by rfl) ?hy ?_; (case hy => (intro w; go_simp; with_reducible rfl)); ((try dsimp only); (try simp only [Act.put, List.setIfInBounds_toArray, List.set_cons_zero, List.set_cons_succ]))
          have hcwr : ChgT w0 TD w wr := (ChgT.of_nil HY.out.1).trans HE.out.2.2.1
          have hbk := HD.out.2.2.2.2.1.kept hcwr (by decide)
          have hrow3 := hcwr.own HR.out.1 (by decide)
          have hh3 : ∀ (i : Nat) h r, hs[i]? = some h → x.recs[i]? = some r → RowB wr 0 h r := fun i h r h1 h2 => hcwr.own (HR.out.2.1 i h r h1 h2) (by decide)
          have HR3 := Lib.hid (And.intro hrow3 (And.intro hh3 (And.intro hbk hcwr)))
          clear hrow3 hh3 hbk hcwr
          refine M_eff (i := 10) rfl (by kernel_rfl) (by rfl) ?_
          refine wpList_append_copy rfl (.const (.slice none 0 0)) (.tmp 98) rfl rfl Ab b cb (by kernel_rfl) (HR3.out.2.2.1.1.kept (Chg.refl [] wr).drew (by simp)) HD.out.2.2.2.2.2.1 (by omega) ?_
          intro v' U1 hrv hcu1
          obtain ⟨A1, c1, rfl⟩ := hrv.slice
          have hd1 : Chg [] wr U1 := (Chg.refl [] wr).drew.trans hcu1
          have k3 := hd1.cell g3 (by simp)
          have HU1 := Lib.hid (And.intro hd1 (hrv.base (Nat.zero_le _)))
          clear hcu1 hd1 hrv
          refine wpList_nil ⟨k3, ?_⟩
          ((try dsimp only); (try simp only [Act.put, List.setIfInBounds_toArray, List.set_cons_zero, List.set_cons_succ]))
          refine M_eff (i := 11) rfl (by kernel_rfl) (by rfl) ?_
          go_wp2_with fail
          refine ⟨by exact (Chg.alloc (Chg.refl [] U1) _).cell k3 (by simp), ?_⟩
          ((try dsimp only); (try simp only [Act.put, List.setIfInBounds_toArray, List.set_cons_zero, List.set_cons_succ]))
          have hcwa : Chg [] wr (U1.alloc (.cells #[.slice A1 b.length c1] 49)) := HU1.out.1.alloc _
          have hrow2 := own_kept HR3.out.1 hcwa (by simp)
          have hh2 : ∀ (i : Nat) h r, hs[i]? = some h → x.recs[i]? = some r → RowB (U1.alloc (.cells #[.slice A1 b.length c1] 49)) 0 h r := fun i h r h1 h2 => (HR3.out.2.1 i h r h1 h2).kept hcwa (by simp)
          have hrb2 : RowB (U1.alloc (.cells #[.slice A1 b.length c1] 49)) 0 (.slice A1 b.length c1) b := HU1.out.2.kept (Chg.alloc (Chg.refl [] U1) _) (by simp)
          have HW4 := Lib.hid (And.intro hrow2 (And.intro hh2 (And.intro hrb2 hcwa)))
          obtain ⟨ip2, hi, hz0, hz1, hz2⟩ := info_parts infoBS
          have HBS := Lib.hid (And.intro hi (And.intro hz0 (And.intro hz1 hz2)))
          have hsl : hs.length = x.recs.length * 1 := HR3.out.1.1
          have HSL := Lib.hid hsl
          clear hi hz0 hz1 hz2 hcwa hrow2 hh2 hrb2 hsl
          refine M_eff (i := 12) rfl (by kernel_rfl) (by rfl) ?_
          refine wpList_append_grows _ rfl (.tmp 97) (.tmp 100) 96 rfl 49 ip2 _ 1 24 Try.underlying96 HBS.out.1 HBS.out.2.1 HBS.out.2.2.1 HBS.out.2.2.2 rfl (by omega) Ax x.recs.length x.recs.length hs (by kernel_rfl) ?n1 HSL.out ?n2 ⟨U1.heap.size, 0, none⟩ 1 1 [.slice A1 b.length c1] (by kernel_rfl) rfl (cell_one_new _ _ _) (by simp [Value.oneCell']) (by omega) (by unfold maxLen; omega) (by omega) ?_
          case n1 =>
            intro e
            subst e
            rcases HW4.out.1.2 with ⟨_, hz⟩ | ⟨g, c', cur, he, _⟩
            · exact ⟨hz, hz⟩
            · cases he
          case n2 =>
            intro ad e j u hu
            subst e
            rcases HW4.out.1.2 with ⟨he, hz⟩ | ⟨g, c', cur, he, _⟩
            · cases he
            · injection he with e1; injection e1 with e1; subst e1
              exact HW4.out.1.cells (g := g) rfl j u hu
          intro v2 U2 hown2 hgr2
          have hc2 : Chg [] (U1.alloc (.cells #[.slice A1 b.length c1] 49)) U2 := Chg.grown (Chg.refl _ _) hgr2 (by simp)
          have hrec2 := RecsA.push (l := []) HW4.out.1 HW4.out.2.1 HW4.out.2.2.1 hown2 hc2 (by simp)
          have k4 := hc2.cell ((Chg.alloc (Chg.refl [] U1) (.cells #[.slice A1 b.length c1] 49)).cell k3 (by simp)) (by simp)
          obtain ⟨A2, c2', rfl⟩ := own_slice hown2
          have hwU : Chg [] wr U2 := HW4.out.2.2.2.trans hc2
          have hbU := hwU.at HR.out.2.2 (by simp)
          have kf := (cell4 hbU).2.2.2.2 3
          have HU2 := Lib.hid (And.intro hrec2 (And.intro hwU hbU))
          clear hc2 hrec2 hwU hbU hown2 hgr2 g3 k3
          refine wpList_nil ⟨k4, ?_⟩
          ((try dsimp only); (try simp only [Act.put, List.setIfInBounds_toArray, List.set_cons_zero, List.set_cons_succ]))
          refine M_pure (i := 13) (v := ?_) rfl (by kernel_rfl) (by kernel_rfl) (by kernel_rfl) (fun _ _ _ h => h) (by rfl) ?hy ?_; (case hy => (intro w; go_simp; with_reducible rfl)); ((try dsimp only); (try simp only [Act.put, List.setIfInBounds_toArray, List.set_cons_zero, List.set_cons_succ]))
          refine M_brk (i := 14) rfl (by kernel_rfl) (by rfl) (by rfl) ?_
          go_wp2_with fail
          ((try dsimp only [EffQ]); (try simp only [Act.put, List.setIfInBounds_toArray, List.set_cons_zero, List.set_cons_succ]))
          refine M_done (by kernel_rfl) ?_ _
          obtain ⟨U3, hU3⟩ : ∃ U3, U3 = U2.setCell ⟨w.heap.size + 1, 3, none⟩ (.slice A2 (x.recs.length + 1) c2') := ⟨_, rfl⟩
          rw [← hU3]
          have hb3 : U3.heap[w.heap.size + 1]? = some (.cells #[.int .i64 x.gen, .int .i64 x.half, .int .i64 x.boot, .slice A2 (x.recs.length + 1) c2'] 98 (0, 0)) := by rw [hU3]; exact heap_setCell_same U2 (w.heap.size + 1) 3 _ _ (.slice A2 (x.recs.length + 1) c2') HU2.out.2.2
          have hc3 : Chg [w.heap.size + 1] U2 U3 := by rw [hU3]; exact (Chg.refl _ _).setCell _ _ (by simp)
          have hqw : q < w.heap.size := by obtain ⟨_, h, _⟩ := HD.out.2.1; exact lt_of_block h
          have hbp : U3.heap[w.heap.size]? = some (.cells #[.pointer (some ⟨q, 0, none⟩)] 91 (0, 0)) := hc3.at (HU2.out.2.1.at (HE.out.2.2.1.at HY.out.2.2.2.2.1.1 (by simp [okind, TD])) (by simp)) (by simp)
          have hba : U3.heap[w.heap.size + 1 + 1]? = some (.cells #[.int .i64 at'] 3 (0, 0)) := hc3.at (HU2.out.2.1.at (HE.out.2.2.1.at HY.out.2.2.2.2.1.2.2 (by simp [okind, TD])) (by simp)) (by simp)
          obtain ⟨pv, hpb, _, hpq⟩ := HPI.out
          have hpb3 := hc3.at (HU2.out.2.1.at hpb (by simp)) (by simp; omega)
          have hr3 : RecsA U3 w0.heap.size (.slice A2 (x.recs.length + 1) c2') (x.recs ++ [b]) := (HU2.out.1.kept (w0 := w) (T := [some 98]) (ChgT.of_chg hc3 (fun k hk _ => by simp at hk; subst hk; exact ⟨by omega, fun o ho => by rw [HU2.out.2.2] at ho; cases ho; simp [okind]⟩)) (by decide) (by decide)).base (by have h1 := HR3.out.2.2.2.size; have h2 := HW4.out.2.2.2.size; omega)
          have hcT : ChgT w0 TD w U3 := (HR3.out.2.2.2.trans (ChgT.of_nil HU2.out.2.1)).fresh hc3 (by simp)
          have hd3 : DiskI w0 U3 p E := (HE.out.2.1.kept0 HU2.out.2.1).kept (T := [some 98]) (ChgT.of_chg hc3 (fun k hk _ => by simp at hk; subst hk; exact ⟨by omega, fun o ho => by rw [HU2.out.2.2] at ho; cases ho; simp [okind]⟩)) (by decide) (by decide) (by decide)
          have cbp := block1 hbp
          have cba := block1 hba
          have H3 := Lib.hid (And.intro hb3 (And.intro hpb3 (And.intro hr3 (And.intro hcT (And.intro hd3 hpq)))))
          clear hb3 hc3 hbp hba hpb hpb3 hr3 hcT hd3 hU3 k4 kf
          have wat : IntKind.i64.wrap ((at' : Int) + j) = at' + j := IntWalk.i64_in _ (by omega)
          go_wp2_with fail
          have hS : U3.cell? ⟨w.heap.size, 0, none⟩ = some (.pointer (some ⟨q, 0, none⟩)) ∧ U3.cell? ⟨w.heap.size + 1 + 1, 0, none⟩ = some (.int .i64 at') := ⟨cbp, cba⟩
          refine wp_region_M (fun W => W.cell? ⟨w.heap.size, 0, none⟩ = some (.pointer (some ⟨q, 0, none⟩)) ∧ W.cell? ⟨w.heap.size + 1 + 1, 0, none⟩ = some (.int .i64 at')) (fun k => [8, 11].contains k) (fun k => [11].contains k) (by kernel_rfl) ?_
          ((try dsimp only); (try simp only [Act.put, List.setIfInBounds_toArray, List.set_cons_zero, List.set_cons_succ]))
          refine M_take (i := 0) (v := ?_) rfl (by kernel_rfl) (by kernel_rfl) (by kernel_rfl) (by kernel_rfl) (fun _ _ _ h => h) (by rfl) ?hy ?_; (case hy => (go_simp; with_reducible rfl)); ((try dsimp only); (try simp only [Act.put, List.setIfInBounds_toArray, List.set_cons_zero, List.set_cons_succ]))
          refine M_semi (i := 1) (v := ?_) rfl (by kernel_rfl) (by kernel_rfl) (by kernel_rfl) (by kernel_rfl) (fun _ _ _ h => h) (by rfl) hS ?hy ?_; (case hy => (intro w hS; go_simp; with_reducible rfl)); ((try dsimp only); (try simp only [Act.put, List.setIfInBounds_toArray, List.set_cons_zero, List.set_cons_succ]))
          refine M_take (i := 2) rfl (by kernel_rfl) (by kernel_rfl) (by kernel_rfl) (by kernel_rfl) (fun _ _ _ h => h) (by rfl) (exec_load_mid 98 (.tmp 7) rfl (w.heap.size + 1) 0 rfl _ _ (range_all (cs := [.int .i64 x.gen, .int .i64 x.half, .int .i64 x.boot, .slice A2 (x.recs.length + 1) c2']) (w := U3.drew) H3.out.1) Try.underlying98 rfl infoImg) ?_; ((try dsimp only); (try simp only [Act.put, List.setIfInBounds_toArray, List.set_cons_zero, List.set_cons_succ]))
          refine M_semi (i := 3) (v := ?_) rfl (by kernel_rfl) (by kernel_rfl) (by kernel_rfl) (by kernel_rfl) (fun _ _ _ h => h) (by rfl) hS ?hy ?_; (case hy => (intro w hS; go_simp; with_reducible rfl)); ((try dsimp only); (try simp only [Act.put, List.setIfInBounds_toArray, List.set_cons_zero, List.set_cons_succ]))
          refine M_pure (i := 4) (v := ?_) rfl (by kernel_rfl) (by kernel_rfl) (by kernel_rfl) (fun _ _ _ h => h) (by rfl) ?hy ?_; (case hy => (intro w; go_simp; with_reducible rfl)); ((try dsimp only); (try simp only [Act.put, List.setIfInBounds_toArray, List.set_cons_zero, List.set_cons_succ]))
          refine M_pure (i := 5) (v := ?_) rfl (by kernel_rfl) (by kernel_rfl) (by kernel_rfl) (fun _ _ _ h => h) (by rfl) ?hy ?_; (case hy => (intro w; go_simp; with_reducible rfl)); ((try dsimp only); (try simp only [Act.put, List.setIfInBounds_toArray, List.set_cons_zero, List.set_cons_succ]))
          refine M_pure (i := 6) (v := ?_) rfl (by kernel_rfl) (by kernel_rfl) (by kernel_rfl) (fun _ _ _ h => h) (by rfl) ?hy ?_; (case hy => (intro w; go_simp; with_reducible rfl)); ((try dsimp only); (try simp only [Act.put, List.setIfInBounds_toArray, List.set_cons_zero, List.set_cons_succ]))
          refine M_pure (i := 7) (v := ?_) rfl (by kernel_rfl) (by kernel_rfl) (by kernel_rfl) (fun _ _ _ h => h) (by rfl) ?hy ?_; (case hy => (intro w; go_simp; with_reducible rfl)); ((try dsimp only); (try simp only [Act.put, List.setIfInBounds_toArray, List.set_cons_zero, List.set_cons_succ]))
          have hS2 := Lib.hid hS
          clear hS cbp cba wat
          refine M_eff (i := 8) rfl (by kernel_rfl) (by rfl) ?_
          refine wpList_store_at rfl 98 (.tmp 110) (.tmp 105) rfl q 1 (by kernel_rfl) #[.int .i64 x.gen, .int .i64 x.half, .int .i64 x.boot, .slice A2 (x.recs.length + 1) c2'] (by kernel_rfl) _ _ (show U3.drew.heap[q]? = _ from H3.out.2.1) infoImg (by simp) (fun u hu => ?o1) ?_
          case o1 =>
            simp only [List.mem_cons, List.not_mem_nil, or_false] at hu
            rcases hu with rfl | rfl | rfl | rfl <;> rfl
          refine wpList_world (fun U4 => U4.heap[q]? = some (.cells #[.pointer (some ⟨p, 0, none⟩), .int .i64 x.gen, .int .i64 x.half, .int .i64 x.boot, .slice A2 (x.recs.length + 1) c2', .int .i64 P.used, .bool P.dead] 152 (0, 0)) ∧ Chg [q] U3 U4) ⟨setRow_heap _ _ _ _ _ _ (show U3.drew.heap[q]? = _ from H3.out.2.1), ((Chg.refl [q] U3).drew).trans (setRow_chg _ _ _)⟩ ?_
          rintro U4 ⟨hu1, hu2⟩
          obtain ⟨_, _, _, _, _, c5, _, cf⟩ := cell7 hu1
          have cf5 := cf 5
          have HU4 := Lib.hid (And.intro hu1 hu2)
          have hs4 := hu2.cell hS2.out.1 (by simp; omega)
          have hs5 := hu2.cell hS2.out.2 (by simp; omega)
          clear hu1 hu2 cf
          refine wpList_nil ⟨⟨hs4, hs5⟩, ?_⟩
          ((try dsimp only); (try simp only [Act.put, List.setIfInBounds_toArray, List.set_cons_zero, List.set_cons_succ]))
          refine M_pure (i := 9) (v := ?_) rfl (by kernel_rfl) (by kernel_rfl) (by kernel_rfl) (fun _ _ _ h => h) (by rfl) ?hy ?_; (case hy => (intro w; go_simp; with_reducible rfl)); ((try dsimp only); (try simp only [Act.put, List.setIfInBounds_toArray, List.set_cons_zero, List.set_cons_succ]))
          refine M_pure (i := 10) (v := ?_) rfl (by kernel_rfl) (by kernel_rfl) (by kernel_rfl) (fun _ _ _ h => h) (by rfl) ?hy ?_; (case hy => (intro w; go_simp; with_reducible rfl)); ((try dsimp only); (try simp only [Act.put, List.setIfInBounds_toArray, List.set_cons_zero, List.set_cons_succ]))
          refine M_brk (i := 11) rfl (by kernel_rfl) (by rfl) (by rfl) ?_
          go_wp2_with fail
          ((try dsimp only [EffQ]); (try simp only [Act.put, List.setIfInBounds_toArray, List.set_cons_zero, List.set_cons_succ]))
          refine M_done (by kernel_rfl) ?_ _
          go_wp2_with fail
          go_ret
          rw [HWR.out]
          have hcs : Chg [q] U4 (U4.setCell ⟨q, 5, none⟩ (.int .i64 ((at' : Int) + j))) := (Chg.refl _ _).setCell _ _ (by simp)
          have hcs3 := HU4.out.2.trans hcs
          have hts : ChgT w0 [some 152] U3 (U4.setCell ⟨q, 5, none⟩ (.int .i64 ((at' : Int) + j))) := ChgT.of_chg hcs3 (fun k hk _ => by simp at hk; subst hk; exact ⟨H3.out.2.2.2.2.2, fun o ho => by rw [H3.out.2.1] at ho; cases ho; simp [okind]⟩)
          refine ⟨rfl, H3.out.2.2.2.2.1.kept hts (by decide) (by decide) (by decide), ⟨_, heap_setCell_same U4 q 5 _ _ (.int .i64 ((at' : Int) + j)) HU4.out.1, H3.out.2.2.1.kept hts (by decide) (by decide), H3.out.2.2.2.2.2⟩, ?_⟩
          exact (TD_TP H3.out.2.2.2.1).trans (hts.mono (by decide))
end Go.Proofs.Ytipijkpjmpejlaa
