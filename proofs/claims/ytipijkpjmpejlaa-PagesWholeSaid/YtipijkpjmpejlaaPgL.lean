import Derived.Test.YtipijkpjmpejlaaPgK
import Derived.Deep.DeepCutAuto
import Derived.Deep.CutBlock
import Derived.Deep.LoopGhost
/- The contract of pages.image of a disk that is up. -/
set_option linter.unusedVariables false
set_option linter.unusedSimpArgs false
namespace Go.Proofs.Ytipijkpjmpejlaa
open Go.RowKit
theorem buildImg (w : World) : (Instr.build 98 #[]).run Try.prog w = .ok (.agg #[.int .i64 0, .int .i64 0, .int .i64 0, .slice none 0 0]) w := by kernel_rfl
def ImgPost3 (t : Img × Nat × Int) (w : World) : Ending → World → Prop := ImgPost t.1 t.2.1 t.2.2 w
--DEFS
theorem imgOne (g h b : Int) (v : Value) (hv : v.oneCell' = true) : (#[.int .i64 g, .int .i64 h, .int .i64 b, v] : Array Value).all (·.oneCell') = true := img_one g h b v hv
/-- A round's head, of the records. -/
def Outer (S : Int → List Int) (g h b : Int) (w : World) (R : List (List Int) × Nat) (f : Nat) (uv bv : Value) (wr : World) : Prop :=
  ∃ (used : Nat) (last : Int) (rs : List (List Int)) (v : Value), uv = .int .i64 used ∧ bv = .int .u32 last ∧ Hid (scan S g h (b % 4294967296) f last used rs = R ∧ used ≤ 1024 ∧ 1025 ≤ f + used ∧ rs.length ≤ used ∧ 0 ≤ last ∧ last < 4294967296 ∧
    wr.heap[w.heap.size]? = some (.cells #[.int .i64 g, .int .i64 h, .int .i64 b, v] 98 (0, 0)) ∧ RecsA wr w.heap.size v rs ∧ Chg [] w wr)
/-- A round's head, of a record's parts. -/
def Inner (S : Int → List Int) (g h b last : Int) (k used : Nat) (wo : World) (j : Nat) (av iv nv : Value) (wy : World) : Prop :=
  ∃ i n : Nat, iv = .int .i64 i ∧ nv = .int .i64 n ∧ Hid (j + i = 746 ∧ RowB wy wo.heap.size av (loads S h used i) ∧ Chg [] wo wy ∧
    ((i = 0 ∧ n = 1 ∧ av = .slice none 0 0 ∧ wy.heap[wo.heap.size]? = some (.cells (partC z5 z44).toArray 174 (0, 0))) ∨
     (1 ≤ i ∧ i ≤ n ∧ n ≤ 745 ∧ (n : Int) = num4 (sct S h used 0) 4 ∧ last ≤ num4 (sct S h used 0) 1 ∧ num4 (sct S h used 0) 1 ≤ b % 4294967296 ∧ (∀ q, q < i → partOk S g h (num4 (sct S h used 0) 1) n k used q = true) ∧
      wy.heap[wo.heap.size]? = some (.cells (partC (nums5 (sct S h used 0)) ((sct S h used 0).drop 20)).toArray 174 (0, 0)))))
theorem parts_same (n : Int) (w : World) : Calls Try.prog 66 #[.int .i64 n] w fun e w' => e = .returned (.int .i64 (partsN n)) ∧ w' = w := (parts_any n w).mono fun _ _ h => ⟨h.1, h.2.symm⟩
theorem parts_745 (w : World) : Calls Try.prog 66 #[.int .i64 32768] w fun e w' => e = .returned (.int .i64 745) ∧ w' = w := (parts_same 32768 w).mono fun _ _ h => h
theorem wpList_neq_ints {P : Program} {ops : Array Oper} {rest : List Oper} {o : Oper} {a : Act} {w : World} {Q : Exit → Act → World → Prop} (hgd : o.guard = none) (t yt e : TypeId) (x y : Operand) (ho : o.op = .binOp .neq t x y yt) (k : IntKind) (n : Nat) (ht : P.underlying t = some (.array n e)) (he : P.underlying e = some (.int k)) (hsz : ∀ w, (sizeOf e).run P w = .ok 1 w)
    (hgt : P.eqGuardType P.depth t = false) (xs ys : List Int) (hx : a.eval x = .agg (xs.map (.int k)).toArray) (hy : a.eval y = .agg (ys.map (.int k)).toArray) (hlx : xs.length = n) (hly : ys.length = n) (r : Bool) (hr : (xs == ys) = !r)
    (h : wpList P ops Q rest (a.put o.dst (.bool r)) w) : wpList P ops Q (o :: rest) a w := by
  refine wpList_runv hgd (w' := w) ?_ h
  have h1 : (binOp .neq t (.agg (xs.map (Value.int k)).toArray) (.agg (ys.map (Value.int k)).toArray)).run P w = .ok (.bool r) w := by
    rw [run_neq_struct, run_equalIn_ints 9998 t e k n ht he hsz xs ys hlx hly, hr]; simp
  have h2 : (eqGuard .neq t x y (.agg (xs.map (Value.int k)).toArray) (.agg (ys.map (Value.int k)).toArray)).run P w = .ok () w := by
    simp [eqGuard, hgt, Result.andThen]
  simp [execOp, ho, hx, hy, h1, h2, Result.andThen]
theorem recAt_used {S : Int → List Int} {g half most last : Int} {k used : Nat} (h : 1024 ≤ used) : recAt S g half most last k used = none := by
  unfold recAt; dsimp only; rw [if_pos (.inl h)]
theorem recAt_head {S : Int → List Int} {g half most last : Int} {k used : Nat} (h : num4 (sct S half used 0) 1 < last ∨ most < num4 (sct S half used 0) 1 ∨ num4 (sct S half used 0) 4 < 1 ∨ 745 < num4 (sct S half used 0) 4) : recAt S g half most last k used = none := by
  unfold recAt; dsimp only; rw [if_pos (by omega)]
theorem recAt_part {S : Int → List Int} {g half most last : Int} {k used i n : Nat} (hi : i < n) (hn : (n : Int) = num4 (sct S half used 0) 4) (h : partOk S g half (num4 (sct S half used 0) 1) n k used i = false) : recAt S g half most last k used = none := by
  unfold recAt
  dsimp only
  split
  · rfl
  · rw [if_neg]
    intro hc
    simp only [Bool.and_eq_true, List.all_eq_true, List.mem_range] at hc
    have := hc.1 i (by omega)
    rw [← hn] at this
    rw [h] at this
    cases this
/-- A walk's end, of the records. -/
theorem img_end {S : Int → List Int} {g h b : Int} {w wo wy : World} {R : List (List Int) × Nat} {f used : Nat} {last : Int} {rs : List (List Int)} {v : Value} {cs : Array Value} (H : scan S g h (b % 4294967296) (f + 1) last used rs = R) (hn : recAt S g h (b % 4294967296) last rs.length used = none)
    (hrec : RecsA wo w.heap.size v rs) (hwo : Chg [] w wo) (hc : Chg [] wo wy) (hb : wy.heap[w.heap.size]? = some (.cells cs 98 (0, 0))) :
    ImgPost3 (⟨g, h, b, R.1⟩, R.2, 0) w (.returned (.tuple #[.agg #[.int .i64 g, .int .i64 h, .int .i64 b, v], .int .i64 used, .int .i64 0])) (wy.setRow w.heap.size cs) := by
  have e : R = (rs, used) := by rw [← H]; simp [scan, hn]
  subst e
  refine ⟨v, rfl, (hrec.kept0 hc).kept (w0 := w) (T := [some 98]) (ChgT.of_chg (setRow_chg wy w.heap.size cs) (fun k hk _ => ?_)) (by decide) (by decide), (hwo.trans hc).andThen (setRow_chg _ _ _) (by simp)⟩
  simp at hk; subst hk
  exact ⟨Nat.le_refl _, fun o ho => by rw [hb] at ho; cases ho; simp [okind]⟩
theorem row_bytes {Y : World} {base gs c : Nat} {s : List Int} (h : Y.ownsRow base 5 1 (.slice (some ⟨gs, 0, none⟩) 64 c) 64 (u8s s)) (hl : s.length = 64) : BytesAt Y (some ⟨gs, 0, none⟩) s := by
  have : RowB Y base (.slice (some ⟨gs, 0, none⟩) s.length c) s := by unfold RowB; rw [hl]; exact h
  exact this.bytes
theorem partLen {a0 a1 a2 a3 a4 : Int} {ld : List Int} (h : ld.length = 44) : (partC [a0, a1, a2, a3, a4] ld).toArray.size = 49 := by simp [partC, u32s, u8s, h]
theorem partSz {a0 a1 a2 a3 a4 : Int} {ld : List Int} (h : ld.length = 44) : (Try.prog.info? 174).map (·.size) = some (partC [a0, a1, a2, a3, a4] ld).toArray.size := by rw [partLen h]; exact szPart
theorem partSzL {a0 a1 a2 a3 a4 : Int} {ld : List Int} (h : ld.length = 44) : (Try.prog.info? 174).map (·.size) = some (partC [a0, a1, a2, a3, a4] ld).length := by rw [← List.size_toArray, partLen h]; exact szPart
theorem partCell {W : World} {q : Nat} {a0 a1 a2 a3 a4 : Int} {ld : List Int} (h : W.heap[q]? = some (.cells (partC [a0, a1, a2, a3, a4] ld).toArray 174 (0, 0))) : W.cell? ⟨q, 1, none⟩ = some (.int .u32 a1) ∧ W.cell? ⟨q, 4, none⟩ = some (.int .u32 a4) :=
  ⟨range_all h 1 _ rfl, range_all h 4 _ rfl⟩
theorem partLen0 : (partC z5 z44).toArray.size = 49 := by decide +kernel
theorem partSame {a0 a1 a2 a3 a4 : Int} {ld : List Int} (h : ld.length = 44) : (partC z5 z44).toArray.size = (partC [a0, a1, a2, a3, a4] ld).toArray.size := by rw [partLen0, partLen h]
theorem partRange {W : World} {q : Nat} {a0 a1 a2 a3 a4 : Int} {ld : List Int} (h : W.heap[q]? = some (.cells (partC [a0, a1, a2, a3, a4] ld).toArray 174 (0, 0))) : W.rangeAt q 0 [.int .u32 a0, .int .u32 a1, .int .u32 a2, .int .u32 a3, .int .u32 a4] := range_of_block h 0 5
theorem partOk_eq {S : Int → List Int} {g h boot n : Int} {k used i : Nat} {a0 a1 a2 a3 a4 : Int} (h0 : a0 = num4 (sct S h used i) 0) (h1 : a1 = num4 (sct S h used i) 1) (h2 : a2 = num4 (sct S h used i) 2) (h3 : a3 = num4 (sct S h used i) 3) (h4 : a4 = num4 (sct S h used i) 4) (hu : used + i < 1024) (hk : k ≤ 1024) :
    partOk S g h boot n k used i = ([a0, a1, a2, a3, a4] == [g % 4294967296, boot, (k : Int) + 1, (i : Int), n]) := by
  have e : ((k : Int) + 1) % 4294967296 = k + 1 := by omega
  unfold partOk
  rw [nums_list, ← h0, ← h1, ← h2, ← h3, ← h4, e]
  simp [hu]
theorem partLoad {W : World} {q : Nat} {a0 a1 a2 a3 a4 : Int} {ld : List Int} (h : W.heap[q]? = some (.cells (partC [a0, a1, a2, a3, a4] ld).toArray 174 (0, 0))) (hl : ld.length = 44) : ∀ j u, (u8s ld)[j]? = some u → W.cell? ((⟨q, 5, none⟩ : Addr).add j) = some u := fun j u hu => by
  rw [Addr.add_mid]
  refine range_of_block h 5 44 j u ?_
  have h3 : (partC [a0, a1, a2, a3, a4] ld).drop 5 = u8s ld := by simp [partC, u32s]
  rw [h3, List.take_of_length_le (by simp [u8s, hl])]
  exact hu
theorem partOk_out {S : Int → List Int} {g h boot n : Int} {k used i : Nat} (hu : 1024 ≤ used + i) : partOk S g h boot n k used i = false := by
  unfold partOk
  rw [decide_eq_false (by omega), Bool.false_and]
/-- A part more of a record. -/
theorem inner_step {S : Int → List Int} {g h b last : Int} {k used i n j : Nat} {wo X W : World} {av v' : Value} {ld : List Int} {fc : Array Value} (hf : X.heap[wo.heap.size]? = some (.cells fc 174 (0, 0))) (hfc : fc = (partC (nums5 (sct S h used 0)) ((sct S h used 0).drop 20)).toArray)
    (hav : X.ownsRow wo.heap.size 5 1 av (44 * i) (u8s (loads S h used i))) (hown : W.ownsRow wo.heap.size 5 1 v' (44 * i + 44) (u8s (loads S h used i) ++ u8s ld)) (hgr : X.grownBy W av.ownBlock) (hc : Chg [] wo X) (hld : ld = (sct S h used i).drop 20) (hll : ld.length = 44) (hla : (loads S h used i).length = 44 * i)
    (hj : j + (i + 1) = 746) (hin : i + 1 ≤ n) (hn7 : n ≤ 745) (hnn : (n : Int) = num4 (sct S h used 0) 4) (hb1 : last ≤ num4 (sct S h used 0) 1) (hb2 : num4 (sct S h used 0) 1 ≤ b % 4294967296)
    (hok : ∀ q, q < i → partOk S g h (num4 (sct S h used 0) 1) n k used q = true) (hpb : partOk S g h (num4 (sct S h used 0) 1) n k used i = true) :
    Inner S g h b last k used wo j v' (.int .i64 ((i + 1 : Nat) : Int)) (.int .i64 n) W := by
  have hown0 := fun q hq => (hav.lt q hq).1
  have hne : ∀ q ∈ av.ownBlock.toList, q ≠ wo.heap.size := fun q hq e => by
    subst e
    have := own_kind hav _ hq _ _ _ hf
    cases this
  have hc2 : Chg av.ownBlock.toList X W := Chg.grown (Chg.refl _ _) hgr (by intro q hq; rw [hq]; simp)
  refine ⟨i + 1, n, rfl, rfl, Lib.hid ⟨hj, ?_, hc.andThen hc2 (fun q hq => .inr (hown0 q (by simpa using hq))), .inr ⟨by omega, hin, hn7, hnn, hb1, hb2, fun q hq => ?_, ?_⟩⟩⟩
  · rw [loads_succ, ← hld]
    exact RowB.mk hown (by rw [List.length_append, hll, hla]) (by rw [u8s_app])
  · rcases Nat.lt_or_ge q i with h1 | h1
    · exact hok q h1
    · obtain rfl : q = i := by omega
      exact hpb
  · rw [← hfc]
    exact hc2.at hf (fun hm => hne _ hm rfl)
theorem i64w (n : Int) (h0 : 0 ≤ n) (h1 : n < 2 ^ 62) : IntKind.i64.wrap n = n := IntWalk.i64_in _ (by omega)
theorem or4i (x0 x1 x2 x3 : Int) (a0 : 0 ≤ x0) (b0 : x0 < 256) (a1 : 0 ≤ x1) (b1 : x1 < 256) (a2 : 0 ≤ x2) (b2 : x2 < 256) (a3 : 0 ≤ x3) (b3 : x3 < 256) :
    bits BinOp.or IntKind.i64 (bits BinOp.or IntKind.i64 (bits BinOp.or IntKind.i64 (x0 * 16777216) (x1 * 65536)) (x2 * 256)) x3 = x0 * 16777216 + x1 * 65536 + x2 * 256 + x3 := by
  rw [bits_join .i64 62 (by decide) i64w 24 (x0 * 16777216) (x1 * 65536) (by omega) (by omega) (by omega) (by omega) (by omega) (by omega)]
  rw [bits_join .i64 62 (by decide) i64w 16 (x0 * 16777216 + x1 * 65536) (x2 * 256) (by omega) (by omega) (by omega) (by omega) (by omega) (by omega)]
  rw [bits_join .i64 62 (by decide) i64w 8 (x0 * 16777216 + x1 * 65536 + x2 * 256) x3 (by omega) (by omega) (by omega) (by omega) (by omega) (by omega)]
theorem numTo4 (ls : List Int) : numTo ls 0 4 = ls.getD 0 0 * 16777216 + ls.getD 1 0 * 65536 + ls.getD 2 0 * 256 + ls.getD 3 0 := by
  simp only [numTo, Nat.zero_add]
  omega
theorem recAt_size {S : Int → List Int} {g half most last : Int} {k used n : Nat} (hn : (n : Int) = num4 (sct S half used 0) 4) (h : partsN (numTo (loads S half used n) 0 4) ≠ n) : recAt S g half most last k used = none := by
  unfold recAt
  dsimp only
  split
  · rfl
  · rw [if_neg]
    intro hc
    simp only [Bool.and_eq_true, beq_iff_eq] at hc
    apply h
    have := hc.2
    rwa [← hn, Int.toNat_natCast] at this
theorem recAt_some {S : Int → List Int} {g half most last : Int} {k used n : Nat} (h1 : 1 ≤ n) (h2 : n ≤ 745) (hn : (n : Int) = num4 (sct S half used 0) 4) (hb1 : last ≤ num4 (sct S half used 0) 1) (hb2 : num4 (sct S half used 0) 1 ≤ most)
    (hok : ∀ q, q < n → partOk S g half (num4 (sct S half used 0) 1) n k used q = true) (h : partsN (numTo (loads S half used n) 0 4) = n) :
    recAt S g half most last k used = some (n, num4 (sct S half used 0) 1, ((loads S half used n).drop 4).take (numTo (loads S half used n) 0 4).toNat) := by
  have hu : used < 1024 := by
    have := hok 0 (by omega)
    simp only [partOk, Bool.and_eq_true, decide_eq_true_eq] at this
    omega
  unfold recAt
  dsimp only
  rw [if_neg (by omega), ← hn, Int.toNat_natCast, if_pos]
  simp only [Bool.and_eq_true, List.all_eq_true, List.mem_range, beq_iff_eq]
  exact ⟨hok, h⟩
theorem infoBS : (Try.prog.info? 49).map (fun i => (i.zero, i.size, i.bytes)) = some (some (.slice none 0 0), 1, 24) := by kernel_rfl
/-- A record more. -/
theorem outer_step {S : Int → List Int} {g h b last : Int} {w W : World} {R : List (List Int) × Nat} {f used n : Nat} {rs : List (List Int)} {r : List Int} {v : Value} {b1 : Int} (H : scan S g h (b % 4294967296) (f + 1) last used rs = R) (hrec : recAt S g h (b % 4294967296) last rs.length used = some (n, b1, r)) (hf : 1025 ≤ f + 1 + used) (hk : rs.length ≤ used)
    (hl : 0 ≤ last) (hb : W.heap[w.heap.size]? = some (.cells #[.int .i64 g, .int .i64 h, .int .i64 b, v] 98 (0, 0))) (hr : RecsA W w.heap.size v (rs ++ [r])) (hc : Chg [] w W) (hb32 : b1 < 4294967296) :
    Outer S g h b w R f (.int .i64 ((used + n : Nat) : Int)) (.int .u32 b1) W := by
  have hfx := recAt_facts hrec
  refine ⟨used + n, b1, rs ++ [r], v, rfl, rfl, Lib.hid ⟨?_, by omega, by omega, by simp; omega, by omega, hb32, hb, hr, hc⟩⟩
  rw [← H, scan, hrec]
theorem recsPush {wo W1 W2 W3 : World} {base : Nat} {v v' v2 : Value} {rs : List (List Int)} {r : List Int} {hs : List Value} {IMb : Nat} {cs : Array Value} (hrow : (W1.alloc (.cells #[v'] 49)).ownsRow base 49 1 v rs.length hs) (hh : ∀ (i : Nat) h r, hs[i]? = some h → rs[i]? = some r → RowB (W1.alloc (.cells #[v'] 49)) 0 h r) (hr : RowB (W1.alloc (.cells #[v'] 49)) 0 v' r)
    (hown : W2.ownsRow base 49 1 v2 (rs.length + 1) (hs ++ [v'])) (hgr : (W1.alloc (.cells #[v'] 49)).grownBy W2 v.ownBlock) : RecsA W2 base v2 (rs ++ [r]) ∧ Chg v.ownBlock.toList (W1.alloc (.cells #[v'] 49)) W2 := by
  have hc : Chg v.ownBlock.toList (W1.alloc (.cells #[v'] 49)) W2 := Chg.grown (Chg.refl _ _) hgr (by intro q hq; rw [hq]; simp)
  exact ⟨RecsA.push hrow hh hr hown hc (fun k hk cs fr hc2 => by have := own_kind hrow k hk _ _ _ hc2; cases this), hc⟩
--END
theorem cell4 {W : World} {b : Nat} {x0 x1 x2 x3 : Value} {t : TypeId} (h : W.heap[b]? = some (.cells #[x0, x1, x2, x3] t (0, 0))) : W.cell? ⟨b, 0, none⟩ = some x0 ∧ W.cell? ⟨b, 1, none⟩ = some x1 ∧ W.cell? ⟨b, 2, none⟩ = some x2 ∧ W.cell? ⟨b, 3, none⟩ = some x3 ∧ ∀ i, W.frozen? ⟨b, i, none⟩ = false := by
  refine ⟨range_all (cs := [_, _, _, _]) h 0 _ rfl, range_all (cs := [_, _, _, _]) h 1 _ rfl, range_all (cs := [_, _, _, _]) h 2 _ rfl, range_all (cs := [_, _, _, _]) h 3 _ rfl, fun i => by simp [World.frozen?, h]⟩
theorem rdr_sector (A : Option Addr) (bs : List Int) (c : Nat) (w : World) (base : Nat) (hR : w.ownsRow base 5 1 (.slice A 64 c) 64 (u8s bs)) (hl : bs.length = 64) :
    Calls Try.prog 111 #[.slice A 64 c] w fun e w' => ∃ r A' c', e = .returned (.pointer (some ⟨r, 0, none⟩)) ∧ w.heap.size ≤ r ∧ RdrA w' r A' c' bs 0 ∧ Chg [] w w' ∧ ∀ ad, A' = some ad → w.heap.size ≤ ad.block := by
  have hB : RowB w base (.slice A bs.length c) bs := by unfold RowB; rw [hl]; exact hR
  have := rdr_new A bs c w hB.bytes (fun e => by subst e; have := hB.none.1; rw [this] at hl; cases hl) (by omega)
  rwa [hl] at this
theorem RdrA.kept_set {w : World} {r : Nat} {A : Option Addr} {c : Nat} {bs : List Int} {at' : Nat} (h : RdrA w r A c bs at') (b k : Nat) (u : Value) (hb : r ≠ b) (hx : ∀ ad, A = some ad → ad.block ≠ b) : RdrA (w.setCell ⟨b, k, none⟩ u) r A c bs at' :=
  ⟨by rw [heap_setCell_other _ _ _ _ (by simpa using hb)]; exact h.blk, h.bytes.kept (l := [b]) ((Chg.refl _ _).setCell _ _ (by simp)) (fun ad e _ => by simpa using hx ad e), h.cap, h.most, h.apart⟩
set_option maxHeartbeats 8000000 in
set_option maxRecDepth 100000 in
theorem image_up (w0 w : World) (p : Nat) (D : DS) (hD : DiskI w0 w p D) (hdn : D.down = false) : Calls Try.prog 95 #[.pointer (some ⟨p, 0, none⟩)] w (ImgPost3 (imageS (secOf D.L)) w) := by
  obtain ⟨bm, v0, hA, _, _, _, hby⟩ := hD
  rw [hdn] at hA
  have hlen : ∀ k, (secOf D.L k).length = 64 := fun k => secOf_len D.L k hA.len
  have hbyt : ∀ k, Bytes (secOf D.L k) := fun k => secOf_bytes D.L k hby
  obtain ⟨S, hS⟩ : ∃ S, S = secOf D.L := ⟨_, rfl⟩
  rw [← hS] at hlen hbyt ⊢
  have HD := Lib.hid (And.intro hA (And.intro hlen (And.intro hbyt hS)))
  clear hA hlen hbyt hS hby hdn
  go_enter Try.func95, Try.ntmps95
  go_wp2_with (first
    | (refine wpList_alloc rfl 98 rfl _ zeroImg ?_
       refine wpList_world (fun X => X.heap[w.heap.size]? = some (.cells #[.int .i64 0, .int .i64 0, .int .i64 0, .slice none 0 0] 98 (0, 0)) ∧ Chg [] w X ∧ w.heap.size < X.heap.size) ⟨heap_new _ _ rfl, (by with_reducible repeat (first | exact Chg.refl _ _ | apply Chg.alloc | apply Chg.drew | apply Chg.drewN | (refine Chg.setCell ?_ _ _ (by simp)))), by simp⟩ ?_
       rintro X ⟨hb, hX, hz⟩
       have HX := Lib.hid (And.intro hb (And.intro hX hz))
       clear hb hX hz)
    | fail)
  go_step3
  go_wp2_with (go_at_call 30; refine (read_ok p bm v0 D.L D.armed D.left 0 _ (HD.out.1.kept HX.out.2.1 (by simp) (by simp) (by simp)) (by omega) (by omega)).mono ?_; rintro e Y ⟨A, c, rfl, hO, hc⟩; rw [← HD.out.2.2.2] at hO; have HY := Lib.hid (And.intro hO hc); clear hO hc)
  go_wp2_with (go_at_call 111; refine (rdr_sector A (S 0) c Y _ HY.out.1 (HD.out.2.1 0)).mono ?_; rintro e U ⟨r, A', c', rfl, hr, hR, hc, ho⟩; have hsz := HX.out.2.2; have hsy := HY.out.2.size; have h1 : r ≠ w.heap.size := (by omega); have hle : w.heap.size ≤ r := (by omega); have ho' : ∀ ad, A' = some ad → ad.block ≠ w.heap.size := (fun ad e => by have := ho ad e; omega); have HU := Lib.hid (And.intro hR (And.intro (HX.out.2.1.trans (HY.out.2.trans hc)) (And.intro (hc.at (HY.out.2.at HX.out.1 (by simp)) (by simp)) (And.intro h1 ho')))); clear hR hc hr h1 hsz hsy ho ho')
  have HR : Hid (w.heap.size ≤ r) := Lib.hid hle
  clear hle
  have hn0 := rnum8_any _ r A' c' (S 0) 0 HU.out.1 (by rw [HD.out.2.1]; decide) (HD.out.2.2.1 0)
  have HN0 := Lib.hid hn0
  clear hn0
  refine HN0.out.mono ?_
  rintro e V0 ⟨rfl, hR, hc⟩
  have hb : V0.heap[w.heap.size]? = some (.cells #[.int .i64 0, .int .i64 0, .int .i64 0, .slice none 0 0] 98 (0, 0)) := hc.at HU.out.2.2.1 (by simpa using Ne.symm HU.out.2.2.2.1)
  have hw := HU.out.2.1.andThen hc (l := []) (by intro i hi; simp at hi; subst hi; exact .inr HR.out)
  have d0 := (cell4 hb).1
  have f0 := (cell4 hb).2.2.2.2 0
  have hb' : (V0.setCell ⟨w.heap.size, 0, none⟩ (.int .i64 (num8 (S 0) 0))).heap[w.heap.size]? = some (.cells #[.int .i64 (num8 (S 0) 0), .int .i64 0, .int .i64 0, .slice none 0 0] 98 (0, 0)) := heap_setCell_same V0 w.heap.size 0 _ _ (.int .i64 (num8 (S 0) 0)) hb
  have HV0 := Lib.hid (And.intro (RdrA.kept_set hR w.heap.size 0 (.int .i64 (num8 (S 0) 0)) HU.out.2.2.2.1 HU.out.2.2.2.2) (And.intro (Chg.setCell hw ⟨w.heap.size, 0, none⟩ (.int .i64 (num8 (S 0) 0)) (by simp)) hb'))
  clear hR hc hb hb' hw HN0
  go_wp2_with fail
  clear d0 f0
  have hn1 := rnum8_any _ r A' c' (S 0) 8 HV0.out.1 (by rw [HD.out.2.1]; decide) (HD.out.2.2.1 0)
  have HN1 := Lib.hid hn1
  clear hn1
  refine HN1.out.mono ?_
  rintro e V1 ⟨rfl, hR, hc⟩
  have hb : V1.heap[w.heap.size]? = some (.cells #[.int .i64 (num8 (S 0) 0), .int .i64 0, .int .i64 0, .slice none 0 0] 98 (0, 0)) := hc.at HV0.out.2.2 (by simpa using Ne.symm HU.out.2.2.2.1)
  have hw := HV0.out.2.1.andThen hc (l := []) (by intro i hi; simp at hi; subst hi; exact .inr HR.out)
  have d1 := (cell4 hb).2.1
  have f1 := (cell4 hb).2.2.2.2 1
  have hb' : (V1.setCell ⟨w.heap.size, 1, none⟩ (.int .i64 (num8 (S 0) 8))).heap[w.heap.size]? = some (.cells #[.int .i64 (num8 (S 0) 0), .int .i64 (num8 (S 0) 8), .int .i64 0, .slice none 0 0] 98 (0, 0)) := heap_setCell_same V1 w.heap.size 1 _ _ (.int .i64 (num8 (S 0) 8)) hb
  have HV1 := Lib.hid (And.intro (RdrA.kept_set hR w.heap.size 1 (.int .i64 (num8 (S 0) 8)) HU.out.2.2.2.1 HU.out.2.2.2.2) (And.intro (Chg.setCell hw ⟨w.heap.size, 1, none⟩ (.int .i64 (num8 (S 0) 8)) (by simp)) hb'))
  clear hR hc hb hb' hw HN1
  go_wp2_with fail
  clear d1 f1
  have hn2 := rnum8_any _ r A' c' (S 0) 16 HV1.out.1 (by rw [HD.out.2.1]; decide) (HD.out.2.2.1 0)
  have HN2 := Lib.hid hn2
  clear hn2
  refine HN2.out.mono ?_
  rintro e V2 ⟨rfl, hR, hc⟩
  have hb : V2.heap[w.heap.size]? = some (.cells #[.int .i64 (num8 (S 0) 0), .int .i64 (num8 (S 0) 8), .int .i64 0, .slice none 0 0] 98 (0, 0)) := hc.at HV1.out.2.2 (by simpa using Ne.symm HU.out.2.2.2.1)
  have hw := HV1.out.2.1.andThen hc (l := []) (by intro i hi; simp at hi; subst hi; exact .inr HR.out)
  have d2 := (cell4 hb).2.2.1
  have f2 := (cell4 hb).2.2.2.2 2
  have hb' : (V2.setCell ⟨w.heap.size, 2, none⟩ (.int .i64 (num8 (S 0) 16))).heap[w.heap.size]? = some (.cells #[.int .i64 (num8 (S 0) 0), .int .i64 (num8 (S 0) 8), .int .i64 (num8 (S 0) 16), .slice none 0 0] 98 (0, 0)) := heap_setCell_same V2 w.heap.size 2 _ _ (.int .i64 (num8 (S 0) 16)) hb
  have HV2 := Lib.hid (And.intro (RdrA.kept_set hR w.heap.size 2 (.int .i64 (num8 (S 0) 16)) HU.out.2.2.2.1 HU.out.2.2.2.2) (And.intro (Chg.setCell hw ⟨w.heap.size, 2, none⟩ (.int .i64 (num8 (S 0) 16)) (by simp)) hb'))
  clear hR hc hb hb' hw HN2
  go_upto_block 0 with (fail)
  clear d2 f2
  obtain ⟨g, hg⟩ : ∃ g, g = num8 (S 0) 0 := ⟨_, rfl⟩
  obtain ⟨h, hh⟩ : ∃ h, h = num8 (S 0) 8 := ⟨_, rfl⟩
  obtain ⟨b, hb⟩ : ∃ b, b = num8 (S 0) 16 := ⟨_, rfl⟩
  refine wp_world (fun W => W.heap[w.heap.size]? = some (.cells #[.int .i64 g, .int .i64 h, .int .i64 b, .slice none 0 0] 98 (0, 0)) ∧ Chg [] w W) ⟨by rw [hg, hh, hb]; exact HV2.out.2.2, HV2.out.2.1⟩ ?_
  rintro W ⟨hW, hwW⟩
  rw [← hg, ← hh, ← hb]
  clear HV2 HV1 HV0 HU HR HY HX
  obtain ⟨w0', w1', w2', w3', wf⟩ := cell4 hW
  have HW := Lib.hid (And.intro hW hwW)
  clear hW hwW
  have HG := Lib.hid (And.intro hg (And.intro hh hb))
  clear hg hh hb
  by_cases hbl : g = 0 ∧ h = 0 ∧ b = 0
  · obtain ⟨rfl, rfl, rfl⟩ := hbl
    have him : imageS S = (Img.zero, 0, 0) := by unfold imageS; rw [← HG.out.1, ← HG.out.2.1, ← HG.out.2.2]; simp
    rw [him]
    clear him
    go_wp2_with (first
      | (refine wpList_load_mid rfl 98 (.tmp 2) rfl w.heap.size 0 rfl _ _ (range_all (cs := [_, _, _, _]) HW.out.1) Try.underlying98 rfl infoImg ?_)
      | (refine wpList_build rfl 98 #[] rfl #[] rfl _ buildImg ?_)
      | (refine wpList_store_row rfl 98 (.tmp 2) (.tmp 50) rfl w.heap.size rfl _ rfl _ _ HW.out.1 infoImg rfl (img_one _ _ _ _ rfl) ?_)
      | fail)
    rw [Exit.noGoto_ret]
    exact bodyPost_ret (v := .tuple #[.agg #[.int .i64 0, .int .i64 0, .int .i64 0, .slice none 0 0], .int .i64 0, .int .i64 0]) (results_row_tmp2 rfl _ _ w.heap.size _ _ _ _ _ _ rfl rfl rfl (setRow_heap _ _ _ _ _ _ HW.out.1) Try.underlying98 rfl infoImg) rfl (ImgPost.zero (HW.out.2.andThen (setRow_chg _ _ _) (by simp)))
  by_cases hbd : g < 1 ∨ b < 1 ∨ h < 0 ∨ 1 < h
  · have him : imageS S = (Img.zero, 0, 170) := by unfold imageS; rw [← HG.out.1, ← HG.out.2.1, ← HG.out.2.2, if_neg hbl, if_pos hbd]
    rw [him]
    clear him
    have key : (g = 0 ∧ h = 0 ∧ b ≠ 0) ∨ (g = 0 ∧ h ≠ 0) ∨ (g ≠ 0 ∧ g < 1) ∨ (1 ≤ g ∧ b < 1) ∨ (1 ≤ g ∧ 1 ≤ b ∧ h < 0) ∨ (1 ≤ g ∧ 1 ≤ b ∧ 0 ≤ h ∧ 1 < h) := by omega
    clear hbd hbl
    rcases key with ⟨rfl, rfl, h1⟩ | ⟨rfl, h1⟩ | ⟨h1, h2⟩ | ⟨h1, h2⟩ | ⟨h1, h2, h3⟩ | ⟨h1, h2, h3, h4⟩
    case' inl => have e1 : (b == 0) = false := by simpa using h1
    case' inr.inl => have e1 : (h == 0) = false := by simpa using h1
    case' inr.inr.inl => have e1 : (g == 0) = false := by simpa using h1
    case' inr.inr.inr.inl => have e1 : (g == 0) = false := by simp; omega
    case' inr.inr.inr.inr.inl => have e1 : (g == 0) = false := by simp; omega
    case' inr.inr.inr.inr.inr => have e1 : (g == 0) = false := by simp; omega
    all_goals
      go_wp2_with (first
          | (refine wpList_load_mid rfl 98 (.tmp 2) rfl w.heap.size 0 rfl _ _ (range_all (cs := [_, _, _, _]) HW.out.1) Try.underlying98 rfl infoImg ?_)
          | (refine wpList_build rfl 98 #[] rfl #[] rfl _ buildImg ?_)
          | (refine wpList_store_row rfl 98 (.tmp 2) (.tmp 64) rfl w.heap.size rfl _ rfl _ _ HW.out.1 infoImg rfl (img_one _ _ _ _ rfl) ?_)
          | fail)
      rw [Exit.noGoto_ret]
      exact bodyPost_ret (v := .tuple #[.agg #[.int .i64 0, .int .i64 0, .int .i64 0, .slice none 0 0], .int .i64 0, .int .i64 170]) (results_row_tmp2 rfl _ _ w.heap.size _ _ _ _ _ _ rfl rfl rfl (setRow_heap _ _ _ _ _ _ HW.out.1) Try.underlying98 rfl infoImg) rfl (ImgPost.zero (HW.out.2.andThen (setRow_chg _ _ _) (by simp)))
  have him : imageS S = (⟨g, h, b, (scan S g h (b % 4294967296) 1025 1 0 []).1⟩, (scan S g h (b % 4294967296) 1025 1 0 []).2, 0) := by unfold imageS; rw [← HG.out.1, ← HG.out.2.1, ← HG.out.2.2, if_neg hbl, if_neg hbd]
  obtain ⟨R, hR⟩ : ∃ R, R = scan S g h (b % 4294967296) 1025 1 0 [] := ⟨_, rfl⟩
  rw [← hR] at him
  have HR := Lib.hid hR
  have HIM := Lib.hid him
  clear him hbl hR
  have hg1 : 1 ≤ g := by omega
  have hb1 : 1 ≤ b := by omega
  have hh0 : 0 ≤ h := by omega
  have hh1 : h ≤ 1 := by omega
  have e1 : (g == 0) = false := by simp; omega
  clear hbd
  obtain ⟨ip, hi, hz0, hz1, hz2⟩ := info_parts infoU8
  have HU8 := Lib.hid (And.intro hi (And.intro hz0 (And.intro hz1 hz2)))
  clear hi hz0 hz1 hz2
  go_wp2_with fail
  go_step3
  go_wp2_with fail
  clear w0' w1' w2' w3' wf
  go_loopg [3, 7] 1025 (fun f uv bv wr => Outer S g h b w R f uv bv wr)
  case atStart => exact ⟨0, 1, [], _, rfl, rfl, Lib.hid ⟨HR.out.symm, by omega, by omega, by simp, by omega, by omega, HW.out.1, RecsA.nil _ _, HW.out.2⟩⟩
  case round =>
    obtain ⟨used, last, rs, v, rfl, rfl, HO⟩ := hrel
    obtain ⟨Av, cv, rfl⟩ := HO.out.2.2.2.2.2.2.2.1.slice
    have hu : used ≤ 1024 := HO.out.2.1
    obtain ⟨f, rfl⟩ : ∃ f, gk = f + 1 := ⟨gk - 1, by have := HO.out.2.2.1; omega⟩
    have hl0 : 0 ≤ last := HO.out.2.2.2.2.1
    have hl1 : last < 4294967296 := HO.out.2.2.2.2.2.1
    obtain ⟨wo, rfl⟩ : ∃ wo : World, wo = wr := ⟨_, rfl⟩
    go_wp2_with (first
      | (refine wpList_alloc rfl 174 rfl _ zeroPart ?_)
      | fail)
    go_loopg [3, 8, 10, 11] 746 (fun j uv av iv nv wy => uv = .int .i64 used ∧ Inner S g h b last rs.length used wo j av iv nv wy)
    case atStart => exact ⟨rfl, 0, 1, rfl, rfl, Lib.hid ⟨rfl, RowB.nil _ _, (by with_reducible repeat (first | exact Chg.refl _ _ | apply Chg.alloc | apply Chg.drew | apply Chg.drewN | (refine Chg.setCell ?_ _ _ (by simp)))), .inl ⟨rfl, rfl, rfl, heap_new _ _ rfl⟩⟩⟩
    case round =>
      obtain ⟨rfl, i, n, rfl, rfl, HI⟩ := hrel
      generalize wr = wy at *
      have hcI : Chg [] wo wy := HI.out.2.2.1
      have bI := hcI.at HO.out.2.2.2.2.2.2.1 (by simp)
      obtain ⟨i0, i1, i2, i3, if'⟩ := cell4 bI
      rcases HI.out.2.2.2 with ⟨rfl, rfl, rfl, hfst⟩ | ⟨hi1, hin, hn7, hnn, hbl, hbm, hok, hfst⟩
      · by_cases hend : 1024 ≤ used
        · clear i0 i1 i2 i3 if' hfst
          have HE := Lib.hid (And.intro bI (img_end HO.out.1 (recAt_used hend) HO.out.2.2.2.2.2.2.2.1 HO.out.2.2.2.2.2.2.2.2 hcI bI))
          clear bI
          go_wp2_with (first
            | (refine wpList_load_mid rfl 98 (.tmp 2) rfl w.heap.size 0 (by kernel_rfl) _ _ (range_all (cs := [_, _, _, _]) HE.out.1) Try.underlying98 rfl infoImg ?_)
            | (refine wpList_store_row rfl 98 (.tmp 2) (.tmp 199) rfl w.heap.size (by kernel_rfl) #[.int .i64 g, .int .i64 h, .int .i64 b, .slice Av rs.length cv] (by kernel_rfl) _ _ HE.out.1 infoImg rfl (img_one _ _ _ _ rfl) ?_)
            | fail)
          (try rw [Exit.noGoto_ret])
          exact bodyPost_ret (v := .tuple #[.agg #[.int .i64 g, .int .i64 h, .int .i64 b, .slice Av rs.length cv], .int .i64 used, .int .i64 0]) (results_row_tmp2 rfl _ _ w.heap.size _ _ _ _ _ _ (by kernel_rfl) (by kernel_rfl) (by kernel_rfl) (setRow_heap _ _ _ _ _ _ HE.out.1) Try.underlying98 rfl infoImg) (by kernel_rfl) (by rw [HIM.out]; exact HE.out.2)
        · have hul : used < 1024 := by omega
          have hsec : 0 ≤ 1 + h * 1024 + used := by omega
          have HS := Lib.hid (show sct S h used 0 = S (1 + h * 1024 + used) by simp [sct])
          have HF := Lib.hid (And.intro hfst hcI)
          clear hfst
          go_wp2_with (go_at_call 30; refine (read_ok p bm v0 D.L D.armed D.left _ _ (HD.out.1.kept (HO.out.2.2.2.2.2.2.2.2.trans hcI) (by simp) (by simp) (by simp)) (by omega) (by omega)).mono ?_; rintro e Y ⟨A1, c1, rfl, hO, hc⟩; rw [← HD.out.2.2.2, ← HS.out] at hO; obtain ⟨gs, rfl, hg1, hg2, hcap, hr⟩ := own_row hO (by omega); have HY := Lib.hid (And.intro hO hc); clear hO hc hr hg1 hg2)
          refine (read_part gs 0 (sct S h used 0) c1 Y (row_bytes HY.out.1 (HD.out.2.1 _)) (HD.out.2.1 _) hcap (HD.out.2.2.1 _)).mono ?_
          rintro e Z ⟨rfl, hc⟩
          have hwZ := HY.out.2.trans hc
          clear hc
          obtain ⟨ld, hld⟩ : ∃ ld, ld = (sct S h used 0).drop 20 := ⟨_, rfl⟩
          obtain ⟨a0, ha0⟩ : ∃ a, a = num4 (sct S h used 0) 0 := ⟨_, rfl⟩
          obtain ⟨a1, ha1⟩ : ∃ a, a = num4 (sct S h used 0) 1 := ⟨_, rfl⟩
          obtain ⟨a2, ha2⟩ : ∃ a, a = num4 (sct S h used 0) 2 := ⟨_, rfl⟩
          obtain ⟨a3, ha3⟩ : ∃ a, a = num4 (sct S h used 0) 3 := ⟨_, rfl⟩
          obtain ⟨a4, ha4⟩ : ∃ a, a = num4 (sct S h used 0) 4 := ⟨_, rfl⟩
          have hnb := fun k => num4_range (HD.out.2.2.1 (1 + h * 1024 + used + 0)) k
          have r1 : 0 ≤ a1 ∧ a1 < 4294967296 := by rw [ha1]; exact hnb 1
          have r4 : 0 ≤ a4 ∧ a4 < 4294967296 := by rw [ha4]; exact hnb 4
          clear hnb
          obtain ⟨r1a, r1b⟩ := r1
          obtain ⟨r4a, r4b⟩ := r4
          have hll : ld.length = 44 := by rw [hld, List.length_drop]; unfold sct; rw [HD.out.2.1]
          rw [nums_list, ← ha0, ← ha1, ← ha2, ← ha3, ← ha4, ← hld]
          have HN := Lib.hid (And.intro ha0 (And.intro ha1 (And.intro ha2 (And.intro ha3 (And.intro ha4 hld)))))
          have HZ := Lib.hid (And.intro hwZ hll)
          clear ha0 ha1 ha2 ha3 ha4 hld hwZ hll hcap
          go_wp2_with (first
            | (refine wpList_alloc rfl 174 rfl _ zeroPart ?_
               refine wpList_world (fun V => V.heap[Z.heap.size]? = some (.cells (partC z5 z44).toArray 174 (0, 0)) ∧ Chg [] Z V) ⟨heap_new _ _ rfl, (by with_reducible repeat (first | exact Chg.refl _ _ | apply Chg.alloc | apply Chg.drew | apply Chg.drewN | (refine Chg.setCell ?_ _ _ (by simp))))⟩ ?_
               rintro V ⟨hv1, hv2⟩
               refine wpList_store_row rfl 174 (.tmp 14) (.tmp 92) rfl Z.heap.size (by kernel_rfl) (partC [a0, a1, a2, a3, a4] ld).toArray (by kernel_rfl) _ _ hv1 (partSz HZ.out.2) (partSame HZ.out.2) (part_one _ _) ?_
               refine wpList_world (fun X => X.heap[Z.heap.size]? = some (.cells (partC [a0, a1, a2, a3, a4] ld).toArray 174 (0, 0)) ∧ Chg [] Z X) ⟨setRow_heap _ _ _ _ _ _ hv1, hv2.andThen (setRow_chg _ _ _) (by simp)⟩ ?_
               rintro X ⟨hx1, hx2⟩
               have HX := Lib.hid (And.intro hx1 (HZ.out.1.trans hx2))
               clear hv1 hv2 hx1 hx2)
            | (refine wpList_load_mid rfl 174 (.tmp 14) rfl Z.heap.size 0 (by kernel_rfl) _ _ (range_all HX.out.1) Try.underlying174 rfl (partSzL HZ.out.2) ?_)
            | (refine wpList_store_row rfl 174 (.tmp 9) (.tmp 95) rfl wo.heap.size (by kernel_rfl) (partC [a0, a1, a2, a3, a4] ld).toArray (by kernel_rfl) _ _ (HX.out.2.at HF.out.1 (by simp)) (partSz HZ.out.2) (partSame HZ.out.2) (part_one _ _) ?_
               refine wpList_world (fun X2 => X2.heap[wo.heap.size]? = some (.cells (partC [a0, a1, a2, a3, a4] ld).toArray 174 (0, 0)) ∧ Chg [wo.heap.size] X X2) ⟨setRow_heap _ _ _ _ _ _ (HX.out.2.at HF.out.1 (by simp)), setRow_chg _ _ _⟩ ?_
               rintro X2 ⟨hx1, hx2⟩
               have hzz : wo.heap.size < Z.heap.size := Nat.lt_of_lt_of_le (lt_of_block HF.out.1) HZ.out.1.size
               have HX2 := Lib.hid (And.intro hx1 (And.intro (hx2.at HX.out.1 (by simp; omega)) ((hcI.trans HX.out.2).andThen hx2 (by simp))))
               clear hx1 hx2 hzz)
            | fail)
          clear i0 i1 i2 i3 if'
          ((try dsimp only); (try simp only [Act.put, List.setIfInBounds_toArray, List.set_cons_zero, List.set_cons_succ]))
          obtain ⟨q1, q4⟩ := partCell HX2.out.2.1
          have bI2 := HX2.out.2.2.at HO.out.2.2.2.2.2.2.1 (by simp)
          have b2 := (cell4 bI2).2.2.1
          have HB2 := Lib.hid bI2
          clear bI2 bI
          have key : a1 < last ∨ (last ≤ a1 ∧ b % 4294967296 < a1) ∨ (last ≤ a1 ∧ a1 ≤ b % 4294967296 ∧ a4 < 1) ∨ (last ≤ a1 ∧ a1 ≤ b % 4294967296 ∧ 745 < a4) ∨ (last ≤ a1 ∧ a1 ≤ b % 4294967296 ∧ 1 ≤ a4 ∧ a4 ≤ 745) := by omega
          rcases key with k1 | ⟨k1, k2⟩ | ⟨k1, k2, k3⟩ | ⟨k1, k2, k3⟩ | ⟨k1, k2, k3, k4⟩
          · have d1 : decide (a1 < last) = true := by simpa using k1
            go_quiet ((go_at_call 66; exact Calls.quiet_of_same (parts_745 _)))
            have HE := Lib.hid (And.intro HB2.out (img_end HO.out.1 (recAt_head (by rw [← HN.out.2.1, ← HN.out.2.2.2.2.1]; omega)) HO.out.2.2.2.2.2.2.2.1 HO.out.2.2.2.2.2.2.2.2 (HX2.out.2.2.drewN nq) HB2.out))

            go_wp2_with (first
              | (refine wpList_load_mid rfl 98 (.tmp 2) rfl w.heap.size 0 (by kernel_rfl) _ _ (range_all (cs := [_, _, _, _]) HE.out.1) Try.underlying98 rfl infoImg ?_)
              | (refine wpList_store_row rfl 98 (.tmp 2) (.tmp 199) rfl w.heap.size (by kernel_rfl) #[.int .i64 g, .int .i64 h, .int .i64 b, .slice Av rs.length cv] (by kernel_rfl) _ _ HE.out.1 infoImg rfl (img_one _ _ _ _ rfl) ?_)
              | fail)
            (try rw [Exit.noGoto_ret])
            exact bodyPost_ret (v := .tuple #[.agg #[.int .i64 g, .int .i64 h, .int .i64 b, .slice Av rs.length cv], .int .i64 used, .int .i64 0]) (results_row_tmp2 rfl _ _ w.heap.size _ _ _ _ _ _ (by kernel_rfl) (by kernel_rfl) (by kernel_rfl) (setRow_heap _ _ _ _ _ _ HE.out.1) Try.underlying98 rfl infoImg) (by kernel_rfl) (by rw [HIM.out]; exact HE.out.2)
          · have d1 : decide (a1 < last) = false := by simpa using k1
            have w1 : IntKind.u32.wrap b = b % 4294967296 := IntKind.wrap_u32 b
            have d2 : decide (b % 4294967296 < a1) = true := by simpa using k2
            go_quiet ((go_at_call 66; exact Calls.quiet_of_same (parts_745 _)))
            have HE := Lib.hid (And.intro HB2.out (img_end HO.out.1 (recAt_head (by rw [← HN.out.2.1, ← HN.out.2.2.2.2.1]; omega)) HO.out.2.2.2.2.2.2.2.1 HO.out.2.2.2.2.2.2.2.2 (HX2.out.2.2.drewN nq) HB2.out))

            go_wp2_with (first
              | (refine wpList_load_mid rfl 98 (.tmp 2) rfl w.heap.size 0 (by kernel_rfl) _ _ (range_all (cs := [_, _, _, _]) HE.out.1) Try.underlying98 rfl infoImg ?_)
              | (refine wpList_store_row rfl 98 (.tmp 2) (.tmp 199) rfl w.heap.size (by kernel_rfl) #[.int .i64 g, .int .i64 h, .int .i64 b, .slice Av rs.length cv] (by kernel_rfl) _ _ HE.out.1 infoImg rfl (img_one _ _ _ _ rfl) ?_)
              | fail)
            (try rw [Exit.noGoto_ret])
            exact bodyPost_ret (v := .tuple #[.agg #[.int .i64 g, .int .i64 h, .int .i64 b, .slice Av rs.length cv], .int .i64 used, .int .i64 0]) (results_row_tmp2 rfl _ _ w.heap.size _ _ _ _ _ _ (by kernel_rfl) (by kernel_rfl) (by kernel_rfl) (setRow_heap _ _ _ _ _ _ HE.out.1) Try.underlying98 rfl infoImg) (by kernel_rfl) (by rw [HIM.out]; exact HE.out.2)
          · have d1 : decide (a1 < last) = false := by simpa using k1
            have w1 : IntKind.u32.wrap b = b % 4294967296 := IntKind.wrap_u32 b
            have d2 : decide (b % 4294967296 < a1) = false := by simpa using k2
            have d3 : decide (a4 < 1) = true := by simpa using k3
            go_quiet ((go_at_call 66; exact Calls.quiet_of_same (parts_745 _)))
            have HE := Lib.hid (And.intro HB2.out (img_end HO.out.1 (recAt_head (by rw [← HN.out.2.1, ← HN.out.2.2.2.2.1]; omega)) HO.out.2.2.2.2.2.2.2.1 HO.out.2.2.2.2.2.2.2.2 (HX2.out.2.2.drewN nq) HB2.out))

            go_wp2_with (first
              | (refine wpList_load_mid rfl 98 (.tmp 2) rfl w.heap.size 0 (by kernel_rfl) _ _ (range_all (cs := [_, _, _, _]) HE.out.1) Try.underlying98 rfl infoImg ?_)
              | (refine wpList_store_row rfl 98 (.tmp 2) (.tmp 199) rfl w.heap.size (by kernel_rfl) #[.int .i64 g, .int .i64 h, .int .i64 b, .slice Av rs.length cv] (by kernel_rfl) _ _ HE.out.1 infoImg rfl (img_one _ _ _ _ rfl) ?_)
              | fail)
            (try rw [Exit.noGoto_ret])
            exact bodyPost_ret (v := .tuple #[.agg #[.int .i64 g, .int .i64 h, .int .i64 b, .slice Av rs.length cv], .int .i64 used, .int .i64 0]) (results_row_tmp2 rfl _ _ w.heap.size _ _ _ _ _ _ (by kernel_rfl) (by kernel_rfl) (by kernel_rfl) (setRow_heap _ _ _ _ _ _ HE.out.1) Try.underlying98 rfl infoImg) (by kernel_rfl) (by rw [HIM.out]; exact HE.out.2)
          · have d1 : decide (a1 < last) = false := by simpa using k1
            have w1 : IntKind.u32.wrap b = b % 4294967296 := IntKind.wrap_u32 b
            have d2 : decide (b % 4294967296 < a1) = false := by simpa using k2
            have d3 : decide (a4 < 1) = false := by simp; omega
            have d4 : decide (745 < a4) = true := by simpa using k3
            go_quiet ((go_at_call 66; exact Calls.quiet_of_same (parts_745 _)))
            have HE := Lib.hid (And.intro HB2.out (img_end HO.out.1 (recAt_head (by rw [← HN.out.2.1, ← HN.out.2.2.2.2.1]; omega)) HO.out.2.2.2.2.2.2.2.1 HO.out.2.2.2.2.2.2.2.2 (HX2.out.2.2.drewN nq) HB2.out))

            go_wp2_with (first
              | (refine wpList_load_mid rfl 98 (.tmp 2) rfl w.heap.size 0 (by kernel_rfl) _ _ (range_all (cs := [_, _, _, _]) HE.out.1) Try.underlying98 rfl infoImg ?_)
              | (refine wpList_store_row rfl 98 (.tmp 2) (.tmp 199) rfl w.heap.size (by kernel_rfl) #[.int .i64 g, .int .i64 h, .int .i64 b, .slice Av rs.length cv] (by kernel_rfl) _ _ HE.out.1 infoImg rfl (img_one _ _ _ _ rfl) ?_)
              | fail)
            (try rw [Exit.noGoto_ret])
            exact bodyPost_ret (v := .tuple #[.agg #[.int .i64 g, .int .i64 h, .int .i64 b, .slice Av rs.length cv], .int .i64 used, .int .i64 0]) (results_row_tmp2 rfl _ _ w.heap.size _ _ _ _ _ _ (by kernel_rfl) (by kernel_rfl) (by kernel_rfl) (setRow_heap _ _ _ _ _ _ HE.out.1) Try.underlying98 rfl infoImg) (by kernel_rfl) (by rw [HIM.out]; exact HE.out.2)
          · have d1 : decide (a1 < last) = false := by simpa using k1
            have w1 : IntKind.u32.wrap b = b % 4294967296 := IntKind.wrap_u32 b
            have d2 : decide (b % 4294967296 < a1) = false := by simpa using k2
            have d3 : decide (a4 < 1) = false := by simp; omega
            have d4 : decide (745 < a4) = false := by simp; omega
            go_quiet ((go_at_call 66; exact Calls.quiet_of_same (parts_745 _)))
            obtain ⟨X3, hX3⟩ : ∃ X3, X3 = X2.drewN nq := ⟨_, rfl⟩
            rw [← hX3]
            have hf3 : X3.heap[wo.heap.size]? = some (.cells (partC [a0, a1, a2, a3, a4] ld).toArray 174 (0, 0)) := by rw [hX3]; exact HX2.out.1
            have hp3 : X3.heap[Z.heap.size]? = some (.cells (partC [a0, a1, a2, a3, a4] ld).toArray 174 (0, 0)) := by rw [hX3]; exact HX2.out.2.1
            have hc3 : Chg [] wo X3 := by rw [hX3]; exact HX2.out.2.2.drewN nq
            have bI3 := hc3.at HO.out.2.2.2.2.2.2.1 (by simp)
            have H3 := Lib.hid (And.intro hf3 (And.intro hp3 (And.intro hc3 (And.intro bI3 (And.intro (RowB.nil X3 wo.heap.size) (And.intro (by simp [u8s]; exact HZ.out.2 : (u8s ld).length = 44 * 1) (partLoad hp3 HZ.out.2)))))))
            clear q1 q4 b2
            obtain ⟨q1, q4⟩ := partCell hp3
            have f1 := (partCell hf3).1
            obtain ⟨j0, j1, j2, j3, _⟩ := cell4 bI3
            clear hf3 hp3 hc3 bI3 hX3 d1 w1 d2 d3 d4
            have hlk : rs.length ≤ 1024 := by have := HO.out.2.2.2.1; omega
            have hpq := partOk_eq (g := g) (boot := num4 (sct S h used 0) 1) (n := a4) (k := rs.length) HN.out.1 HN.out.2.1 HN.out.2.2.1 HN.out.2.2.2.1 HN.out.2.2.2.2.1 (by omega) hlk
            rw [← HN.out.2.1] at hpq
            cases hpv : ([a0, a1, a2, a3, a4] == [g % 4294967296, a1, (rs.length : Int) + 1, 0, a4])
            · have hpb : partOk S g h (num4 (sct S h used 0) 1) (a4.toNat : Int) rs.length used 0 = false := by rw [Int.toNat_of_nonneg (by omega), ← HN.out.2.1, hpq]; exact hpv
              have HPV := Lib.hid (show ([a0, a1, a2, a3, a4] == [g % 4294967296, a1, (rs.length : Int) + 1, 0, a4]) = !true from hpv)
              have HPB := Lib.hid hpb
              clear hpv hpq hpb
              have HE := Lib.hid (And.intro H3.out.2.2.2.1 (img_end HO.out.1 (recAt_part (i := 0) (n := a4.toNat) (by omega) (by rw [← HN.out.2.2.2.2.1]; omega) HPB.out) HO.out.2.2.2.2.2.2.2.1 HO.out.2.2.2.2.2.2.2.2 H3.out.2.2.1 H3.out.2.2.2.1))
              go_wp2_with (first
                | (refine wpList_load_mid rfl 171 (.tmp 128) rfl Z.heap.size 0 (by kernel_rfl) _ _ (partRange H3.out.2.1) Try.underlying171 rfl (by kernel_rfl) ?_
                   ((try dsimp only); (try simp only [Act.put, List.setIfInBounds_toArray, List.set_cons_zero, List.set_cons_succ])))
                | (refine wpList_neq_ints rfl 171 171 170 (.tmp 129) (.tmp 145) rfl .u32 5 Try.underlying171 Try.underlying170 (fun _ => by kernel_rfl) (by kernel_rfl) [a0, a1, a2, a3, a4] [g % 4294967296, a1, (rs.length : Int) + 1, 0, a4] (by kernel_rfl) (by kernel_rfl) rfl rfl true HPV.out ?_
                   ((try dsimp only); (try simp only [Act.put, List.setIfInBounds_toArray, List.set_cons_zero, List.set_cons_succ])))
                | (refine wpList_load_mid rfl 98 (.tmp 2) rfl w.heap.size 0 (by kernel_rfl) _ _ (range_all (cs := [_, _, _, _]) HE.out.1) Try.underlying98 rfl infoImg ?_
                   ((try dsimp only); (try simp only [Act.put, List.setIfInBounds_toArray, List.set_cons_zero, List.set_cons_succ])))
                | (refine wpList_store_row rfl 98 (.tmp 2) (.tmp 199) rfl w.heap.size (by kernel_rfl) #[.int .i64 g, .int .i64 h, .int .i64 b, .slice Av rs.length cv] (by kernel_rfl) _ _ HE.out.1 infoImg rfl (img_one _ _ _ _ rfl) ?_)
                | (skip; fail))
              (try rw [Exit.noGoto_ret])
              exact bodyPost_ret (v := .tuple #[.agg #[.int .i64 g, .int .i64 h, .int .i64 b, .slice Av rs.length cv], .int .i64 used, .int .i64 0]) (results_row_tmp2 rfl _ _ w.heap.size _ _ _ _ _ _ (by kernel_rfl) (by kernel_rfl) (by kernel_rfl) (setRow_heap _ _ _ _ _ _ HE.out.1) Try.underlying98 rfl infoImg) (by kernel_rfl) (by rw [HIM.out]; exact HE.out.2)
            · have hpb : partOk S g h (num4 (sct S h used 0) 1) (a4.toNat : Int) rs.length used 0 = true := by rw [Int.toNat_of_nonneg (by omega), ← HN.out.2.1, hpq]; exact hpv
              have HPV := Lib.hid (show ([a0, a1, a2, a3, a4] == [g % 4294967296, a1, (rs.length : Int) + 1, 0, a4]) = !false from hpv)
              have HPB := Lib.hid hpb
              clear hpv hpq hpb
              go_wp2_with (first
                | (refine wpList_load_mid rfl 171 (.tmp 128) rfl Z.heap.size 0 (by kernel_rfl) _ _ (partRange H3.out.2.1) Try.underlying171 rfl (by kernel_rfl) ?_
                   ((try dsimp only); (try simp only [Act.put, List.setIfInBounds_toArray, List.set_cons_zero, List.set_cons_succ])))
                | (refine wpList_neq_ints rfl 171 171 170 (.tmp 129) (.tmp 145) rfl .u32 5 Try.underlying171 Try.underlying170 (fun _ => by kernel_rfl) (by kernel_rfl) [a0, a1, a2, a3, a4] [g % 4294967296, a1, (rs.length : Int) + 1, 0, a4] (by kernel_rfl) (by kernel_rfl) rfl rfl false HPV.out ?_
                   ((try dsimp only); (try simp only [Act.put, List.setIfInBounds_toArray, List.set_cons_zero, List.set_cons_succ])))
                | (refine wpList_append_own_at _ rfl (.tmp 147) (.tmp 149) 49 rfl wo.heap.size 5 ip _ 1 1 Try.underlying49 HU8.out.1 HU8.out.2.1 HU8.out.2.2.1 HU8.out.2.2.2 rfl (by omega) (.slice none 0 0) (44 * 0) _ (by kernel_rfl) H3.out.2.2.2.2.1 ⟨Z.heap.size, 5, none⟩ 44 44 (u8s ld) (by kernel_rfl) H3.out.2.2.2.2.2.1 H3.out.2.2.2.2.2.2 (u8s_one _) (by unfold maxLen; omega) (by omega) H3.out.2.2.1.size ?_
                   intro v' W3 hown hgr _ hat
                   have HA := Lib.hid (And.intro hown hgr)
                   clear hown hgr hat)
                | (skip; fail))
              go_roundg 745
              case measure => have := HI.out.1; omega
              case rel =>
                refine ⟨rfl, ?_⟩
                have hstep := inner_step (S := S) (g := g) (h := h) (b := b) (last := last) (k := rs.length) (used := used) (i := 0) (n := a4.toNat) (j := 745) H3.out.1 (by rw [nums_list, ← HN.out.1, ← HN.out.2.1, ← HN.out.2.2.1, ← HN.out.2.2.2.1, ← HN.out.2.2.2.2.1, ← HN.out.2.2.2.2.2]) H3.out.2.2.2.2.1 HA.out.1 HA.out.2 H3.out.2.2.1 HN.out.2.2.2.2.2 HZ.out.2 rfl rfl (by omega) (by omega) (by rw [Int.toNat_of_nonneg (by omega)]; exact HN.out.2.2.2.2.1) (by rw [← HN.out.2.1]; exact k1) (by rw [← HN.out.2.1]; exact k2) (fun q hq => absurd hq (Nat.not_lt_zero _)) HPB.out
                rw [Int.toNat_of_nonneg (by omega)] at hstep
                exact hstep
      · by_cases hlt : i < n
        · by_cases hend : 1024 ≤ used + i
          · have HPB := Lib.hid (recAt_part (half := h) (last := last) (most := b % 4294967296) (g := g) (k := rs.length) hlt hnn (partOk_out hend))
            clear i0 i1 i2 i3 if' hfst hok hnn hbl hbm
            have HE := Lib.hid (And.intro bI (img_end HO.out.1 HPB.out HO.out.2.2.2.2.2.2.2.1 HO.out.2.2.2.2.2.2.2.2 hcI bI))
            clear bI
            go_wp2_with (first
              | (refine wpList_load_mid rfl 98 (.tmp 2) rfl w.heap.size 0 (by kernel_rfl) _ _ (range_all (cs := [_, _, _, _]) HE.out.1) Try.underlying98 rfl infoImg ?_)
              | (refine wpList_store_row rfl 98 (.tmp 2) (.tmp 199) rfl w.heap.size (by kernel_rfl) #[.int .i64 g, .int .i64 h, .int .i64 b, .slice Av rs.length cv] (by kernel_rfl) _ _ HE.out.1 infoImg rfl (img_one _ _ _ _ rfl) ?_)
              | fail)
            (try rw [Exit.noGoto_ret])
            exact bodyPost_ret (v := .tuple #[.agg #[.int .i64 g, .int .i64 h, .int .i64 b, .slice Av rs.length cv], .int .i64 used, .int .i64 0]) (results_row_tmp2 rfl _ _ w.heap.size _ _ _ _ _ _ (by kernel_rfl) (by kernel_rfl) (by kernel_rfl) (setRow_heap _ _ _ _ _ _ HE.out.1) Try.underlying98 rfl infoImg) (by kernel_rfl) (by rw [HIM.out]; exact HE.out.2)
          · clear i0 i2 i3 if' bI
            have HS := Lib.hid (show sct S h used i = S (1 + h * 1024 + used + i) from rfl)
            have HF := Lib.hid hfst
            obtain ⟨b1, hB1⟩ : ∃ b1, b1 = num4 (sct S h used 0) 1 := ⟨_, rfl⟩
            have r1 := num4_range (HD.out.2.2.1 (1 + h * 1024 + used + ((0 : Nat) : Int))) 1
            have rb0 : 0 ≤ b1 := by rw [hB1]; exact r1.1
            have rb1 : b1 < 4294967296 := by rw [hB1]; exact r1.2
            have HB1 := Lib.hid hB1
            have HOK := Lib.hid (And.intro hnn (And.intro hbl (And.intro hbm hok)))
            clear hfst hB1 r1 hnn hbl hbm hok
            have hlk : rs.length ≤ 1024 := by have := HO.out.2.2.2.1; omega
            have hie : ((i : Int) == 0) = false := by simp; omega
            go_wp2_with (go_at_call 30; refine (read_ok p bm v0 D.L D.armed D.left _ _ (HD.out.1.kept (HO.out.2.2.2.2.2.2.2.2.trans hcI) (by simp) (by simp) (by simp)) (by omega) (by omega)).mono ?_; rintro e Y ⟨A1, c1, rfl, hO, hc⟩; rw [← HD.out.2.2.2, ← HS.out] at hO; obtain ⟨gs, rfl, hg1, hg2, hcap, hr⟩ := own_row hO (by omega); have HY := Lib.hid (And.intro hO hc); clear hO hc hr hg1 hg2)
            refine (read_part gs 0 (sct S h used i) c1 Y (row_bytes HY.out.1 (HD.out.2.1 _)) (HD.out.2.1 _) hcap (HD.out.2.2.1 _)).mono ?_
            rintro e Z ⟨rfl, hc⟩
            have hwZ := HY.out.2.trans hc
            clear hc
            obtain ⟨ld, hld⟩ : ∃ ld, ld = (sct S h used i).drop 20 := ⟨_, rfl⟩
            obtain ⟨a0, ha0⟩ : ∃ a, a = num4 (sct S h used i) 0 := ⟨_, rfl⟩
            obtain ⟨a1, ha1⟩ : ∃ a, a = num4 (sct S h used i) 1 := ⟨_, rfl⟩
            obtain ⟨a2, ha2⟩ : ∃ a, a = num4 (sct S h used i) 2 := ⟨_, rfl⟩
            obtain ⟨a3, ha3⟩ : ∃ a, a = num4 (sct S h used i) 3 := ⟨_, rfl⟩
            obtain ⟨a4, ha4⟩ : ∃ a, a = num4 (sct S h used i) 4 := ⟨_, rfl⟩
            have hnb := fun k => num4_range (HD.out.2.2.1 (1 + h * 1024 + used + i)) k
            have r1 : 0 ≤ a1 ∧ a1 < 4294967296 := by rw [ha1]; exact hnb 1
            have r4 : 0 ≤ a4 ∧ a4 < 4294967296 := by rw [ha4]; exact hnb 4
            clear hnb
            obtain ⟨r1a, r1b⟩ := r1
            obtain ⟨r4a, r4b⟩ := r4
            have hll : ld.length = 44 := by rw [hld, List.length_drop]; unfold sct; rw [HD.out.2.1]
            rw [nums_list, ← ha0, ← ha1, ← ha2, ← ha3, ← ha4, ← hld]
            have HN := Lib.hid (And.intro ha0 (And.intro ha1 (And.intro ha2 (And.intro ha3 (And.intro ha4 hld)))))
            have HZ := Lib.hid (And.intro hwZ hll)
            clear ha0 ha1 ha2 ha3 ha4 hld hwZ hll hcap
            have hpq := partOk_eq (g := g) (boot := num4 (sct S h used 0) 1) (n := n) (k := rs.length) HN.out.1 HN.out.2.1 HN.out.2.2.1 HN.out.2.2.2.1 HN.out.2.2.2.2.1 (by omega) hlk
            have hpq' := Lib.hid hpq
            clear hpq
            cases hpv : ([a0, a1, a2, a3, a4] == [g % 4294967296, b1, (rs.length : Int) + 1, (i : Int), (n : Int)])
            · have hpb : partOk S g h (num4 (sct S h used 0) 1) (n : Int) rs.length used i = false := by rw [hpq'.out, ← HB1.out]; exact hpv
              have HPV := Lib.hid (show ([a0, a1, a2, a3, a4] == [g % 4294967296, b1, (rs.length : Int) + 1, (i : Int), (n : Int)]) = !true from hpv)
              have HPB := Lib.hid (recAt_part (half := h) (last := last) (most := b % 4294967296) (i := i) (n := n) hlt HOK.out.1 hpb)
              clear hpv hpb
              go_wp2_with (first
                | (refine wpList_alloc rfl 174 rfl _ zeroPart ?_
                   refine wpList_world (fun V => V.heap[Z.heap.size]? = some (.cells (partC z5 z44).toArray 174 (0, 0)) ∧ Chg [] Z V) ⟨heap_new _ _ rfl, (by with_reducible repeat (first | exact Chg.refl _ _ | apply Chg.alloc | apply Chg.drew | apply Chg.drewN | (refine Chg.setCell ?_ _ _ (by simp))))⟩ ?_
                   rintro V ⟨hv1, hv2⟩
                   refine wpList_store_row rfl 174 (.tmp 14) (.tmp 92) rfl Z.heap.size (by kernel_rfl) (partC [a0, a1, a2, a3, a4] ld).toArray (by kernel_rfl) _ _ hv1 (partSz HZ.out.2) (partSame HZ.out.2) (part_one _ _) ?_
                   refine wpList_world (fun X => X.heap[Z.heap.size]? = some (.cells (partC [a0, a1, a2, a3, a4] ld).toArray 174 (0, 0)) ∧ Chg [] Z X) ⟨setRow_heap _ _ _ _ _ _ hv1, hv2.andThen (setRow_chg _ _ _) (by simp)⟩ ?_
                   rintro X3 ⟨hp3, hx2⟩
                   have hwx := HZ.out.1.trans hx2
                   have hf3 := hwx.at HF.out (by simp)
                   have hc3 := hcI.trans hwx
                   have bI3 := hc3.at HO.out.2.2.2.2.2.2.1 (by simp)
                   have hal : X3.ownsRow wo.heap.size 5 1 u8 (44 * i) (u8s (loads S h used i)) := (HI.out.2.1.kept hwx (by simp)).at (loads_len HD.out.2.1 h used i)
                   have H3 := Lib.hid (And.intro hf3 (And.intro hp3 (And.intro hc3 (And.intro bI3 (And.intro hal (And.intro (by simp [u8s]; exact HZ.out.2 : (u8s ld).length = 44 * 1) (partLoad hp3 HZ.out.2)))))))
                   have f1 := (partCell (a0 := num4 (sct S h used 0) 0) (a1 := num4 (sct S h used 0) 1) (a2 := num4 (sct S h used 0) 2) (a3 := num4 (sct S h used 0) 3) (a4 := num4 (sct S h used 0) 4) hf3).1
                   rw [← HB1.out] at f1
                   obtain ⟨j0, j1, j2, j3, _⟩ := cell4 bI3
                   clear hv1 hv2 hx2 hwx hp3 hf3 hc3 bI3 hal
                   ((try dsimp only); (try simp only [Act.put, List.setIfInBounds_toArray, List.set_cons_zero, List.set_cons_succ])))
                | (refine wpList_load_mid rfl 171 (.tmp 128) rfl Z.heap.size 0 (by kernel_rfl) _ _ (partRange H3.out.2.1) Try.underlying171 rfl (by kernel_rfl) ?_
                   ((try dsimp only); (try simp only [Act.put, List.setIfInBounds_toArray, List.set_cons_zero, List.set_cons_succ])))
                | (refine wpList_neq_ints rfl 171 171 170 (.tmp 129) (.tmp 145) rfl .u32 5 Try.underlying171 Try.underlying170 (fun _ => by kernel_rfl) (by kernel_rfl) [a0, a1, a2, a3, a4] [g % 4294967296, b1, (rs.length : Int) + 1, (i : Int), (n : Int)] (by kernel_rfl) (by kernel_rfl) rfl rfl true HPV.out ?_
                   ((try dsimp only); (try simp only [Act.put, List.setIfInBounds_toArray, List.set_cons_zero, List.set_cons_succ])))
                | (refine wpList_load_mid rfl 98 (.tmp 2) rfl w.heap.size 0 (by kernel_rfl) _ _ (range_all (cs := [_, _, _, _]) H3.out.2.2.2.1) Try.underlying98 rfl infoImg ?_
                   ((try dsimp only); (try simp only [Act.put, List.setIfInBounds_toArray, List.set_cons_zero, List.set_cons_succ])))
                | (refine wpList_store_row rfl 98 (.tmp 2) (.tmp 199) rfl w.heap.size (by kernel_rfl) #[.int .i64 g, .int .i64 h, .int .i64 b, .slice Av rs.length cv] (by kernel_rfl) _ _ H3.out.2.2.2.1 infoImg rfl (img_one _ _ _ _ rfl) ?_)
                | (skip; fail))
              (try rw [Exit.noGoto_ret])
              exact bodyPost_ret (v := .tuple #[.agg #[.int .i64 g, .int .i64 h, .int .i64 b, .slice Av rs.length cv], .int .i64 used, .int .i64 0]) (results_row_tmp2 rfl _ _ w.heap.size _ _ _ _ _ _ (by kernel_rfl) (by kernel_rfl) (by kernel_rfl) (setRow_heap _ _ _ _ _ _ H3.out.2.2.2.1) Try.underlying98 rfl infoImg) (by kernel_rfl) (by rw [HIM.out]; exact img_end HO.out.1 HPB.out HO.out.2.2.2.2.2.2.2.1 HO.out.2.2.2.2.2.2.2.2 H3.out.2.2.1 H3.out.2.2.2.1)
            · have hpb : partOk S g h (num4 (sct S h used 0) 1) (n : Int) rs.length used i = true := by rw [hpq'.out, ← HB1.out]; exact hpv
              have HPV := Lib.hid (show ([a0, a1, a2, a3, a4] == [g % 4294967296, b1, (rs.length : Int) + 1, (i : Int), (n : Int)]) = !false from hpv)
              have HPB := Lib.hid hpb
              clear hpv hpb
              go_wp2_with (first
                | (refine wpList_alloc rfl 174 rfl _ zeroPart ?_
                   refine wpList_world (fun V => V.heap[Z.heap.size]? = some (.cells (partC z5 z44).toArray 174 (0, 0)) ∧ Chg [] Z V) ⟨heap_new _ _ rfl, (by with_reducible repeat (first | exact Chg.refl _ _ | apply Chg.alloc | apply Chg.drew | apply Chg.drewN | (refine Chg.setCell ?_ _ _ (by simp))))⟩ ?_
                   rintro V ⟨hv1, hv2⟩
                   refine wpList_store_row rfl 174 (.tmp 14) (.tmp 92) rfl Z.heap.size (by kernel_rfl) (partC [a0, a1, a2, a3, a4] ld).toArray (by kernel_rfl) _ _ hv1 (partSz HZ.out.2) (partSame HZ.out.2) (part_one _ _) ?_
                   refine wpList_world (fun X => X.heap[Z.heap.size]? = some (.cells (partC [a0, a1, a2, a3, a4] ld).toArray 174 (0, 0)) ∧ Chg [] Z X) ⟨setRow_heap _ _ _ _ _ _ hv1, hv2.andThen (setRow_chg _ _ _) (by simp)⟩ ?_
                   rintro X3 ⟨hp3, hx2⟩
                   have hwx := HZ.out.1.trans hx2
                   have hf3 := hwx.at HF.out (by simp)
                   have hc3 := hcI.trans hwx
                   have bI3 := hc3.at HO.out.2.2.2.2.2.2.1 (by simp)
                   have hal : X3.ownsRow wo.heap.size 5 1 u8 (44 * i) (u8s (loads S h used i)) := (HI.out.2.1.kept hwx (by simp)).at (loads_len HD.out.2.1 h used i)
                   have H3 := Lib.hid (And.intro hf3 (And.intro hp3 (And.intro hc3 (And.intro bI3 (And.intro hal (And.intro (by simp [u8s]; exact HZ.out.2 : (u8s ld).length = 44 * 1) (partLoad hp3 HZ.out.2)))))))
                   have f1 := (partCell (a0 := num4 (sct S h used 0) 0) (a1 := num4 (sct S h used 0) 1) (a2 := num4 (sct S h used 0) 2) (a3 := num4 (sct S h used 0) 3) (a4 := num4 (sct S h used 0) 4) hf3).1
                   rw [← HB1.out] at f1
                   obtain ⟨j0, j1, j2, j3, _⟩ := cell4 bI3
                   clear hv1 hv2 hx2 hwx hp3 hf3 hc3 bI3 hal
                   ((try dsimp only); (try simp only [Act.put, List.setIfInBounds_toArray, List.set_cons_zero, List.set_cons_succ])))
                | (refine wpList_load_mid rfl 171 (.tmp 128) rfl Z.heap.size 0 (by kernel_rfl) _ _ (partRange H3.out.2.1) Try.underlying171 rfl (by kernel_rfl) ?_
                   ((try dsimp only); (try simp only [Act.put, List.setIfInBounds_toArray, List.set_cons_zero, List.set_cons_succ])))
                | (refine wpList_neq_ints rfl 171 171 170 (.tmp 129) (.tmp 145) rfl .u32 5 Try.underlying171 Try.underlying170 (fun _ => by kernel_rfl) (by kernel_rfl) [a0, a1, a2, a3, a4] [g % 4294967296, b1, (rs.length : Int) + 1, (i : Int), (n : Int)] (by kernel_rfl) (by kernel_rfl) rfl rfl false HPV.out ?_
                   ((try dsimp only); (try simp only [Act.put, List.setIfInBounds_toArray, List.set_cons_zero, List.set_cons_succ])))
                | (refine wpList_append_own_at _ rfl (.tmp 147) (.tmp 149) 49 rfl wo.heap.size 5 ip _ 1 1 Try.underlying49 HU8.out.1 HU8.out.2.1 HU8.out.2.2.1 HU8.out.2.2.2 rfl (by omega) u8 (44 * i) _ (by kernel_rfl) H3.out.2.2.2.2.1 ⟨Z.heap.size, 5, none⟩ 44 44 (u8s ld) (by kernel_rfl) H3.out.2.2.2.2.2.1 H3.out.2.2.2.2.2.2 (u8s_one _) (by unfold maxLen; omega) (by omega) H3.out.2.2.1.size ?_
                   intro v' W3 hown hgr _ hat
                   have HA := Lib.hid (And.intro hown hgr)
                   clear hown hgr hat
                   ((try dsimp only); (try simp only [Act.put, List.setIfInBounds_toArray, List.set_cons_zero, List.set_cons_succ])))
                | (skip; fail))
              go_roundg (gk - 1)
              case measure => have := HI.out.1; omega
              case rel => exact ⟨rfl, inner_step (S := S) (g := g) (h := h) (b := b) (last := last) (k := rs.length) (used := used) (i := i) (n := n) (j := gk - 1) H3.out.1 rfl H3.out.2.2.2.2.1 HA.out.1 HA.out.2 H3.out.2.2.1 HN.out.2.2.2.2.2 HZ.out.2 (loads_len HD.out.2.1 h used i) (by have := HI.out.1; omega) (by omega) (by omega) HOK.out.1 HOK.out.2.1 HOK.out.2.2.1 HOK.out.2.2.2 HPB.out⟩
        · have hin' : i = n := by omega
          subst hin'
          have hl44 := loads_len HD.out.2.1 h used i
          have hrw := HI.out.2.1.at hl44
          obtain ⟨Aa, ca, hu8⟩ := own_slice hrw
          subst hu8
          obtain ⟨ga, hga, hg1, hg2, hcap, hcell⟩ := own_row hrw (by omega)
          subst hga
          obtain ⟨m, hm⟩ : ∃ m, m = 44 * i := ⟨_, rfl⟩
          rw [← hm] at hrw hl44 hcap ⊢
          obtain ⟨ls, hls⟩ : ∃ ls, ls = loads S h used i := ⟨_, rfl⟩
          rw [← hls] at hrw hl44 hcell
          have hlb : Bytes ls := by rw [hls]; exact loads_bytes HD.out.2.2.1 h used i
          have hm4 : 44 ≤ m := by omega
          have hx : ∀ k, k < m → wy.cell? ⟨ga, k, none⟩ = some (.int .u8 (ls.getD k 0)) := fun k hk => hcell k _ (by simp [u8s, List.getD_eq_getElem?_getD, List.getElem?_eq_getElem (show k < ls.length by omega)])
          have z0 := hx 0 (by omega)
          have z1 := hx 1 (by omega)
          have z2 := hx 2 (by omega)
          have z3 := hx 3 (by omega)
          obtain ⟨x0, hx0⟩ : ∃ x, x = ls.getD 0 0 := ⟨_, rfl⟩
          obtain ⟨x1, hx1⟩ : ∃ x, x = ls.getD 1 0 := ⟨_, rfl⟩
          obtain ⟨x2, hx2⟩ : ∃ x, x = ls.getD 2 0 := ⟨_, rfl⟩
          obtain ⟨x3, hx3⟩ : ∃ x, x = ls.getD 3 0 := ⟨_, rfl⟩
          rw [← hx0] at z0
          rw [← hx1] at z1
          rw [← hx2] at z2
          rw [← hx3] at z3
          have y0 : 0 ≤ x0 ∧ x0 < 256 := by rw [hx0]; exact hlb.at 0
          have y1 : 0 ≤ x1 ∧ x1 < 256 := by rw [hx1]; exact hlb.at 1
          have y2 : 0 ≤ x2 ∧ x2 < 256 := by rw [hx2]; exact hlb.at 2
          have y3 : 0 ≤ x3 ∧ x3 < 256 := by rw [hx3]; exact hlb.at 3
          obtain ⟨y0a, y0b⟩ := y0
          obtain ⟨y1a, y1b⟩ := y1
          obtain ⟨y2a, y2b⟩ := y2
          obtain ⟨y3a, y3b⟩ := y3
          have HX := Lib.hid (And.intro hx0 (And.intro hx1 (And.intro hx2 (And.intro hx3 (And.intro hls (And.intro hl44 (And.intro hlb (And.intro hrw hm))))))))
          have HOK := Lib.hid (And.intro hnn (And.intro hbl (And.intro hbm (And.intro hok hfst))))
          clear hx0 hx1 hx2 hx3 hls hl44 hlb hrw hm hx hcell hnn hbl hbm hok hfst
          have m0 : 0 < m := by omega
          have m1 : 1 < m := by omega
          have m2 : 2 < m := by omega
          have m3 : 3 < m := by omega
          clear i0 i1 i2 i3 if'
          go_wp2_with fail
          go_quiet (fail)
          rw [or4i x0 x1 x2 x3 y0a y0b y1a y1b y2a y2b y3a y3b]
          obtain ⟨z, hz⟩ : ∃ z : Nat, x0 * 16777216 + x1 * 65536 + x2 * 256 + x3 = z := ⟨(x0 * 16777216 + x1 * 65536 + x2 * 256 + x3).toNat, by omega⟩
          have hsz : numTo (loads S h used i) 0 4 = z := by rw [← HX.out.2.2.2.2.1, numTo4, ← HX.out.1, ← HX.out.2.1, ← HX.out.2.2.1, ← HX.out.2.2.2.1, hz]
          have hz32 : z < 4294967296 := by omega
          rw [hz]
          have HSZ := Lib.hid hsz
          clear hsz hz z0 z1 z2 z3 y0a y0b y1a y1b y2a y2b y3a y3b
          obtain ⟨X4, hX4⟩ : ∃ X4, X4 = wy.drewN nq := ⟨_, rfl⟩
          rw [← hX4]
          have hc4 : Chg [] wy X4 := by rw [hX4]; exact (Chg.refl [] wy).drewN nq
          have hf4 := hc4.at HOK.out.2.2.2.2 (by simp)
          have f4 := (partCell (a0 := num4 (sct S h used 0) 0) (a1 := num4 (sct S h used 0) 1) (a2 := num4 (sct S h used 0) 2) (a3 := num4 (sct S h used 0) 3) (a4 := num4 (sct S h used 0) 4) hf4).2
          rw [← HOK.out.1] at f4
          have H4 := Lib.hid (And.intro hc4 hf4)
          clear hc4 hf4 hX4
          obtain ⟨ps, hps⟩ : ∃ ps, ps = partsN z := ⟨_, rfl⟩
          have HPC := Lib.hid (show ∀ W, Calls Try.prog 66 #[.int .i64 z] W fun e w' => e = .returned (.int .i64 ps) ∧ w' = W from fun W => by rw [hps]; exact parts_same _ _)
          have HPS := Lib.hid hps
          clear hps
          by_cases hpe : ps = i
          · have e1 : (ps == (i : Int)) = true := by simpa using hpe
            have e2 : (ps != (i : Int)) = false := by simpa using hpe
            have HPE := Lib.hid hpe
            clear hpe
            go_wp2_with fail
            go_quiet ((go_at_call 66; exact Calls.quiet_of_same (HPC.out _)))
            go_wp2_with fail
            obtain ⟨X5, hX5⟩ : ∃ X5, X5 = X4.drewN nq := ⟨_, rfl⟩
            rw [← hX5]
            have hc5 : Chg [] wy X5 := by rw [hX5]; exact H4.out.1.drewN nq
            have bI5 := hc5.at bI (by simp)
            have j3 := (cell4 bI5).2.2.2.1
            have hrow5 : X5.ownsRow wo.heap.size 5 1 (.slice (some ⟨ga, 0, none⟩) m ca) m (u8s ls) := own_kept HX.out.2.2.2.2.2.2.2.1 hc5 (by simp)
            have H5 := Lib.hid (And.intro hc5 (And.intro bI5 hrow5))
            have hzp : 4 + z ≤ m := by
              have h1 := HPS.out
              have h2 := HPE.out
              have h3 := HX.out.2.2.2.2.2.2.2.2
              rw [h2] at h1
              unfold partsN at h1
              split at h1 <;> omega
            have hca4 : ¬ ca = 4 := by omega
            clear hX5 hc5 bI5 hrow5 bI e1 e2 f4
            have hw4 : IntKind.i64.wrap (4 + (z : Int)) = 4 + z := IntWalk.i64_in _ (by omega)
            have ht4 : (4 + (z : Int)).toNat = 4 + z := by omega
            have hzca : 4 + z ≤ ca := by omega
            refine wp_region_M (fun W => W.cell? ⟨w.heap.size, 3, none⟩ = some (.slice Av rs.length cv)) (fun k => [6, 7, 8, 10].contains k) (fun k => [10].contains k) (by kernel_rfl) ?_
            ((try dsimp only); (try simp only [Act.put, List.setIfInBounds_toArray, List.set_cons_zero, List.set_cons_succ]))
            refine M_pure (i := 0) (v := ?_) rfl (by kernel_rfl) (by kernel_rfl) (by kernel_rfl) (fun _ _ _ h => h) (by rfl) ?hy ?_; (case hy => (intro w; go_simp; with_reducible rfl)); ((try dsimp only); (try simp only [Act.put, List.setIfInBounds_toArray, List.set_cons_zero, List.set_cons_succ]))
            refine M_semi (i := 1) (v := ?_) rfl (by kernel_rfl) (by kernel_rfl) (by kernel_rfl) (by kernel_rfl) (fun _ _ _ h => h) (by rfl) j3 ?hy ?_; (case hy => (intro w hS; go_simp; with_reducible rfl)); ((try dsimp only); (try simp only [Act.put, List.setIfInBounds_toArray, List.set_cons_zero, List.set_cons_succ]))
            refine M_pure (i := 2) (v := ?_) rfl (by kernel_rfl) (by kernel_rfl) (by kernel_rfl) (fun _ _ _ h => h) (by rfl) ?hy ?_; (case hy => (intro w; go_simp; with_reducible rfl)); ((try dsimp only); (try simp only [Act.put, List.setIfInBounds_toArray, List.set_cons_zero, List.set_cons_succ]))
            refine M_pure (i := 3) (v := ?_) rfl (by kernel_rfl) (by kernel_rfl) (by kernel_rfl) (fun _ _ _ h => h) (by rfl) ?hy ?_; (case hy => (intro w; go_simp; with_reducible rfl)); ((try dsimp only); (try simp only [Act.put, List.setIfInBounds_toArray, List.set_cons_zero, List.set_cons_succ]))
            refine M_pure (i := 4) (v := ?_) rfl (by kernel_rfl) (by kernel_rfl) (by kernel_rfl) (fun _ _ _ h => h) (by rfl) ?hy ?_; (case hy => (intro w; go_simp; with_reducible rfl)); ((try dsimp only); (try simp only [Act.put, List.setIfInBounds_toArray, List.set_cons_zero, List.set_cons_succ]))
            refine M_pure (i := 5) (v := .slice (some ⟨ga, 4, none⟩) z (ca - 4)) rfl (by kernel_rfl) (by kernel_rfl) (by kernel_rfl) (fun _ _ _ h => h) (by kernel_rfl) ?hy ?_
            case hy =>
              intro w
              go_simp
              rw [if_pos (by omega), if_pos (by omega)]
            ((try dsimp only); (try simp only [Act.put, List.setIfInBounds_toArray, List.set_cons_zero, List.set_cons_succ]))
            clear hw4 ht4
            have hsrc : ∀ W, Chg [] X5 W → ∀ j u, (u8s ((ls.drop 4).take z))[j]? = some u → W.cell? ((⟨ga, 4, none⟩ : Addr).add j) = some u := by
              intro W hW j u hu
              rw [Addr.add_mid]
              have hr5 := hW.cell (H5.out.2.2.cells (g := ga) rfl (4 + j) u (by
                rw [u8s, ← hu, u8s, List.getElem?_map, List.getElem?_map]
                rw [List.getElem?_take_of_lt (by have := (List.getElem?_eq_some_iff.1 hu).1; simp [u8s] at this; omega), List.getElem?_drop])) (by simp)
              rwa [Addr.add_mid, Nat.zero_add] at hr5
            have HSRC := Lib.hid hsrc
            clear hsrc
            have hrl : (u8s ((ls.drop 4).take z)).length = z * 1 := by
              have := HX.out.2.2.2.2.2.1
              simp [u8s]; omega
            have HRL := Lib.hid hrl
            clear hrl
            obtain ⟨rb, hrbd⟩ : ∃ rb, rb = (ls.drop 4).take z := ⟨_, rfl⟩
            rw [← hrbd] at HSRC HRL
            have HRB := Lib.hid hrbd
            clear hrbd
            obtain ⟨ip2, hi, hz0, hz1, hz2⟩ := info_parts infoBS
            have HBS := Lib.hid (And.intro hi (And.intro hz0 (And.intro hz1 hz2)))
            clear hi hz0 hz1 hz2
            refine M_eff (i := 6) rfl (by kernel_rfl) (by rfl) ?_
            refine wpList_append_own_at _ rfl (.const (.slice none 0 0)) (.tmp 185) 49 rfl 0 5 ip _ 1 1 Try.underlying49 HU8.out.1 HU8.out.2.1 HU8.out.2.2.1 HU8.out.2.2.2 rfl (by omega) (.slice none 0 0) 0 [] rfl (World.ownsRow_nil _ _ _ _) ⟨ga, 4, none⟩ z (ca - 4) (u8s rb) (by kernel_rfl) HRL.out (HSRC.out _ (Chg.refl [] X5).drew) (u8s_one _) (by unfold maxLen; omega) (by omega) (Nat.zero_le _) ?_
            intro v' W1 hown hgr _ hat
            have hcw1 : Chg [] X5 W1 := Chg.grown (Chg.refl [] X5).drew hgr (by simp [Value.ownBlock])
            have hrb : RowB W1 0 v' rb := RowB.mk hown (by have := HRL.out; simp [u8s] at this; simp; omega) (by simp)
            clear hown hgr hat
            obtain ⟨A1, c1, rfl⟩ := hrb.slice
            have k3 := hcw1.cell j3 (by simp)
            have HW1 := Lib.hid (And.intro hcw1 hrb)
            clear hcw1 hrb
            refine wpList_nil ⟨k3, ?_⟩
            ((try dsimp only); (try simp only [Act.put, List.setIfInBounds_toArray, List.set_cons_zero, List.set_cons_succ]))
            refine M_eff (i := 7) rfl (by kernel_rfl) (by rfl) ?_
            go_wp2_with fail
            refine ⟨by exact (Chg.alloc (Chg.refl [] W1) _).cell k3 (by simp), ?_⟩
            ((try dsimp only); (try simp only [Act.put, List.setIfInBounds_toArray, List.set_cons_zero, List.set_cons_succ]))
            obtain ⟨hs, hrow, hh⟩ := HO.out.2.2.2.2.2.2.2.1
            have hcwa : Chg [] wo (W1.alloc (.cells #[.slice A1 rb.length c1] 49)) := ((hcI.trans H5.out.1).trans HW1.out.1).alloc _
            have hrow2 : (W1.alloc (.cells #[.slice A1 rb.length c1] 49)).ownsRow w.heap.size 49 1 (.slice Av rs.length cv) rs.length hs := own_kept hrow hcwa (by simp)
            have hh2 : ∀ (i : Nat) h r, hs[i]? = some h → rs[i]? = some r → RowB (W1.alloc (.cells #[.slice A1 rb.length c1] 49)) 0 h r := fun i h r h1 h2 => (hh i h r h1 h2).kept hcwa (by simp)
            have hrb2 : RowB (W1.alloc (.cells #[.slice A1 rb.length c1] 49)) 0 (.slice A1 rb.length c1) rb := HW1.out.2.kept (Chg.alloc (Chg.refl [] W1) _) (by simp)
            have HW2 := Lib.hid (And.intro hrow2 (And.intro hh2 (And.intro hrb2 hcwa)))
            clear hrb2
            have hwz : w.heap.size ≤ (W1.alloc (.cells #[.slice A1 rb.length c1] 49)).heap.size := (HO.out.2.2.2.2.2.2.2.2.trans hcwa).size
            have hlk : rs.length ≤ 1024 := by have := HO.out.2.2.2.1; omega
            clear hrow hh hcwa hrow2 hh2
            refine M_eff (i := 8) rfl (by kernel_rfl) (by rfl) ?_
            refine wpList_append_own_at _ rfl (.tmp 181) (.tmp 187) 96 rfl w.heap.size 49 ip2 _ 1 24 Try.underlying96 HBS.out.1 HBS.out.2.1 HBS.out.2.2.1 HBS.out.2.2.2 rfl (by omega) (.slice Av rs.length cv) rs.length hs (by kernel_rfl) HW2.out.1 ⟨W1.heap.size, 0, none⟩ 1 1 [.slice A1 rb.length c1] (by kernel_rfl) rfl (cell_one_new _ _ _) (by simp [Value.oneCell']) (by unfold maxLen; omega) (by omega) hwz ?_
            intro v2 W2 hown2 hgr2 _ _
            have hp2 := recsPush (wo := wo) (W3 := wo) (IMb := 0) (cs := #[]) HW2.out.1 HW2.out.2.1 HW2.out.2.2.1 hown2 hgr2
            obtain ⟨hrec2, hc2⟩ := hp2
            have bI6 := HW2.out.2.2.2.at HO.out.2.2.2.2.2.2.1 (by simp)
            have hni : w.heap.size ∉ (Value.slice Av rs.length cv).ownBlock.toList := fun hm => by have := own_kind HW2.out.1 _ hm _ _ _ bI6; cases this
            have bI7 := hc2.at bI6 hni
            obtain ⟨_, _, _, k4, k5⟩ := cell4 bI7
            have kf := k5 3
            have hcw2 : Chg [] w W2 := (HO.out.2.2.2.2.2.2.2.2.trans HW2.out.2.2.2).andThen hc2 (fun q hq => .inr (HW2.out.1.lt q (by simpa using hq)).1)
            have hfa := ((H5.out.1.trans HW1.out.1).alloc (.cells #[.slice A1 rb.length c1] 49)).at HOK.out.2.2.2.2 (by simp)
            have hff := hc2.at hfa (fun hm => by have := own_kind HW2.out.1 _ hm _ _ _ hfa; cases this)
            obtain ⟨A2, c2', rfl⟩ := own_slice hown2
            have HW3 := Lib.hid (And.intro hrec2 (And.intro bI7 (And.intro hcw2 hff)))
            have hwlt := lt_of_block HO.out.2.2.2.2.2.2.1
            clear hrec2 bI6 bI7 hcw2 hfa hff hown2 hgr2 hc2 hni k3
            refine wpList_nil ⟨k4, ?_⟩
            ((try dsimp only); (try simp only [Act.put, List.setIfInBounds_toArray, List.set_cons_zero, List.set_cons_succ]))
            refine M_pure (i := 9) (v := ?_) rfl (by kernel_rfl) (by kernel_rfl) (by kernel_rfl) (fun _ _ _ h => h) (by rfl) ?hy ?_; (case hy => (intro w; go_simp; with_reducible rfl)); ((try dsimp only); (try simp only [Act.put, List.setIfInBounds_toArray, List.set_cons_zero, List.set_cons_succ]))
            refine M_brk (i := 10) rfl (by kernel_rfl) (by rfl) (by rfl) ?_
            go_wp2_with fail
            ((try dsimp only [EffQ]); (try simp only [Act.put, List.setIfInBounds_toArray, List.set_cons_zero, List.set_cons_succ]))
            refine M_done (by kernel_rfl) ?_ _
            obtain ⟨X6, hX6⟩ : ∃ X6, X6 = W2.setCell ⟨w.heap.size, 3, none⟩ (.slice A2 (rs.length + 1) c2') := ⟨_, rfl⟩
            rw [← hX6]
            have hb6 : X6.heap[w.heap.size]? = some (.cells #[.int .i64 g, .int .i64 h, .int .i64 b, .slice A2 (rs.length + 1) c2'] 98 (0, 0)) := by rw [hX6]; exact heap_setCell_same W2 w.heap.size 3 _ _ (.slice A2 (rs.length + 1) c2') HW3.out.2.1
            have hc6 : Chg [w.heap.size] W2 X6 := by rw [hX6]; exact (Chg.refl _ _).setCell _ _ (by simp)
            have hf6 := hc6.at HW3.out.2.2.2 (by simp; omega)
            have hr6 : RecsA X6 w.heap.size (.slice A2 (rs.length + 1) c2') (rs ++ [rb]) := HW3.out.1.kept (w0 := w) (T := [some 98]) (ChgT.of_chg hc6 (fun k hk _ => by simp at hk; subst hk; exact ⟨Nat.le_refl _, fun o ho => by rw [HW3.out.2.1] at ho; cases ho; simp [okind]⟩)) (by decide) (by decide)
            have hcw6 : Chg [] w X6 := HW3.out.2.2.1.andThen hc6 (by simp)
            obtain ⟨f1, f4⟩ := partCell (a0 := num4 (sct S h used 0) 0) (a1 := num4 (sct S h used 0) 1) (a2 := num4 (sct S h used 0) 2) (a3 := num4 (sct S h used 0) 3) (a4 := num4 (sct S h used 0) 4) hf6
            rw [← HOK.out.1] at f4
            have r1 := num4_range (HD.out.2.2.1 (1 + h * 1024 + used + ((0 : Nat) : Int))) 1
            obtain ⟨b1, hB1⟩ : ∃ b1, b1 = num4 (sct S h used 0) 1 := ⟨_, rfl⟩
            have rb1 : b1 < 4294967296 := by rw [hB1]; exact r1.2
            rw [← hB1] at f1
            have hrr := recAt_some (g := g) (k := rs.length) (by omega) (by omega) HOK.out.1 HOK.out.2.1 HOK.out.2.2.1 HOK.out.2.2.2.1 (by rw [HSZ.out, ← HPS.out]; exact HPE.out)
            rw [HSZ.out, Int.toNat_natCast, ← HX.out.2.2.2.2.1, ← HRB.out, ← hB1] at hrr
            have HFIN := Lib.hid (outer_step HO.out.1 hrr HO.out.2.2.1 HO.out.2.2.2.1 hl0 hb6 hr6 hcw6 rb1)
            have hB1' := Lib.hid hB1
            clear hb6 hc6 hf6 hr6 hcw6 r1 hB1 hrr hX6 k4 k5 kf
            go_wp2_with fail
            go_roundg f
            case measure => omega
            case rel => exact HFIN.out
          · have e1 : (ps == (i : Int)) = false := by simpa using hpe
            have e2 : (ps != (i : Int)) = true := by simpa using hpe
            have HPE := Lib.hid (recAt_size (g := g) (most := b % 4294967296) (last := last) (k := rs.length) HOK.out.1 (by rw [HSZ.out, ← HPS.out]; exact hpe))
            clear hpe
            go_wp2_with fail
            go_quiet ((go_at_call 66; exact Calls.quiet_of_same (HPC.out _)))
            have HE := Lib.hid (And.intro (H4.out.1.at bI (by simp)) (img_end HO.out.1 HPE.out HO.out.2.2.2.2.2.2.2.1 HO.out.2.2.2.2.2.2.2.2 ((hcI.trans H4.out.1).drewN nq) (H4.out.1.at bI (by simp))))

            go_wp2_with (first
              | (refine wpList_load_mid rfl 98 (.tmp 2) rfl w.heap.size 0 (by kernel_rfl) _ _ (range_all (cs := [_, _, _, _]) HE.out.1) Try.underlying98 rfl infoImg ?_)
              | (refine wpList_store_row rfl 98 (.tmp 2) (.tmp 199) rfl w.heap.size (by kernel_rfl) #[.int .i64 g, .int .i64 h, .int .i64 b, .slice Av rs.length cv] (by kernel_rfl) _ _ HE.out.1 infoImg rfl (img_one _ _ _ _ rfl) ?_)
              | fail)
            (try rw [Exit.noGoto_ret])
            exact bodyPost_ret (v := .tuple #[.agg #[.int .i64 g, .int .i64 h, .int .i64 b, .slice Av rs.length cv], .int .i64 used, .int .i64 0]) (results_row_tmp2 rfl _ _ w.heap.size _ _ _ _ _ _ (by kernel_rfl) (by kernel_rfl) (by kernel_rfl) (setRow_heap _ _ _ _ _ _ HE.out.1) Try.underlying98 rfl infoImg) (by kernel_rfl) (by rw [HIM.out]; exact HE.out.2)
end Go.Proofs.Ytipijkpjmpejlaa
