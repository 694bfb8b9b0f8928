/- Parts of the proof of the law ChangesCut, number 4 of 5: laws over memory, contracts of functions, walks. No condition. -/
import Derived.Laws.EntriesVeiled
import Derived.Deep.CutRange
import Derived.Test.YtofjocjljbkjgaaQChangesCut3
set_option linter.unusedVariables false
set_option linter.unusedSimpArgs false
namespace Go.Proofs.Ytofjocjljbkjgaa
open Go.RowKit
structure PrB (w : World) (t : Tr) (A : Option Addr) (c : Nat) (W : World) : Prop where
  b0 : W.heap[w.heap.size]? = some (.cells #[.int .i64 (Tr.id t), .int .i64 (Tr.kind t), .string (Tr.text t), .slice A (Tr.kids t).length c] 24 (0, 0))
  b1 : W.heap[w.heap.size + 1]? = some (.cells #[.int .i64 0, .int .i64 0, .string ⟨#[]⟩, .slice none 0 0] 24 (0, 0))
  chg : Chg [] w W
theorem PrB.kept {w : World} {t : Tr} {A : Option Addr} {c : Nat} {W W' : World} (h : PrB w t A c W) (hc : Chg [] W W') : PrB w t A c W' := ⟨hc.at h.b0 (by simp), hc.at h.b1 (by simp), h.chg.trans hc⟩
end Go.Proofs.Ytofjocjljbkjgaa
namespace Go.Proofs.Ytofjocjljbkjgaa
open Go.RowKit
structure Cop (w wr : World) (t : Tr) (A : Option Addr) (c k : Nat) (v : Value) : Prop where
  arg : wr.heap[w.heap.size]? = some (.cells #[.int .i64 (Tr.id t), .int .i64 (Tr.kind t), .string (Tr.text t), .slice A (Tr.kids t).length c] 24 (0, 0))
  res : wr.heap[w.heap.size + 1]? = some (.cells #[.int .i64 0, .int .i64 0, .string ⟨#[]⟩, .slice none 0 0] 24 (0, 0))
  chg : Chg [] w wr
  row : RowV wr (w.heap.size + 2) v (t.kids.take k) (fun g => w.heap.size + 2 ≤ g)
set_option maxHeartbeats 4000000 in
set_option maxRecDepth 100000 in
theorem tcopy_any : ∀ (t : Tr) (A : Option Addr) (c : Nat) (w : World), TrC (fun _ => True) w t [.int .i64 (Tr.id t), .int .i64 (Tr.kind t), .string (Tr.text t), .slice A (Tr.kids t).length c] → t.nodes ≤ 100000 → Calls Try.prog 90 #[.agg #[.int .i64 (Tr.id t), .int .i64 (Tr.kind t), .string (Tr.text t), .slice A (Tr.kids t).length c]] w (NewPost t w) := by
  intro t
  induction t using Tr.ind with
  | h t ih =>
  intro A c w hT hN
  obtain ⟨ip, hi, hz0, hz1, hz2⟩ := info_parts infoNode
  obtain ⟨A', c', hcs, hlc, hcm, htx, hK⟩ := hT.opens
  simp only [List.cons.injEq, Value.slice.injEq, true_and, and_true] at hcs
  obtain ⟨rfl, rfl⟩ := hcs
  have hlen : t.kids.length ≤ 100000 := by have := nodesL_len t.kids; rw [Tr.nodes_eq] at hN; omega
  have HI := Lib.hid (And.intro hi (And.intro hz0 (And.intro hz1 hz2)))
  have HH := Lib.hid (And.intro ih (And.intro hN (And.intro hcm (And.intro hlc (And.intro htx hK)))))
  clear hi hz0 hz1 hz2 hT hK ih hN hcm hlc htx
  go_enter Try.func90, Try.ntmps90
  go_wp2
  refine wp_world (fun W => Cop w W t A c 0 (.slice none 0 0)) ⟨heap_old (heap_new _ _ rfl) _, heap_new _ _ (by simp), (by with_reducible repeat (first | exact Chg.refl _ _ | apply Chg.alloc | apply Chg.drew | apply Chg.drewN | (refine Chg.setCell ?_ _ _ (by simp)))), RowV.nil _ _ _⟩ ?_
  intro W hCop
  have HX := Lib.hid hCop
  clear hCop
  go_loopw [3, 9] (fun vs i wr => ∃ (k : Nat) (v : Value), k ≤ t.kids.length ∧ v = vs ∧ i = .int .i64 k ∧ Hid (Cop w wr t A c k v)) (fun _ i _ => t.kids.length - (intOf i).toNat)
  case atStart => exact ⟨0, _, Nat.zero_le _, rfl, rfl, HX.out⟩
  case round =>
    obtain ⟨k, v, hk, rfl, rfl, H⟩ := hrel
    clear HX
    obtain ⟨Av, cv, rfl⟩ : ∃ Av cv, v = .slice Av k cv := by
      obtain ⟨css, fs, ho, _⟩ := H.out.row
      obtain ⟨Av, cv, e⟩ := own_slice ho
      rw [show (t.kids.take k).length = k from by simp; omega] at e
      exact ⟨Av, cv, e⟩
    by_cases hlt : k < t.kids.length
    · obtain ⟨gk, ok, cs, rfl, _, hr, hat⟩ := HH.out.2.2.2.2.2 k _ (List.getElem?_eq_getElem hlt)
      obtain ⟨Ak, ck, rfl, _⟩ := hat.opens
      have hr' := H.out.chg.range hr (by simp)
      have hkn : (t.kids[k]).nodes ≤ 100000 := by have := nodesL_mem (List.getElem_mem hlt); have h2 := HH.out.2.1; rw [Tr.nodes_eq] at h2; omega
      have hAl : Chg [] wr (wr.alloc (.cells #[.int .i64 (Tr.id (t.kids[k])), .int .i64 (Tr.kind (t.kids[k])), .string (Tr.text (t.kids[k])), .slice Ak (Tr.kids (t.kids[k])).length ck] 24)) := (by with_reducible repeat (first | exact Chg.refl _ _ | apply Chg.alloc | apply Chg.drew | apply Chg.drewN | (refine Chg.setCell ?_ _ _ (by simp))))
      have hcall := HH.out.1 (t.kids[k]) (List.getElem_mem hlt) Ak ck (wr.alloc (.cells #[.int .i64 (Tr.id (t.kids[k])), .int .i64 (Tr.kind (t.kids[k])), .string (Tr.text (t.kids[k])), .slice Ak (Tr.kids (t.kids[k])).length ck] 24)) (hat.kept (H.out.chg.trans hAl) (by simp)) hkn
      have HC := Lib.hid (And.intro hcall (And.intro hr' hAl))
      clear hcall hat hkn hr hr' hAl
      go_wp2_with (first
        | (refine wpList_load_mid rfl 24 (.tmp 11) rfl gk (ok + k * 4) rfl _ _ HC.out.2.1 Try.underlying24 rfl szNode ?_)
        | (go_at_call 90; refine HC.out.1.mono ?_; rintro e X ⟨A1, c1, rfl, hV, hX⟩; have HX := Lib.hid (And.intro hV hX); clear hV hX)
        | (have hwr := lt_of_block H.out.res
           have hXs : wr.heap.size + 1 ≤ X.heap.size := by have := HX.out.2.size; simpa using this
           have hC2 : Chg [] wr X := HC.out.2.2.trans HX.out.2
           have hXa : Chg [] X (X.alloc (.cells #[.int .i64 (Tr.id (t.kids[k])), .int .i64 (Tr.kind (t.kids[k])), .string (Tr.text (t.kids[k])), .slice A1 (Tr.kids (t.kids[k])).length c1] 24)) := (by with_reducible repeat (first | exact Chg.refl _ _ | apply Chg.alloc | apply Chg.drew | apply Chg.drewN | (refine Chg.setCell ?_ _ _ (by simp))))
           obtain ⟨xs, hown, hgrow⟩ := H.out.row.growBox (F := fun g => w.heap.size + 2 ≤ g) hC2 (HX.out.1.weak (fun g hg => ⟨by have := hg.1; simp at this; omega, hg.2⟩)) (fun x hx => by have := H.out.chg.size; have := lt_of_block H.out.res; omega) #[.int .i64 (Tr.id (t.kids[k])), .int .i64 (Tr.kind (t.kids[k])), .string (Tr.text (t.kids[k])), .slice A1 (Tr.kids (t.kids[k])).length c1]
           rw [show (t.kids.take k).length = k from by simp; omega] at hown hgrow
           have HG := Lib.hid (And.intro hgrow (And.intro hC2 hXa))
           clear hgrow hC2 hXa
           refine wpList_append_own_at _ rfl (.tmp 13) (.tmp 16) 22 rfl _ 24 ip _ 4 56 Try.underlying22 HI.out.1 HI.out.2.1 HI.out.2.2.1 HI.out.2.2.2 rfl (by omega) (.slice Av k cv) _ _ rfl hown ⟨X.heap.size, 0, none⟩ 1 1 _ rfl rfl (fun j u hu => by rw [Addr.add_mid]; exact range_all (heap_new X _ rfl) j u hu) (HX.out.1.one) (by unfold maxLen; omega) (by omega) (by simp; omega) ?_
           intro v' X3 hown' hgr _ hat
           have hrow3 := HG.out.1 X3 v' hown' hgr hat
           rw [← take_snoc' _ _ hlt] at hrow3
           obtain ⟨A', c', rfl⟩ := own_slice hown'
           have H3 := Lib.hid (And.intro hrow3 hgr)
           clear hrow3 hgr hat hown')
        | fail)
      go_roundw
      case rel =>
        have hC3 : Chg (Value.slice Av k cv).ownBlock.toList wr X3 := ((HG.out.2.1.trans HG.out.2.2).mono (by simp)).grown H3.out.2 (by intro k hk; rw [hk]; simp)
        have hnb : ∀ b, b ∈ (Value.slice Av k cv).ownBlock.toList → w.heap.size + 2 ≤ b := fun b hb => by have := H.out.row.own b (by simpa using hb); omega
        refine ⟨k + 1, _, by omega, rfl, by go_num, ?_, ?_, ?_, H3.out.1⟩
        · exact hC3.at H.out.arg (fun hm => by have := hnb _ hm; omega)
        · exact hC3.at H.out.res (fun hm => by have := hnb _ hm; omega)
        · exact H.out.chg.andThen hC3 (fun i hi => .inr (by have := hnb i hi; omega))
      case measure => simp [intOf]; omega
    · obtain rfl : k = t.kids.length := by omega
      have hrow := H.out.row
      rw [List.take_of_length_le (Nat.le_refl _)] at hrow
      obtain ⟨A', c', he, hV⟩ := hrow.node t HH.out.2.2.2.2.1
      injection he with hA1 _ hc1
      subst hA1 hc1
      have HV := Lib.hid hV
      clear hrow hV
      obtain ⟨q0, q1, q2, q3⟩ := blk4 H.out.arg
      obtain ⟨r0, r1, r2, r3⟩ := blk4 H.out.res
      have f0 := blkF H.out.res 0
      have f1 := blkF H.out.res 1
      have f2 := blkF H.out.res 2
      have f3 := blkF H.out.res 3
      have g3 := blkF H.out.arg 3
      go_wp2
      have hCs : Chg [w.heap.size] wr (wr.setCell ⟨w.heap.size, 3, none⟩ (.slice Av t.kids.length cv)) := (Chg.refl _ _).setCell _ _ (by simp)
      have hC0 := chg4 (wr.setCell ⟨w.heap.size, 3, none⟩ (.slice Av t.kids.length cv)) (w.heap.size + 1) (.int .i64 t.id) (.int .i64 t.kind) (.string t.text) (.slice Av t.kids.length cv)
      have hsz := H.out.chg.size
      have hlt1 := lt_of_block H.out.res
      have hF : ∀ g, w.heap.size + 2 ≤ g ∨ (Value.slice Av t.kids.length cv).ownBlock = some g → w.heap.size + 2 ≤ g := fun g hg => by
        rcases hg with hg | hg
        · omega
        · have := H.out.row.own g hg; omega
      have hC2 : Chg [w.heap.size, w.heap.size + 1] wr _ := (hCs.mono (by simp)).trans (hC0.mono (by simp))
      refine bodyPost_ret (v := .agg #[.int .i64 (Tr.id t), .int .i64 (Tr.kind t), .string (Tr.text t), .slice Av (Tr.kids t).length cv]) (results_cell_row rfl _ _ (w.heap.size + 1) _ _ _ _ rfl (set4 (hCs.at H.out.res (by simp))) Try.underlying24 rfl szNode) rfl ⟨Av, cv, rfl, ?_, H.out.chg.andThen hC2 (fun i hi => by simp at hi; omega)⟩
      exact ((HV.out.bound.weak (F' := fun g => w.heap.size + 2 ≤ g ∧ g < wr.heap.size) (fun g hg => ⟨hF g hg.1, hg.2⟩)).kept hC2 (fun g hg => by simp; omega)).weak (fun g hg => ⟨by omega, Nat.lt_of_lt_of_le hg.2 hC2.size⟩)
end Go.Proofs.Ytofjocjljbkjgaa
namespace Go.Proofs.Ytofjocjljbkjgaa
open Go.RowKit
attribute [local go_sem] Oper.semAt_some
def RepT (l i : Nat) (x : Tr × Int) (args : Array Value) (W : World) : Prop := ∃ A c base, args = #[.int .i64 x.2, .agg #[.int .i64 (Tr.id x.1), .int .i64 (Tr.kind x.1), .string (Tr.text x.1), .slice A (Tr.kids x.1).length c]] ∧ l < base ∧ TrC (fun b => base ≤ b ∧ b < W.heap.size) W x.1 [.int .i64 (Tr.id x.1), .int .i64 (Tr.kind x.1), .string (Tr.text x.1), .slice A (Tr.kids x.1).length c]
structure DBox (l yb db : Nat) (W : World) : Prop where
  y : W.heap[yb]? = some (.cells #[.func (.yield l) #[] #[]] 123 (0, 0))
  d : W.heap[db]? = some (.cells #[.func (.func 163) #[] #[.pointer (some ⟨yb, 0, none⟩), .pointer (some ⟨db, 0, none⟩)]] 123 (0, 0))
theorem DBox.above {l yb db S : Nat} {W W' : World} (h : DBox l yb db W) (ha : Above S W W') (h1 : S ≤ yb) (h2 : S ≤ db) : DBox l yb db W' := ⟨ha.at h.y h1, ha.at h.d h2⟩
theorem TrC.above {S : Nat} {W W' : World} {base : Nat} {t : Tr} {cs : List Value} (h : TrC (fun b => base ≤ b ∧ b < W.heap.size) W t cs) (ha : Above S W W') (hS : S ≤ base) : TrC (fun b => base ≤ b ∧ b < W'.heap.size) W' t cs :=
  h.move fun g hg hlt => ⟨ha.2 g (by omega) hlt, hg.1, Nat.lt_of_lt_of_le hg.2 ha.1⟩
set_option maxHeartbeats 8000000 in
set_option maxRecDepth 100000 in
theorem down_any (l S yb db base : Nat) (xs : List (Tr × Int)) (J : Nat → World → Prop) (Jx : World → Prop) (hl : l < base) (hSb : S ≤ base) (hy1 : S ≤ yb) (hd1 : S ≤ db)
    (hJ : ∀ i W W', J i W → Quiet S W W' → J i W') (hJx : ∀ W W', Jx W → Quiet S W W' → Jx W')
    (hY : ∀ i x args W1, J i W1 → S ≤ W1.heap.size → xs[i]? = some x → RepT l i x args W1 → YieldAt W0 0 Try.prog l args W1 fun e W' => ((e = .returned (.bool true) ∧ J (i + 1) W') ∨ (e = .returned (.bool false) ∧ Jx W')) ∧ Above S W1 W') :
    ∀ (x : Tr) (A : Option Addr) (c : Nat) (d : Int) (i : Nat) (W : World), J i W → S ≤ W.heap.size → base ≤ W.heap.size → (∀ (q : Nat) z, (x.walk d)[q]? = some z → xs[i + q]? = some z) → DBox l yb db W → TrC (fun b => base ≤ b ∧ b < W.heap.size) W x [.int .i64 (Tr.id x), .int .i64 (Tr.kind x), .string (Tr.text x), .slice A (Tr.kids x).length c] → 0 ≤ d → d + x.nodes ≤ 1000000 →
    Calls Try.prog 163 #[.int .i64 d, .agg #[.int .i64 (Tr.id x), .int .i64 (Tr.kind x), .string (Tr.text x), .slice A (Tr.kids x).length c], .pointer (some ⟨yb, 0, none⟩), .pointer (some ⟨db, 0, none⟩)] W fun e W' => ((e = .returned (.bool true) ∧ J (i + x.nodes) W') ∨ (e = .returned (.bool false) ∧ Jx W')) ∧ Above S W W' := by
  intro x
  induction x using Tr.ind with
  | h x ih =>
  intro A c d i W h0 hS hbase hxs hB hT hd0 hd2
  obtain ⟨A', c', hcs, hlc, hcm, htx, hK⟩ := hT.opens
  simp only [List.cons.injEq, Value.slice.injEq, true_and, and_true] at hcs
  obtain ⟨rfl, rfl⟩ := hcs
  have hwx : xs[i]? = some (x, d) := by have := hxs 0 (x, d) (by rw [x.walk_eq]; rfl); simpa using this
  obtain ⟨W1, hW1⟩ : ∃ W1, W1 = W.alloc (.cells #[.int .i64 (Tr.id x), .int .i64 (Tr.kind x), .string (Tr.text x), .slice A (Tr.kids x).length c] 24) := ⟨_, rfl⟩
  have hc1 : Chg [] W W1 := by rw [hW1]; exact (by with_reducible repeat (first | exact Chg.refl _ _ | apply Chg.alloc | apply Chg.drew | apply Chg.drewN | (refine Chg.setCell ?_ _ _ (by simp))))
  have hb1 : W1.heap[W.heap.size]? = some (.cells #[.int .i64 (Tr.id x), .int .i64 (Tr.kind x), .string (Tr.text x), .slice A (Tr.kids x).length c] 24 (0, 0)) := by rw [hW1]; exact heap_new _ _ rfl
  have hJ1 := hJ i W W1 h0 (.of_chg hc1)
  have ha1 : Above S W W1 := Above.of_chg0 hc1
  have hT1 := hT.above ha1 hSb
  obtain ⟨fn, tmps, assign, body, hy, hR⟩ := hY i _ #[.int .i64 d, .agg #[.int .i64 (Tr.id x), .int .i64 (Tr.kind x), .string (Tr.text x), .slice A (Tr.kids x).length c]] W1 hJ1 (Nat.le_trans hS hc1.size) hwx ⟨A, c, base, rfl, hl, hT1⟩
  have y0 := cellOne ((hB.above ha1 hy1 hd1).y)
  obtain ⟨p0, p1, p2, p3⟩ := blk4 hb1
  rw [hW1] at hy y0 p0 p1 p2 p3
  have HH := Lib.hid (And.intro hR (And.intro ha1 (And.intro hb1 (And.intro hB (And.intro hT1 (And.intro hW1 (And.intro hxs hK)))))))
  have HI := Lib.hid (And.intro ih (And.intro hJ (And.intro hJx hY)))
  have hkl : x.kids.length ≤ 1000000 := by have := x.kids_le; omega
  clear hR ha1 hb1 hB hT1 hW1 hxs hK ih hJ hJx hY hJ1 hwx hc1 h0 hT
  refine callsIn_wide.1 (callsIn_of_wp (n := 0) Try.func163 rfl trivial ?_)
  simp only [Try.ntmps163, List.size_toArray, List.length_cons, List.length_nil, Nat.reduceAdd, Nat.reduceSub, Array.replicate_succ, Array.replicate_zero, List.push_toArray, List.append_toArray, List.nil_append, List.cons_append]
  gi_wp2
  refine ⟨rfl, ?_⟩
  rw [← HH.out.2.2.2.2.2.1]
  refine HH.out.1.mono ?_
  clear hy y0 p0 p1 p2 p3
  rintro e W2 ⟨(⟨rfl, hj⟩ | ⟨rfl, hjx⟩), hab⟩
  · have H2 := Lib.hid (And.intro hj hab)
    obtain ⟨p0, p1, p2, p3⟩ := blk4 (hab.at HH.out.2.2.1 hS)
    clear hj hab
    gi_wp2
    gi_loopw [17] (fun iv wr => ∃ k : Nat, k ≤ x.kids.length ∧ iv = .int .i64 k ∧ Hid (J (i + 1 + nodesL (x.kids.take k)) wr ∧ Above S W wr)) (fun iv _ => x.kids.length - (intOf iv).toNat)
    case atStart => exact ⟨0, Nat.zero_le _, rfl, Lib.hid ⟨by simpa [nodesL] using H2.out.1, HH.out.2.1.trans H2.out.2⟩⟩
    case round =>
      obtain ⟨k, hk, rfl, H⟩ := hrel
      obtain ⟨V, hV⟩ : ∃ V, V = wr := ⟨_, rfl⟩
      subst hV
      clear p0 p1 p2 p3
      by_cases hlt : k < x.kids.length
      · obtain ⟨gk, ok, hA, hokg, cs, hr, hTk⟩ := HH.out.2.2.2.2.2.2.2.at hlt
        subst hA
        obtain ⟨y, hye⟩ : ∃ y, y = x.kids[k] := ⟨_, rfl⟩
        have hym : y ∈ x.kids := by rw [hye]; exact List.getElem_mem hlt
        rw [← hye] at hTk
        obtain ⟨Ak, ck, hcsk, _⟩ := hTk.opens
        subst hcsk
        have hyn : d + 1 + y.nodes ≤ 1000000 := by have h1 := nodesL_mem hym; have h2 := x.nodes_eq; omega
        have hr' : V.rangeAt gk (ok + k * 4) [.int .i64 (Tr.id y), .int .i64 (Tr.kind y), .string (Tr.text y), .slice Ak (Tr.kids y).length ck] := fun j v hv => (World.cell?_of_block (w := W) (H.out.2.2 gk (by omega) hokg.2)).trans (hr j v hv)
        have hcV : Chg [] V (V.alloc (.cells #[.int .i64 (Tr.id y), .int .i64 (Tr.kind y), .string (Tr.text y), .slice Ak (Tr.kids y).length ck] 24)) := (by with_reducible repeat (first | exact Chg.refl _ _ | apply Chg.alloc | apply Chg.drew | apply Chg.drewN | (refine Chg.setCell ?_ _ _ (by simp))))
        have haV : Above S W (V.alloc (.cells #[.int .i64 (Tr.id y), .int .i64 (Tr.kind y), .string (Tr.text y), .slice Ak (Tr.kids y).length ck] 24)) := H.out.2.trans (Above.of_chg0 hcV)
        have hDV := HH.out.2.2.2.1.above H.out.2 hy1 hd1
        have hDV1 := HH.out.2.2.2.1.above haV hy1 hd1
        have d0 := cellOne hDV.d
        have d1 := cellOne hDV1.d
        have hnb : (V.alloc (.cells #[.int .i64 (Tr.id y), .int .i64 (Tr.kind y), .string (Tr.text y), .slice Ak (Tr.kids y).length ck] 24)).heap[V.heap.size]? = some (.cells #[.int .i64 (Tr.id y), .int .i64 (Tr.kind y), .string (Tr.text y), .slice Ak (Tr.kids y).length ck] 24 (0, 0)) := heap_new _ _ rfl
        obtain ⟨v0, v1, v2, v3⟩ := blk4 hnb
        have hxs' : ∀ (q : Nat) z, (y.walk (d + 1))[q]? = some z → xs[i + 1 + nodesL (x.kids.take k) + q]? = some z := fun q z hz => by
          have h := HH.out.2.2.2.2.2.2.1 _ _ (x.walk_at d k q hlt z (by rw [← hye]; exact hz))
          rw [← h]; congr 1; omega
        have hcall := HI.out.1 y hym Ak ck (d + 1) (i + 1 + nodesL (x.kids.take k)) (V.alloc (.cells #[.int .i64 (Tr.id y), .int .i64 (Tr.kind y), .string (Tr.text y), .slice Ak (Tr.kids y).length ck] 24)) (HI.out.2.1 _ _ _ H.out.1 (.of_chg hcV)) (Nat.le_trans hS haV.1) (Nat.le_trans hbase haV.1) hxs' (HH.out.2.2.2.1.above haV hy1 hd1) (hTk.above haV hSb) (by omega) hyn
        have HC := Lib.hid (And.intro hcall (And.intro hr' (And.intro haV hye)))
        clear hcall hr' haV hye hxs' hnb hr hTk hokg hcV hym hDV hDV1
        have q0 : V.cell? ⟨gk, ok + k * 4, none⟩ = some (.int .i64 y.id) := HC.out.2.1 0 _ rfl
        have q1 : V.cell? ⟨gk, ok + k * 4 + 1, none⟩ = some (.int .i64 y.kind) := HC.out.2.1 1 _ rfl
        have q2 : V.cell? ⟨gk, ok + k * 4 + 2, none⟩ = some (.string y.text) := HC.out.2.1 2 _ rfl
        have q3 : V.cell? ⟨gk, ok + k * 4 + 3, none⟩ = some (.slice Ak y.kids.length ck) := HC.out.2.1 3 _ rfl
        gi_wp2
        refine ⟨trivial, rfl, ?_⟩
        gi_at_call 163
        refine (callsIn_wide.2 HC.out.1).mono ?_
        clear q0 q1 q2 q3 v0 v1 v2 v3 d0 d1
        rintro e V2 ⟨(⟨rfl, hj⟩ | ⟨rfl, hjx⟩), hab⟩
        · have H4 := Lib.hid (And.intro hj (HC.out.2.2.1.trans hab))
          clear hj hab
          gi_wp2
          refine ⟨⟨k + 1, by omega, by go_num, Lib.hid ⟨?_, H4.out.2⟩⟩, by simp [intOf]; omega⟩
          have h := H4.out.1
          rw [nodesL_take x.kids k hlt, ← Nat.add_assoc, ← HC.out.2.2.2]
          exact h
        · have H4 := Lib.hid (And.intro hjx (HC.out.2.2.1.trans hab))
          clear hjx hab
          gi_wp2
          go_ret
          exact ⟨.inr ⟨rfl, H4.out.1⟩, H4.out.2⟩
      · obtain rfl : k = x.kids.length := by omega
        gi_wp2
        go_ret
        refine ⟨.inl ⟨rfl, ?_⟩, H.out.2⟩
        have h := H.out.1
        rw [List.take_of_length_le (Nat.le_refl _)] at h
        rw [x.nodes_eq, ← Nat.add_assoc]
        exact h
  · have H2 := Lib.hid (And.intro hjx hab)
    clear hjx hab
    gi_wp2
    go_ret
    exact ⟨.inr ⟨rfl, H2.out.1⟩, HH.out.2.1.trans H2.out.2⟩
structure StV (Wb : World) (B bt : Nat) (t : Tr) (A : Option Addr) (c : Nat) (W : World) : Prop where
  b : W.heap[bt]? = some (.cells #[.int .i64 (Tr.id t), .int .i64 (Tr.kind t), .string (Tr.text t), .slice A (Tr.kids t).length c] 24 (0, 0))
  base : ∀ k, k < B → W.heap[k]? = Wb.heap[k]?
theorem TrC.base {B : Nat} {Wb W : World} {t : Tr} {cs : List Value} (h : TrC (fun b => b < B) Wb t cs) (hb : ∀ k, k < B → W.heap[k]? = Wb.heap[k]?) : TrC (fun b => b < B) W t cs :=
  h.move fun k hk _ => ⟨hb k hk, hk⟩
structure Made (l : Nat) (W W' : World) : Prop where
  box : DBox l W.heap.size (W.heap.size + 1) W'
  chg : Chg [] W W'
set_option maxHeartbeats 8000000 in
set_option maxRecDepth 100000 in
theorem walk1_iter (B : Nat) (Wb : World) (t : Tr) (A : Option Addr) (c bt : Nat) (hT : TrC (fun b => b < B) Wb t [.int .i64 (Tr.id t), .int .i64 (Tr.kind t), .string (Tr.text t), .slice A (Tr.kids t).length c]) (hn : t.nodes ≤ 100000) : IterK Try.prog 162 #[.pointer (some ⟨bt, 0, none⟩)] RepT (t.walk 1) (StV Wb B bt t A c) := by
  intro l S J Jx W hSt hJ hJx hY h0 hl hS
  have hs := hSt 0 W h0
  have HH := Lib.hid (And.intro hSt (And.intro hJ (And.intro hJx (And.intro hY (And.intro h0 (And.intro hl (And.intro hS (And.intro hT hs))))))))
  clear hSt hJ hJx hY h0 hl hS hT hs
  show Calls Try.prog 162 #[.func (.yield l) #[] #[], .pointer (some ⟨bt, 0, none⟩)] W _
  go_enter Try.func162, Try.ntmps162
  go_wp2
  refine wp_world (fun W' => Made l W W') ⟨⟨heap_old (heap_new _ _ rfl) _, heap_new _ _ (by simp)⟩, (by with_reducible repeat (first | exact Chg.refl _ _ | apply Chg.alloc | apply Chg.drew | apply Chg.drewN | (refine Chg.setCell ?_ _ _ (by simp))))⟩ ?_
  intro V hV
  refine wp_region_M (fun V' => V'.cell? ⟨W.heap.size + 1, 0, none⟩ = some (.func (.func 163) #[] #[.pointer (some ⟨W.heap.size, 0, none⟩), .pointer (some ⟨W.heap.size + 1, 0, none⟩)])) (fun k => [2, 3].contains k) (fun k => [3].contains k) (by kernel_rfl) ?_
  obtain ⟨Z, hZ⟩ : ∃ Z, Z = V.drew := ⟨_, rfl⟩
  rw [← hZ]
  have hcZ : Chg [] V Z := by rw [hZ]; exact (Chg.refl _ _).drew
  have hM : Made l W Z := ⟨hV.box.above (S := 0) (Above.of_chg0 hcZ) (by omega) (by omega), hV.chg.trans hcZ⟩
  clear hV hZ hcZ V
  have hS0 := cellOne hM.box.d
  obtain ⟨p0, p1, p2, p3⟩ := blk4 (hM.chg.at HH.out.2.2.2.2.2.2.2.2.b (by simp))
  have hcop := tcopy_any t A c Z ((HH.out.2.2.2.2.2.2.2.1.base (HH.out.1 0 Z (HH.out.2.1 0 W Z HH.out.2.2.2.2.1 (.of_chg hM.chg))).base).weak (fun _ _ _ => trivial)) hn
  have HC := Lib.hid (And.intro hcop hM)
  clear hcop hM
  ((try dsimp only); (try simp only [Act.put, List.setIfInBounds_toArray, List.set_cons_zero, List.set_cons_succ]))
  refine M_semi (i := 0) (v := ?_) rfl (by kernel_rfl) (by kernel_rfl) (by kernel_rfl) (by kernel_rfl) (fun _ _ _ h => h) (by rfl) hS0 ?hy ?_; (case hy => (intro w hS; go_simp; with_reducible rfl)); ((try dsimp only); (try simp only [Act.put, List.setIfInBounds_toArray, List.set_cons_zero, List.set_cons_succ]))
  refine M_take (i := 1) (v := ?_) rfl (by kernel_rfl) (by kernel_rfl) (by kernel_rfl) (by kernel_rfl) (fun _ _ _ h => h) (by rfl) ?hy ?_; (case hy => (go_simp; with_reducible rfl)); ((try dsimp only); (try simp only [Act.put, List.setIfInBounds_toArray, List.set_cons_zero, List.set_cons_succ]))
  refine M_eff (i := 2) rfl (by kernel_rfl) (by rfl) ?_
  go_wp2_with fail
  refine HC.out.1.mono ?_
  rintro e Y ⟨A', c', rfl, hV, hc⟩
  have hS1 := hc.cell hS0 (by simp)
  have hM1 := HC.out.2
  have hsz : W.heap.size + 2 ≤ Z.heap.size := by have := lt_of_block hM1.box.d; omega
  have hYM := hM1.box.above (S := 0) (Above.of_chg0 hc) (by omega) (by omega)
  have hS3 := HH.out.2.2.2.2.2.2.1
  have hl3 := HH.out.2.2.2.2.2.1
  have hdn := down_any l S W.heap.size (W.heap.size + 1) Z.heap.size (t.walk 1) J Jx (by omega) (by omega) hS3 (by omega) HH.out.2.1 HH.out.2.2.1 HH.out.2.2.2.1 t A' c' 1 0 Y (HH.out.2.1 0 W Y HH.out.2.2.2.2.1 (.of_chg (hM1.chg.trans hc))) (by have := hc.size; omega) hc.size (fun q z hz => by rw [Nat.zero_add]; exact hz) hYM (hV.toC) (by omega) (by omega)
  have H4 := Lib.hid (And.intro hdn (And.intro (hM1.chg.trans hc).size hS1))
  clear hV hc hS0 p0 p1 p2 p3 hdn hYM hM1 hsz hS3 hl3
  go_wp2_with fail
  refine ⟨hS1, ?_⟩
  refine M_brk (i := 3) rfl (by kernel_rfl) (by rfl) (by rfl) ?_
  go_wp2_with fail
  go_at_call 163
  refine H4.out.1.mono ?_
  rintro e Y2 ⟨hor, hab⟩
  obtain ⟨v, rfl, h5⟩ : ∃ v : Bool, e = .returned (.bool v) ∧ (J (t.walk 1).length Y2 ∨ Jx Y2) := by
    rcases hor with ⟨rfl, h⟩ | ⟨rfl, h⟩
    · exact ⟨true, rfl, .inl (by rw [Tr.walk_length]; rw [Nat.zero_add] at h; exact h)⟩
    · exact ⟨false, rfl, .inr h⟩
  have H5 := Lib.hid (And.intro h5 (Nat.le_trans H4.out.2.1 hab.1))
  clear hor hab h5 hS1
  go_wp2_with fail
  refine M_done (by kernel_rfl) ?_ _
  go_wp2_with fail
  go_end0
  exact ⟨⟨_, rfl⟩, H5.out.1, H5.out.2⟩
theorem twalk_any (t : Tr) (A : Option Addr) (c : Nat) (w : World) : Calls Try.prog 157 #[.agg #[.int .i64 (Tr.id t), .int .i64 (Tr.kind t), .string (Tr.text t), .slice A (Tr.kids t).length c]] w fun e w' => e = .returned (.func (.func 162) #[] #[.pointer (some ⟨w.heap.size, 0, none⟩)]) ∧ w'.heap[w.heap.size]? = some (.cells #[.int .i64 (Tr.id t), .int .i64 (Tr.kind t), .string (Tr.text t), .slice A (Tr.kids t).length c] 24 (0, 0)) ∧ Chg [] w w' := by
  go_enter Try.func157, Try.ntmps157
  go_wp2
  go_ret
  exact ⟨rfl, heap_new _ _ rfl, (by with_reducible repeat (first | exact Chg.refl _ _ | apply Chg.alloc | apply Chg.drew | apply Chg.drewN | (refine Chg.setCell ?_ _ _ (by simp))))⟩
end Go.Proofs.Ytofjocjljbkjgaa
namespace Go.Proofs.Ytofjocjljbkjgaa
open Go.RowKit
theorem first_kid (id : Int) : ∀ ks : List Tr, (∀ (j : Nat) (hj : j < ks.length), id ∉ (ks[j]).ids) ∨ ∃ (k : Nat) (hk : k < ks.length), id ∈ (ks[k]).ids ∧ ∀ (j : Nat) (hj : j < k), id ∉ (ks[j]'(by omega)).ids
  | [] => .inl fun j hj => by simp at hj
  | x :: ks => by
    by_cases h : id ∈ x.ids
    · exact .inr ⟨0, by simp, h, fun j hj => by omega⟩
    · rcases first_kid id ks with h1 | ⟨k, hk, h1, h2⟩
      · refine .inl fun j hj => ?_
        cases j with
        | zero => exact h
        | succ j => exact h1 j (by simpa using hj)
      · refine .inr ⟨k + 1, by simpa using hk, h1, fun j hj => ?_⟩
        cases j with
        | zero => exact h
        | succ j => exact h2 j (by omega)
def subL (id : Int) : List Tr → Option Tr
  | [] => none
  | k :: ks => match k.subT id with
    | some x => some x
    | none => subL id ks
theorem subL_none (id : Int) : ∀ ks : List Tr, (∀ (j : Nat) (hj : j < ks.length), id ∉ (ks[j]).ids) → subL id ks = none
  | [], _ => rfl
  | k :: ks, h => by
    rw [subL, subT_none (t := k) (h 0 (by simp))]
    exact subL_none id ks (fun j hj => h (j + 1) (by simpa using hj))
theorem subL_some (id : Int) : ∀ (ks : List Tr) (k : Nat) (hk : k < ks.length), id ∈ (ks[k]).ids → (∀ (j : Nat) (hj : j < k), id ∉ (ks[j]'(by omega)).ids) → subL id ks = (ks[k]).subT id
  | x :: ks, 0, _, h, _ => by
    obtain ⟨y, hy, _⟩ := subT_some (t := x) (by simpa using h)
    rw [subL, hy]; simpa using hy.symm
  | x :: ks, k + 1, hk, h, h2 => by
    rw [subL, subT_none (by simpa using h2 0 (by omega))]
    simpa using subL_some id ks k (by simpa using hk) (by simpa using h) (fun j hj => by simpa using h2 (j + 1) (by omega))
theorem subT_eq (id : Int) (t : Tr) : t.subT id = if t.id = id then some t else subL id t.kids := by
  by_cases h : t.id = id
  · rw [if_pos h, subT_root h]
  · rw [if_neg h]
    rcases first_kid id t.kids with h1 | ⟨k, hk, h1, h2⟩
    · rw [subL_none id _ h1, subT_none (ids_out h h1)]
    · rw [subL_some id _ k hk h1 h2, subT_kid h hk h2 h1]
def firstW (id : Int) (l : List (Tr × Int)) : Option Tr := (l.find? (fun y => decide (y.1.id = id))).map (·.1)
theorem firstW_append (id : Int) (a b : List (Tr × Int)) : firstW id (a ++ b) = match firstW id a with | some x => some x | none => firstW id b := by
  unfold firstW
  rw [List.find?_append]
  cases a.find? (fun y => decide (y.1.id = id)) <;> rfl
mutual
theorem Tr.walk_sub (id : Int) : ∀ (t : Tr) (d : Int), firstW id (t.walk d) = t.subT id
  | ⟨i, k, x, ks⟩, d => by
    rw [subT_eq, Tr.walk]
    show firstW id ((⟨i, k, x, ks⟩, d) :: walkL ks (d + 1)) = _
    by_cases h : i = id
    · rw [if_pos h]; unfold firstW; simp [h]
    · rw [if_neg h]
      have := walkL_sub id ks (d + 1)
      unfold firstW at this ⊢
      rw [List.find?_cons, decide_eq_false (p := (⟨i, k, x, ks⟩ : Tr).id = id) h]
      exact this
theorem walkL_sub (id : Int) : ∀ (ks : List Tr) (d : Int), firstW id (walkL ks d) = subL id ks
  | [], _ => rfl
  | k :: ks, d => by
    rw [walkL, firstW_append, Tr.walk_sub id k d, walkL_sub id ks d, subL]
end
theorem firstW_at {id : Int} {l : List (Tr × Int)} {k : Nat} (hk : k < l.length) (h : (l[k]).1.id = id) (h2 : ∀ (j : Nat) (hj : j < k), (l[j]'(by omega)).1.id ≠ id) : firstW id l = some (l[k]).1 := by
  unfold firstW
  rw [(List.find?_eq_some_iff_getElem (p := fun y : Tr × Int => decide (y.1.id = id)) (xs := l) (b := l[k])).2 ⟨by simpa using h, k, hk, rfl, fun j hj => by simpa using h2 j hj⟩]
  rfl
theorem firstW_none {id : Int} {l : List (Tr × Int)} (h : ∀ (j : Nat) (hj : j < l.length), (l[j]).1.id ≠ id) : firstW id l = none := by
  unfold firstW
  rw [List.find?_eq_none.2 (fun y hy => by obtain ⟨j, hj, rfl⟩ := List.getElem_of_mem hy; simpa using h j hj)]
  rfl
end Go.Proofs.Ytofjocjljbkjgaa
namespace Go.Proofs.Ytofjocjljbkjgaa
open Go.RowKit
attribute [local go_sem] Oper.semAt_some
theorem TrV.quiet {S : Nat} {w w' : World} (hq : Quiet S w w') {t : Tr} {cs : List Value} {F : Nat → Prop} (h : TrV w t cs F) : TrV w' t cs F := by
  induction h with
  | leaf t A c F h0 hA hc ht => exact .leaf t A c _ h0 hA hc ht
  | node t b c C cs fs F hp hl hc ht hB hFb hF hd hr hk ih =>
    have hB' := hq.at hB rfl
    refine .node t b c C cs fs _ hp hl hc ht hB' hFb hF hd (fun i hi j v hv => ?_) ih
    have := hr i hi j v hv
    simp only [World.cell?] at this ⊢
    rw [hB'.trans hB.symm]; exact this
theorem results_row_cell {P : Program} {fn : Func} {p u : Tmp} {ty t2 : TypeId} (h : fn.results = #[.cell p ty, .cell u t2]) (tmps : Array Value) (w : World) (g g2 : Nat) (t : TypeId) (cs : Array Value) (fr : Nat × Nat) (d : TypeDesc) (x : Value)
    (hp : tmps.getD p undef = .pointer (some ⟨g, 0, none⟩)) (hp2 : tmps.getD u undef = .pointer (some ⟨g2, 0, none⟩)) (hg : w.heap[g]? = some (.cells cs t fr)) (hx : (loadVar t2 ⟨g2, 0, none⟩).run P w = .ok x w) (hu : P.underlying ty = some d) (hd : (match d with | .struct _ | .array _ _ => true | _ => false) = true) (hi : (P.info? ty).map (·.size) = some cs.size) :
    (results fn tmps).run P w = .ok (.tuple #[.agg cs, x]) w := by
  have hp' : tmps[p]?.getD undef = .pointer (some ⟨g, 0, none⟩) := by simpa using hp
  have hp2' : tmps[u]?.getD undef = .pointer (some ⟨g2, 0, none⟩) := by simpa using hp2
  simp [results, h, hp', hp2', asAddr, run_loadVar_row w g t ty cs fr d hg hu hd hi, hx]
def FindV (r : Option Tr) (w : World) (e : Ending) (w' : World) : Prop := match r with
  | none => e = .returned (.tuple #[.agg #[.int .i64 0, .int .i64 0, .string ⟨#[]⟩, .slice none 0 0], .bool false]) ∧ Chg [] w w'
  | some x => ∃ A c, e = .returned (.tuple #[.agg #[.int .i64 (Tr.id x), .int .i64 (Tr.kind x), .string (Tr.text x), .slice A (Tr.kids x).length c], .bool true]) ∧ TrV w' x [.int .i64 (Tr.id x), .int .i64 (Tr.kind x), .string (Tr.text x), .slice A (Tr.kids x).length c] (fun g => w.heap.size ≤ g ∧ g < w'.heap.size) ∧ Chg [] w w'
structure FdS (w : World) (t : Tr) (A : Option Addr) (c : Nat) (id : Int) (W : World) : Prop where
  ib : W.heap[w.heap.size + 1]? = some (.cells #[.int .i64 id] 3 (0, 0))
  rb : W.heap[w.heap.size + 2]? = some (.cells #[.int .i64 0, .int .i64 0, .string ⟨#[]⟩, .slice none 0 0] 24 (0, 0))
  kb : W.heap[w.heap.size + 3]? = some (.cells #[.bool false] 4 (0, 0))
  st : StV w w.heap.size (w.heap.size + 4) t A c W
  chg : Chg [] w W
theorem StV.quiet {Wb : World} {B bt S : Nat} {t : Tr} {A : Option Addr} {c : Nat} {W W' : World} (h : StV Wb B bt t A c W) (hq : Quiet S W W') (hB : B ≤ S) (hp : B ≤ bt) : StV Wb B bt t A c W' := by
  refine ⟨hq.at h.b rfl, fun k hk => ?_⟩
  obtain ⟨L, h1, h2⟩ := hq
  have hl1 := lt_of_block h.b
  rw [← h.base k hk]
  exact h1.block k (by omega) (fun hm => by have := (h2 k hm).1; omega)
theorem FdS.quiet {w : World} {t : Tr} {A : Option Addr} {c S : Nat} {id : Int} {W W' : World} (h : FdS w t A c id W) (hq : Quiet S W W') (hS : w.heap.size + 4 < S) : FdS w t A c id W' :=
  ⟨hq.at h.ib rfl, hq.at h.rb rfl, hq.at h.kb rfl, h.st.quiet hq (by omega) (by omega), hq.chg h.chg (by omega)⟩
structure FdX (w : World) (r : Option Tr) (W : World) : Prop where
  ex : ∃ (x : Tr) (A : Option Addr) (c : Nat), r = some x ∧ W.heap[w.heap.size + 2]? = some (.cells #[.int .i64 (Tr.id x), .int .i64 (Tr.kind x), .string (Tr.text x), .slice A (Tr.kids x).length c] 24 (0, 0)) ∧ TrV W x [.int .i64 (Tr.id x), .int .i64 (Tr.kind x), .string (Tr.text x), .slice A (Tr.kids x).length c] (fun g => w.heap.size ≤ g ∧ g < W.heap.size)
  kb : W.heap[w.heap.size + 3]? = some (.cells #[.bool true] 4 (0, 0))
  chg : Chg [] w W
theorem FdX.quiet {w : World} {r : Option Tr} {S : Nat} {W W' : World} (h : FdX w r W) (hq : Quiet S W W') (hS : w.heap.size + 4 < S) : FdX w r W' := by
  obtain ⟨⟨x, A, c, hr, hb, hV⟩, h2, h3⟩ := h
  obtain ⟨L, hc, _⟩ := id hq
  exact ⟨⟨x, A, c, hr, hq.at hb rfl, (hV.quiet hq).weak fun g hg => ⟨hg.1, Nat.lt_of_lt_of_le hg.2 hc.size⟩⟩, hq.at h2 rfl, hq.chg h3 (by omega)⟩
theorem find_ret {w W : World} {D : Nat} {cs : Array Value} {b : Bool} {R : Ending → World → Prop} (hrb : W.heap[w.heap.size + 2]? = some (.cells cs 24 (0, 0))) (hkb : W.heap[w.heap.size + 3]? = some (.cells #[.bool b] 4 (0, 0))) (hs : cs.size = 4) (hD : w.heap.size + 4 < D) (hK : W.heap[D]? = some (.deferred (some []))) (a : Act) (hd : a.defers = [{ target := .collected D, args := #[] }])
    (h4 : a.tmps.getD 4 undef = .pointer (some ⟨w.heap.size + 2, 0, none⟩)) (h5 : a.tmps.getD 5 undef = .pointer (some ⟨w.heap.size + 3, 0, none⟩)) (h : R (.returned (.tuple #[.agg cs, .bool b])) (W.putObj D (.deferred none))) : bodyPostM W0 0 Try.prog Try.f140 R .ret a W := by
  have hP : Chg [D] W (W.putObj D (.deferred none)) := ⟨rfl, rfl, rfl, by simp, fun j _ hj => World.putObj_heap_other (by simpa using hj)⟩
  have k2 := cellOne (hP.at hkb (by simp <;> omega))
  refine bodyM_ret hd hK (results_row_cell rfl _ _ (w.heap.size + 2) (w.heap.size + 3) _ _ _ _ _ h4 h5 (hP.at hrb (by simp <;> omega)) ?_ Try.underlying24 rfl (by rw [hs]; kernel_rfl)) h
  simp [go_sem, k2]
set_option maxHeartbeats 4000000 in
set_option maxRecDepth 100000 in
theorem tfind_any (t : Tr) (A : Option Addr) (c : Nat) (id : Int) (w : World) (hT : TrC (fun b => b < w.heap.size) w t [.int .i64 (Tr.id t), .int .i64 (Tr.kind t), .string (Tr.text t), .slice A (Tr.kids t).length c]) (hn : t.nodes ≤ 100000) : Calls Try.prog 140 #[.agg #[.int .i64 (Tr.id t), .int .i64 (Tr.kind t), .string (Tr.text t), .slice A (Tr.kids t).length c], .int .i64 id] w (FindV (t.subT id) w) := by
  obtain ⟨W1, hW1⟩ : ∃ W1, W1 = (((w.alloc (.cells #[.int .i64 (Tr.id t), .int .i64 (Tr.kind t), .string (Tr.text t), .slice A (Tr.kids t).length c] 24)).alloc (.cells #[.int .i64 id] 3)).alloc (.cells #[.int .i64 0, .int .i64 0, .string ⟨#[]⟩, .slice none 0 0] 24)).alloc (.cells #[.bool false] 4) := ⟨_, rfl⟩
  have hc1 : Chg [] w W1 := by rw [hW1]; exact (by with_reducible repeat (first | exact Chg.refl _ _ | apply Chg.alloc | apply Chg.drew | apply Chg.drewN | (refine Chg.setCell ?_ _ _ (by simp))))
  have hb0 : W1.heap[w.heap.size]? = some (.cells #[.int .i64 (Tr.id t), .int .i64 (Tr.kind t), .string (Tr.text t), .slice A (Tr.kids t).length c] 24 (0, 0)) := by rw [hW1]; exact heap_old (heap_old (heap_old (heap_new _ _ rfl) _) _) _
  have hb1 : W1.heap[w.heap.size + 1]? = some (.cells #[.int .i64 id] 3 (0, 0)) := by rw [hW1]; exact heap_old (heap_old (heap_new _ _ (by simp)) _) _
  have hb2 : W1.heap[w.heap.size + 2]? = some (.cells #[.int .i64 0, .int .i64 0, .string ⟨#[]⟩, .slice none 0 0] 24 (0, 0)) := by rw [hW1]; exact heap_old (heap_new _ _ (by simp)) _
  have hb3 : W1.heap[w.heap.size + 3]? = some (.cells #[.bool false] 4 (0, 0)) := by rw [hW1]; exact heap_new _ _ (by simp)
  have hs1 : W1.heap.size = w.heap.size + 4 := by rw [hW1]; simp
  obtain ⟨p0, p1, p2, p3⟩ := blk4 hb0
  have HW := Lib.hid (And.intro hc1 (And.intro hb1 (And.intro hb2 (And.intro hb3 (And.intro hs1 (And.intro hW1 hT))))))
  rw [hW1] at p0 p1 p2 p3
  clear hc1 hb0 hb1 hb2 hb3 hs1 hW1 hT
  refine callsIn_wide.1 (callsIn_of_wp_marks (n := 0) Try.func140 rfl trivial ?_)
  simp only [Try.ntmps140, List.size_toArray, List.length_cons, List.length_nil, Nat.reduceAdd, Nat.reduceSub, Array.replicate_succ, Array.replicate_zero, List.push_toArray, List.append_toArray, List.nil_append, List.cons_append]
  gi_wp2_with (skip; fail)
  refine ⟨trivial, rfl, ?_⟩
  gi_at_call 157
  rw [← HW.out.2.2.2.2.2.1]
  refine (callsIn_wide.2 (twalk_any t A c W1)).mono ?_
  clear p0 p1 p2 p3
  rintro e X ⟨rfl, hx1, hxc⟩
  rw [HW.out.2.2.2.2.1] at hx1 ⊢
  have hC : FdS w t A c id X := ⟨hxc.at HW.out.2.1 (by simp), hxc.at HW.out.2.2.1 (by simp), hxc.at HW.out.2.2.2.1 (by simp), ⟨hx1, fun k hk => (hxc.block k (by have := HW.out.2.2.2.2.1; omega) (by simp)).trans (HW.out.1.block k (by omega) (by simp))⟩, HW.out.1.trans hxc⟩
  have hXs : w.heap.size + 4 < X.heap.size := lt_of_block hx1
  have HC := Lib.hid hC
  clear hx1 hxc hC
  gi_wp2
  refine wp_rangeK (gf := 162) (lb := #[.pointer (some ⟨w.heap.size + 4, 0, none⟩)]) rfl (enters_of Try.func162 (by kernel_rfl) rfl) (walk1_iter w.heap.size w t A c (w.heap.size + 4) HW.out.2.2.2.2.2.2 hn)
    (fun l i x args W h => by obtain ⟨A', c', b', rfl, _⟩ := h; rfl)
    (fun j W => FdS w t A c id W ∧ ∀ (q : Nat) (hq : q < j) (hl : q < (t.walk 1).length), ((t.walk 1)[q]).1.id ≠ id) (fun cd W => cd = .ret ∧ FdX w (t.subT id) W)
    (fun j W h => h.1.st) (fun j W W' h hq => ⟨h.1.quiet hq hXs, h.2⟩) (fun cd W W' h hq => ⟨h.1, h.2.quiet hq hXs⟩) ⟨HC.out, fun q hq => by omega⟩ ?round ?done ?stop
  case round =>
    rintro l j x args W ⟨hS, hne⟩ hx ⟨A', c', base, rfl, hlb, hTx⟩ hr hlB
    have hWX : X.heap.size ≤ W.heap.size := by obtain ⟨r, hr⟩ := hr; have := lt_of_block hr; omega
    have hWN : W.heap.size + 1 = (W.alloc (.cells #[.int .i64 (Tr.id x.1), .int .i64 (Tr.kind x.1), .string (Tr.text x.1), .slice A' (Tr.kids x.1).length c'] 24)).heap.size := by simp
    have H1 := Lib.hid (And.intro hS (And.intro hne (And.intro hx hTx)))
    clear hS hne hx hTx hr
    gi_wp2
    refine ⟨Above.of_chg0 (by with_reducible repeat (first | exact Chg.refl _ _ | apply Chg.alloc | apply Chg.drew | apply Chg.drewN | (refine Chg.setCell ?_ _ _ (by simp)))), fun W2 hc2 hq2 => ?_⟩
    have hS2 := H1.out.1.quiet (.of_chg (show Chg [] W (W.alloc (.cells #[.int .i64 (Tr.id x.1), .int .i64 (Tr.kind x.1), .string (Tr.text x.1), .slice A' (Tr.kids x.1).length c'] 24)) from (by with_reducible repeat (first | exact Chg.refl _ _ | apply Chg.alloc | apply Chg.drew | apply Chg.drewN | (refine Chg.setCell ?_ _ _ (by simp)))))) hXs |>.quiet hq2 hXs
    have hbx : W2.heap[W.heap.size]? = some (.cells #[.int .i64 (Tr.id x.1), .int .i64 (Tr.kind x.1), .string (Tr.text x.1), .slice A' (Tr.kids x.1).length c'] 24 (0, 0)) := hq2.at (heap_new _ _ rfl) rfl
    obtain ⟨p0, p1, p2, p3⟩ := blk4 hbx
    have i0 := cellOne hS2.ib
    have hb2W : W.heap.size + 1 ≤ W2.heap.size := by have := hc2.size; simpa using this
    have hT2 : TrC (fun b => True) W2 x.1 [.int .i64 (Tr.id x.1), .int .i64 (Tr.kind x.1), .string (Tr.text x.1), .slice A' (Tr.kids x.1).length c'] := by
      refine (H1.out.2.2.2.move fun g hg hlt => ⟨?_, trivial⟩)
      rw [hc2.block g (by simp; omega) (by simp; omega)]
      exact (Go.MapKept.heap_alloc W _).2 g hlt
    have H2 := Lib.hid (And.intro hS2 (And.intro hT2 hq2))
    have hxn : x.1.nodes ≤ 100000 := Nat.le_trans (walk_nodes t 1 x.1 x.2 (List.mem_of_getElem? H1.out.2.2.1)) hn
    clear hS2 hbx hT2 hq2 hc2 hWN
    obtain ⟨hjl, hxj⟩ := List.getElem?_eq_some_iff.1 H1.out.2.2.1
    have HJ := Lib.hid hxj
    clear hxj
    by_cases hid : x.1.id = id
    · have hb : (x.1.id == id) = true := by simpa using hid
      have hres : t.subT id = some x.1 := by
        rw [← Tr.walk_sub id t 1, ← HJ.out]
        exact firstW_at hjl (by rw [HJ.out]; exact hid) (fun q hq => H1.out.2.1 q hq (by omega))
      have HR := Lib.hid hres
      clear hres hid
      gi_wp2
      refine ⟨trivial, rfl, ?_⟩
      gi_at_call 90
      refine (callsIn_wide.2 (tcopy_any x.1 A' c' W2 H2.out.2.1 hxn)).mono ?_
      rintro e Y ⟨A2, c2, rfl, hV, hc⟩
      have hr2 := hc.at H2.out.1.rb (by simp)
      have hk2 := hc.at H2.out.1.kb (by simp)
      obtain ⟨q0, q1, q2, q3⟩ := blk4 hr2
      have f0 := blkF hr2 0
      have f1 := blkF hr2 1
      have f2 := blkF hr2 2
      have f3 := blkF hr2 3
      have k0 := cellOne hk2
      have g0 := blkF hk2 0
      have hc4 := chg4 Y (w.heap.size + 2) (.int .i64 x.1.id) (.int .i64 x.1.kind) (.string x.1.text) (.slice A2 x.1.kids.length c2)
      have hr4 := set4 (v0 := .int .i64 x.1.id) (v1 := .int .i64 x.1.kind) (v2 := .string x.1.text) (v3 := .slice A2 x.1.kids.length c2) hr2
      have H3 := Lib.hid (And.intro hV (And.intro hc (And.intro hr2 (And.intro hk2 (And.intro hc4 hr4)))))
      clear hV hc hr2 hk2 p0 p1 p2 p3 i0 hb hc4 hr4
      gi_wp2
      have hc5 : Chg [w.heap.size + 3] ((((Y.setCell ⟨w.heap.size + 2, 0, none⟩ (.int .i64 x.1.id)).setCell ⟨w.heap.size + 2, 1, none⟩ (.int .i64 x.1.kind)).setCell ⟨w.heap.size + 2, 2, none⟩ (.string x.1.text)).setCell ⟨w.heap.size + 2, 3, none⟩ (.slice A2 x.1.kids.length c2)) (((((Y.setCell ⟨w.heap.size + 2, 0, none⟩ (.int .i64 x.1.id)).setCell ⟨w.heap.size + 2, 1, none⟩ (.int .i64 x.1.kind)).setCell ⟨w.heap.size + 2, 2, none⟩ (.string x.1.text)).setCell ⟨w.heap.size + 2, 3, none⟩ (.slice A2 x.1.kids.length c2)).setCell ⟨w.heap.size + 3, 0, none⟩ (.bool true)) := (Chg.refl _ _).setCell _ _ (by simp)
      have hw2 : w.heap.size + 4 < W2.heap.size := by omega
      refine ⟨(Above.of_chg0 H3.out.2.1).trans ((Above.of_chg H3.out.2.2.2.2.1 (by simp <;> omega)).trans (Above.of_chg hc5 (by simp <;> omega))), rfl, ⟨⟨x.1, A2, c2, HR.out, hc5.at H3.out.2.2.2.2.2 (by simp), ?_⟩, heap_setCell_same _ _ 0 _ _ _ (H3.out.2.2.2.2.1.at H3.out.2.2.2.1 (by simp)), ((H2.out.1.chg.trans H3.out.2.1).andThen H3.out.2.2.2.2.1 (by simp <;> omega)).andThen hc5 (by simp <;> omega)⟩⟩
      exact ((H3.out.1.kept H3.out.2.2.2.2.1 (fun g hg => by simp <;> omega)).kept hc5 (fun g hg => by simp <;> omega)).weak fun g hg => ⟨by omega, Nat.lt_of_lt_of_le hg.2 (Nat.le_trans H3.out.2.2.2.2.1.size hc5.size)⟩
    · have hb : (x.1.id == id) = false := by simpa using hid
      have HI := Lib.hid hid
      clear hid
      gi_wp2
      refine ⟨Above.refl _ _, H2.out.1, fun q hq hl => ?_⟩
      rcases Nat.lt_or_ge q j with h | h
      · exact H1.out.2.1 q h hl
      · obtain rfl : q = j := by omega
        rw [HJ.out]; exact HI.out
  case done =>
    rintro D W hD ⟨hS, hne⟩ hK
    have hres : t.subT id = none := by
      rw [← Tr.walk_sub id t 1]
      exact firstW_none (fun q hq => hne q hq hq)
    obtain ⟨q0, q1, q2, q3⟩ := blk4 hS.rb
    have f0 := blkF hS.rb 0
    have f1 := blkF hS.rb 1
    have f2 := blkF hS.rb 2
    have f3 := blkF hS.rb 3
    have k0 := cellOne hS.kb
    have g0 := blkF hS.kb 0
    have hc4 := chg4 W (w.heap.size + 2) (.int .i64 0) (.int .i64 0) (.string ⟨#[]⟩) (.slice none 0 0)
    have hr4 := set4 (v0 := .int .i64 0) (v1 := .int .i64 0) (v2 := .string ⟨#[]⟩) (v3 := .slice none 0 0) hS.rb
    have H1 := Lib.hid (And.intro hS (And.intro hres (And.intro hK (And.intro hc4 hr4))))
    clear hS hne hres hK hc4 hr4
    gi_wp2
    have hc5 : Chg [w.heap.size + 3] ((((W.setCell ⟨w.heap.size + 2, 0, none⟩ (.int .i64 0)).setCell ⟨w.heap.size + 2, 1, none⟩ (.int .i64 0)).setCell ⟨w.heap.size + 2, 2, none⟩ (.string ⟨#[]⟩)).setCell ⟨w.heap.size + 2, 3, none⟩ (.slice none 0 0)) (((((W.setCell ⟨w.heap.size + 2, 0, none⟩ (.int .i64 0)).setCell ⟨w.heap.size + 2, 1, none⟩ (.int .i64 0)).setCell ⟨w.heap.size + 2, 2, none⟩ (.string ⟨#[]⟩)).setCell ⟨w.heap.size + 2, 3, none⟩ (.slice none 0 0)).setCell ⟨w.heap.size + 3, 0, none⟩ (.bool false)) := (Chg.refl _ _).setCell _ _ (by simp)
    have hP : ∀ V : World, Chg [D] V (V.putObj D (.deferred none)) := fun V => ⟨rfl, rfl, rfl, by simp, fun j _ hj => World.putObj_heap_other (by simpa using hj)⟩
    refine find_ret (hc5.at H1.out.2.2.2.2 (by simp)) (heap_setCell_same _ _ 0 _ _ _ (H1.out.2.2.2.1.at H1.out.1.kb (by simp))) rfl (by omega) (hc5.at (H1.out.2.2.2.1.at H1.out.2.2.1 (by simp; omega)) (by simp; omega)) _ rfl rfl rfl ?_
    unfold FindV
    rw [H1.out.2.1]
    exact ⟨rfl, ((H1.out.1.chg.andThen H1.out.2.2.2.1 (by simp <;> omega)).andThen hc5 (by simp <;> omega)).andThen (hP _) (by simp <;> omega)⟩
  case stop =>
    rintro D cd W hD ⟨rfl, hX⟩ hK
    obtain ⟨⟨x, A2, c2, hr, hb, hV⟩, hk, hcw⟩ := hX
    have H1 := Lib.hid (And.intro hr (And.intro hb (And.intro hV (And.intro hk (And.intro hcw hK)))))
    clear hr hb hV hk hcw hK
    gi_wp2
    have hP : Chg [D] W (W.putObj D (.deferred none)) := ⟨rfl, rfl, rfl, by simp, fun j _ hj => World.putObj_heap_other (by simpa using hj)⟩
    refine find_ret H1.out.2.1 H1.out.2.2.2.1 rfl (by omega) H1.out.2.2.2.2.2 _ rfl rfl rfl ?_
    unfold FindV
    rw [H1.out.1]
    refine ⟨A2, c2, rfl, ?_, H1.out.2.2.2.2.1.andThen hP (by simp <;> omega)⟩
    have hq : Quiet 0 W (W.putObj D (.deferred none)) := .put _ H1.out.2.2.2.2.2 rfl (Nat.zero_le _)
    exact (H1.out.2.2.1.quiet hq).weak fun g hg => ⟨hg.1, Nat.lt_of_lt_of_le hg.2 hP.size⟩
end Go.Proofs.Ytofjocjljbkjgaa
namespace Go.Proofs.Ytofjocjljbkjgaa
open Go.RowKit
def ints (l : List Nat) : List Int := l.map (fun (i : Nat) => (i : Int))
theorem ints_len (l : List Nat) : (ints l).length = l.length := by simp [ints]
theorem ints_snoc (l : List Nat) (k : Nat) : ints (l ++ [k]) = ints l ++ [(k : Int)] := by simp [ints]
structure PS (w0 : World) (pb : Nat) (l : List Nat) (v : Value) (W : World) : Prop where
  bx : W.heap[pb]? = some (.cells #[v] 109 (0, 0))
  row : OwnI W w0.heap.size v (ints l)
  chg : Chg [pb] w0 W
theorem PS.kept {w0 : World} {pb : Nat} {l : List Nat} {v : Value} {W W' : World} (h : PS w0 pb l v W) (hc : Chg [] W W') : PS w0 pb l v W' :=
  ⟨hc.at h.bx (by simp), h.row.kept hc (by simp), h.chg.andThen hc (by simp)⟩
theorem OwnI.cut {W : World} {base : Nat} {v : Value} {l : List Int} {u : Int} (h : OwnI W base v (l ++ [u])) : ∃ g c, v = .slice (some ⟨g, 0, none⟩) (l.length + 1) c ∧ l.length + 1 ≤ c ∧ c ≤ maxLen ∧ OwnI W base (.slice (some ⟨g, 0, none⟩) l.length c) l := by
  obtain ⟨hl, h2⟩ := h
  rcases h2 with ⟨rfl, h0⟩ | ⟨g, cap, cur, rfl, hb, hg, h1, h3, h4, h5⟩
  · simp at h0
  · have e : (l ++ [u]).length = l.length + 1 := by simp
    rw [e] at h1 h5
    refine ⟨g, cap, by rw [e], h1, h3, by simp, .inr ⟨g, cap, cur, rfl, hb, hg, by omega, h3, h4, ?_⟩⟩
    rw [show l.length * 1 = l.length by omega]
    rw [show (l.length + 1) * 1 = l.length + 1 by omega] at h5
    have := congrArg (List.take l.length) h5
    rw [List.take_take, show min l.length (l.length + 1) = l.length by omega] at this
    rw [this]
    simp
set_option maxHeartbeats 4000000 in
set_option maxRecDepth 100000 in
theorem path1_any (w0 : World) (ib pb fb : Nat) (id : Int) (hib : w0.heap[ib]? = some (.cells #[.int .i64 id] 3 (0, 0))) (hfb : w0.heap[fb]? = some (.cells #[.func (.func 146) #[] #[.pointer (some ⟨ib, 0, none⟩), .pointer (some ⟨pb, 0, none⟩), .pointer (some ⟨fb, 0, none⟩)]] 28 (0, 0))) (hip : ib ≠ pb) (hfp : fb ≠ pb) (hpb : pb < w0.heap.size) :
    ∀ (t : Tr) (A : Option Addr) (c : Nat) (pre : List Nat) (v : Value) (W : World), PS w0 pb pre v W → TrC (fun b => b < w0.heap.size ∧ b ≠ pb) w0 t [.int .i64 (Tr.id t), .int .i64 (Tr.kind t), .string (Tr.text t), .slice A (Tr.kids t).length c] → pre.length + t.nodes ≤ 1000000 →
    Calls Try.prog 146 #[.agg #[.int .i64 (Tr.id t), .int .i64 (Tr.kind t), .string (Tr.text t), .slice A (Tr.kids t).length c], .pointer (some ⟨ib, 0, none⟩), .pointer (some ⟨pb, 0, none⟩), .pointer (some ⟨fb, 0, none⟩)] W fun e W' => ∃ v', e = .returned (.bool (t.path id).isSome) ∧ PS w0 pb (pre ++ (t.path id).getD []) v' W' := by
  intro t
  induction t using Tr.ind with
  | h t ih =>
  intro A c pre v W hP hT hn
  obtain ⟨A', c', hcs, hlc, hcm, htx, hK⟩ := hT.opens
  simp only [List.cons.injEq, Value.slice.injEq, true_and, and_true] at hcs
  obtain ⟨rfl, rfl⟩ := hcs
  have hli := lt_of_block hib
  have hlf := lt_of_block hfb
  obtain ⟨W1, hW1⟩ : ∃ W1, W1 = W.alloc (.cells #[.int .i64 (Tr.id t), .int .i64 (Tr.kind t), .string (Tr.text t), .slice A (Tr.kids t).length c] 24) := ⟨_, rfl⟩
  have hc1 : Chg [] W W1 := by rw [hW1]; exact (by with_reducible repeat (first | exact Chg.refl _ _ | apply Chg.alloc | apply Chg.drew | apply Chg.drewN | (refine Chg.setCell ?_ _ _ (by simp))))
  have hP1 := hP.kept hc1
  have i0 := cellOne (hP1.chg.at hib (by simpa using hip))
  obtain ⟨p0, p1, p2, p3⟩ := blk4 (show W1.heap[W.heap.size]? = some (.cells #[.int .i64 (Tr.id t), .int .i64 (Tr.kind t), .string (Tr.text t), .slice A (Tr.kids t).length c] 24 (0, 0)) by rw [hW1]; exact heap_new _ _ rfl)
  have HH := Lib.hid (And.intro ih (And.intro hK (And.intro hP1 (And.intro hib (And.intro hfb hW1)))))
  have hkl : t.kids.length ≤ 1000000 := by have := t.kids_le; omega
  have HN := Lib.hid (And.intro hn hkl)
  rw [hW1] at i0 p0 p1 p2 p3
  clear ih hK hT hP hc1 hP1 hW1 hib hfb hn
  go_enter Try.func146, Try.ntmps146
  by_cases hid : t.id = id
  · have d1 : (t.id == id) = true := by simpa using hid
    have HE := Lib.hid (show t.path id = some [] by rw [Tr.path_eq, if_pos hid])
    clear hid
    go_wp2_with (skip; fail)
    rw [← HH.out.2.2.2.2.2]
    go_ret
    refine ⟨v, by rw [HE.out]; rfl, ?_⟩
    rw [HE.out]
    show PS w0 pb (pre ++ []) v W1
    rw [List.append_nil]
    exact HH.out.2.2.1
  have d1 : (t.id == id) = false := by simpa using hid
  have HE := Lib.hid (show t.path id = pathL id t.kids 0 by rw [Tr.path_eq, if_neg hid])
  clear hid
  go_wp2_with (skip; fail)
  rw [← HH.out.2.2.2.2.2]
  clear i0 p0 p1 p2 p3
  go_loopw [15] (fun iv wr => ∃ k : Nat, k ≤ t.kids.length ∧ iv = .int .i64 k ∧ Hid (∃ v, PS w0 pb pre v wr ∧ ∀ (j : Nat) (hj : j < k) (hl : j < t.kids.length), (t.kids[j]).path id = none)) (fun iv _ => t.kids.length - (intOf iv).toNat)
  case atStart => exact ⟨0, Nat.zero_le _, rfl, ⟨v, HH.out.2.2.1, fun j hj => by omega⟩⟩
  case round =>
    obtain ⟨k, hk, rfl, H0⟩ := hrel
    obtain ⟨V, hV⟩ : ∃ V, V = wr := ⟨_, rfl⟩
    subst hV
    obtain ⟨v1, hP, hnone⟩ := H0.out
    clear H0
    by_cases hlt : k < t.kids.length
    · obtain ⟨gk, ok, hA, hokg, cs, hr, hTk⟩ := HH.out.2.1.at hlt
      subst hA
      obtain ⟨y, hye⟩ : ∃ y, y = t.kids[k] := ⟨_, rfl⟩
      have hym : y ∈ t.kids := by rw [hye]; exact List.getElem_mem hlt
      rw [← hye] at hTk
      obtain ⟨Ak, ck, hcsk, _⟩ := hTk.opens
      subst hcsk
      have hyn : y.nodes < t.nodes := by have h1 := nodesL_mem hym; have h2 := t.nodes_eq; omega
      have hr' : V.rangeAt gk (ok + k * 4) [.int .i64 (Tr.id y), .int .i64 (Tr.kind y), .string (Tr.text y), .slice Ak (Tr.kids y).length ck] := hP.chg.range hr (by simpa using hokg.2)
      obtain ⟨V1, hV1⟩ : ∃ V1, V1 = V.alloc (.cells #[.int .i64 (Tr.id y), .int .i64 (Tr.kind y), .string (Tr.text y), .slice Ak (Tr.kids y).length ck] 24) := ⟨_, rfl⟩
      have hcV : Chg [] V V1 := by rw [hV1]; exact (by with_reducible repeat (first | exact Chg.refl _ _ | apply Chg.alloc | apply Chg.drew | apply Chg.drewN | (refine Chg.setCell ?_ _ _ (by simp))))
      have hbV : V1.heap[V.heap.size]? = some (.cells #[.int .i64 (Tr.id y), .int .i64 (Tr.kind y), .string (Tr.text y), .slice Ak (Tr.kids y).length ck] 24 (0, 0)) := by rw [hV1]; exact heap_new _ _ rfl
      have hP1 := hP.kept hcV
      obtain ⟨V2, hV2⟩ : ∃ V2, V2 = V1.alloc (.cells #[.int .i64 k] 3) := ⟨_, rfl⟩
      have hcV2 : Chg [] V1 V2 := by rw [hV2]; exact (by with_reducible repeat (first | exact Chg.refl _ _ | apply Chg.alloc | apply Chg.drew | apply Chg.drewN | (refine Chg.setCell ?_ _ _ (by simp))))
      have hP2 := hP1.kept hcV2
      have hbV2 := hcV2.at hbV (by simp)
      have hV2g : V2.heap[V1.heap.size]? = some (.cells #[.int .i64 k] 3 (0, 0)) := by rw [hV2]; exact heap_new _ _ rfl
      have c0 := cellOne hP1.bx
      have HC := Lib.hid (And.intro hr' (And.intro hTk (And.intro hye (And.intro hym (And.intro hyn (And.intro hP2 (And.intro hbV2 (And.intro hV2g (And.intro hV1 (And.intro hV2 (And.intro hnone hP.row.own)))))))))))
      rw [hV1] at c0
      have hVs : w0.heap.size ≤ V.heap.size := hP.chg.size
      have hV1s : V1.heap.size = V.heap.size + 1 := by rw [hV1]; simp
      have hpl : (ints pre).length ≤ 1000000000 := by rw [ints_len]; have := HN.out.1; omega
      have HS := Lib.hid hV1s
      clear hr' hTk hye hym hyn hP2 hbV2 hV2g hV1 hV2 hnone hcV hbV hP1 hcV2 hP hr hokg hV1s
      go_wp2_with (first
        | (refine wpList_load_mid rfl 24 (.tmp 18) rfl gk (ok + k * 4) rfl _ _ HC.out.1 Try.underlying24 rfl szNode ?_)
        | (rw [← HC.out.2.2.2.2.2.2.2.2.1, ← HC.out.2.2.2.2.2.2.2.2.2.1]
           refine wpList_push_int rfl (.tmp 20) (.tmp 22) rfl w0.heap.size v1 (ints pre) rfl HC.out.2.2.2.2.2.1.row V1.heap.size k (by rw [HS.out]; rfl) (cellOne HC.out.2.2.2.2.2.2.2.1) hpl (by have := HC.out.2.2.2.2.2.1.chg.size; omega) ?_
           intro v2 X hown hcX hat
           obtain ⟨g2, c2, hv2, hle2, hmx2, hcut⟩ := hown.cut
           rw [ints_len] at hv2 hle2 hcut
           subst hv2
           have hlow : ∀ b, b < w0.heap.size → b ∉ v1.ownBlock.toList := fun b hb hm => by have := HC.out.2.2.2.2.2.2.2.2.2.2.2 b hm; omega
           have hbX := hcX.at HC.out.2.2.2.2.2.1.bx (hlow pb hpb)
           have hS : Chg [pb] X (X.setCell ⟨pb, 0, none⟩ (.slice (some ⟨g2, 0, none⟩) (pre.length + 1) c2)) := (Chg.refl _ _).setCell _ _ (by simp)
           have hPS : PS w0 pb (pre ++ [k]) (.slice (some ⟨g2, 0, none⟩) (pre.length + 1) c2) (X.setCell ⟨pb, 0, none⟩ (.slice (some ⟨g2, 0, none⟩) (pre.length + 1) c2)) :=
             ⟨heap_setCell_same _ _ 0 _ _ _ hbX, by rw [ints_snoc]; exact hown.kept hS (fun b hb => by have := hown.own b (by simp [hb]); simp; omega), (HC.out.2.2.2.2.2.1.chg.andThen hcX (fun b hb => .inr (HC.out.2.2.2.2.2.2.2.2.2.2.2 b hb).1)).andThen hS (by simp)⟩
           have x0 := cellOne hbX
           have xf0 := blkF hbX 0
           have xf := cellOne (hcX.at (HC.out.2.2.2.2.2.1.chg.at HH.out.2.2.2.2.1 (by simpa using hfp)) (hlow fb hlf))
           obtain ⟨n0, n1, n2, n3⟩ := blk4 (hcX.at HC.out.2.2.2.2.2.2.1 (fun hm => by have := HC.out.2.2.2.2.2.2.2.2.2.2.2 _ hm; omega))
           have hcall := HH.out.1 y HC.out.2.2.2.1 Ak ck (pre ++ [k]) _ _ hPS HC.out.2.1 (by have h1 := HN.out.1; have h2 := HC.out.2.2.2.2.1; simp; omega)
           have HX := Lib.hid (And.intro hcall (And.intro hcut (And.intro hle2 hmx2)))
           have hVn : V.heap.size ≠ pb := by omega
           clear hown hcX hat hcut hle2 hmx2 hlow hbX hS hPS hcall
           ((try dsimp only); (try simp only [Act.put, List.setIfInBounds_toArray, List.set_cons_zero, List.set_cons_succ])))
        | (skip; fail))
      go_at_call 146
      refine HX.out.1.mono ?_
      clear x0 xf0 xf n0 n1 n2 n3
      rintro e Y ⟨v3, rfl, hP3⟩
      have hstep := pathL_step id t.kids k 0 hlt (fun j hj => HC.out.2.2.2.2.2.2.2.2.2.2.1 j hj (by omega))
      rw [← HC.out.2.2.1] at hstep
      cases hpy : y.path id with
      | some p =>
        rw [hpy] at hP3 hstep
        have HY := Lib.hid (And.intro hP3 (show t.path id = some (k :: p) by rw [HE.out, hstep]; simp))
        clear hP3 hstep hpy
        go_wp2_with (skip; fail)
        go_ret
        refine ⟨v3, by rw [HY.out.2]; rfl, ?_⟩
        rw [HY.out.2]
        show PS w0 pb (pre ++ (k :: p)) v3 Y
        rw [show pre ++ (k :: p) = pre ++ [k] ++ p by simp]
        exact HY.out.1
      | none =>
        rw [hpy] at hP3
        rw [show pre ++ [k] ++ (none : Option (List Nat)).getD [] = pre ++ [k] by simp] at hP3
        obtain ⟨g3, c3, hv3, hle3, hmx3, hcut3⟩ := (show OwnI Y w0.heap.size v3 (ints pre ++ [(k : Int)]) by have := hP3.row; rwa [ints_snoc] at this).cut
        rw [ints_len] at hv3 hle3 hcut3
        subst hv3
        have y0 := cellOne hP3.bx
        have y1 := blkF hP3.bx 0
        unfold maxLen at hmx3
        have HY := Lib.hid (And.intro hP3 (And.intro hcut3 hpy))
        clear hP3 hcut3 hstep hpy
        go_wp2_with (skip; fail)
        go_roundw
        case rel =>
          have hS : Chg [pb] Y (Y.setCell ⟨pb, 0, none⟩ (.slice (some ⟨g3, 0, none⟩) pre.length c3)) := (Chg.refl _ _).setCell _ _ (by simp)
          refine ⟨k + 1, by omega, by go_num, Lib.hid ⟨_, ⟨heap_setCell_same _ _ 0 _ _ _ HY.out.1.bx, HY.out.2.1.kept hS (fun b hb => by have := HY.out.2.1.own b (by simp [hb]); simp; omega), HY.out.1.chg.andThen hS (by simp)⟩, fun j hj hl => ?_⟩⟩
          rcases Nat.lt_or_ge j k with h | h
          · exact HC.out.2.2.2.2.2.2.2.2.2.2.1 j h hl
          · obtain rfl : j = k := by omega
            rw [← HC.out.2.2.1]; exact HY.out.2.2
        case measure => simp [intOf]; omega
    · obtain rfl : k = t.kids.length := by omega
      have HR := Lib.hid (And.intro hP (show t.path id = none by rw [HE.out]; exact pathL_none id _ 0 (fun j hj => hnone j hj hj)))
      clear hP hnone
      go_wp2_with (skip; fail)
      go_ret
      refine ⟨v1, by rw [HR.out.2]; rfl, ?_⟩
      rw [HR.out.2]
      show PS w0 pb (pre ++ []) v1 _
      rw [List.append_nil]
      exact HR.out.1
set_option maxHeartbeats 4000000 in
set_option maxRecDepth 100000 in
theorem pathp_any (t : Tr) (A : Option Addr) (c : Nat) (id : Int) (w : World) (hT : TrC (fun b => b < w.heap.size) w t [.int .i64 (Tr.id t), .int .i64 (Tr.kind t), .string (Tr.text t), .slice A (Tr.kids t).length c]) (hn : t.nodes ≤ 100000) :
    Calls Try.prog 119 #[.agg #[.int .i64 (Tr.id t), .int .i64 (Tr.kind t), .string (Tr.text t), .slice A (Tr.kids t).length c], .int .i64 id] w fun e w' => ∃ v, e = .returned (.tuple #[v, .bool (t.path id).isSome]) ∧ OwnI w' w.heap.size v (ints ((t.path id).getD [])) ∧ Chg [] w w' := by
  obtain ⟨W, hW⟩ : ∃ W, W = (((w.alloc (.cells #[.int .i64 (Tr.id t), .int .i64 (Tr.kind t), .string (Tr.text t), .slice A (Tr.kids t).length c] 24)).alloc (.cells #[.int .i64 id] 3)).alloc (.cells #[.slice none 0 0] 109)).alloc (.cells #[.func (.func 146) #[] #[.pointer (some ⟨(w.heap.size + 1), 0, none⟩), .pointer (some ⟨(w.heap.size + 1 + 1), 0, none⟩), .pointer (some ⟨(w.heap.size + 1 + 1 + 1), 0, none⟩)]] 28) := ⟨_, rfl⟩
  have hcW : Chg [] w W := by rw [hW]; exact (by with_reducible repeat (first | exact Chg.refl _ _ | apply Chg.alloc | apply Chg.drew | apply Chg.drewN | (refine Chg.setCell ?_ _ _ (by simp))))
  have b0 : W.heap[w.heap.size]? = some (.cells #[.int .i64 (Tr.id t), .int .i64 (Tr.kind t), .string (Tr.text t), .slice A (Tr.kids t).length c] 24 (0, 0)) := by rw [hW]; exact heap_old (heap_old (heap_old (heap_new _ _ rfl) _) _) _
  have b1 : W.heap[w.heap.size + 1]? = some (.cells #[.int .i64 id] 3 (0, 0)) := by rw [hW]; exact heap_old (heap_old (heap_new _ _ (by simp)) _) _
  have b2 : W.heap[w.heap.size + 1 + 1]? = some (.cells #[.slice none 0 0] 109 (0, 0)) := by rw [hW]; exact heap_old (heap_new _ _ (by simp)) _
  have b3 : W.heap[w.heap.size + 1 + 1 + 1]? = some (.cells #[.func (.func 146) #[] #[.pointer (some ⟨(w.heap.size + 1), 0, none⟩), .pointer (some ⟨(w.heap.size + 1 + 1), 0, none⟩), .pointer (some ⟨(w.heap.size + 1 + 1 + 1), 0, none⟩)]] 28 (0, 0)) := by rw [hW]; exact heap_new _ _ (by simp)
  have hsz : W.heap.size = w.heap.size + 4 := by rw [hW]; simp
  have hcall := path1_any W (w.heap.size + 1) (w.heap.size + 1 + 1) (w.heap.size + 1 + 1 + 1) id b1 b3 (by omega) (by omega) (by omega) t A c [] _ W ⟨b2, OwnI.nil _ _, Chg.refl _ _⟩ ((hT.kept hcW (by simp)).weak (fun b hb _ => ⟨by omega, by omega⟩)) (by simp; omega)
  rw [List.nil_append] at hcall
  obtain ⟨p0, p1, p2, p3⟩ := blk4 b0
  have m3 := cellOne b3
  have HW := Lib.hid (And.intro hW (And.intro hcW (And.intro hsz hcall)))
  rw [hW] at p0 p1 p2 p3 m3
  clear hW hcW b0 b1 b2 b3 hsz hcall hT
  go_enter Try.func119, Try.ntmps119
  go_wp2_with (skip; fail)
  go_at_call 146
  rw [← HW.out.1]
  clear p0 p1 p2 p3 m3
  refine HW.out.2.2.2.mono ?_
  rintro e X ⟨v, rfl, hP⟩
  have x2 := cellOne hP.bx
  have hc : Chg [] w X := HW.out.2.1.andThen hP.chg (by simp <;> omega)
  have hrow : OwnI X w.heap.size v (ints ((t.path id).getD [])) := by
    obtain ⟨h1, h2⟩ := hP.row
    refine ⟨h1, ?_⟩
    rcases h2 with h2 | ⟨g, cap, cur, h3, h4, h5⟩
    · exact .inl h2
    · exact .inr ⟨g, cap, cur, h3, by have := HW.out.2.2.1; omega, h5⟩
  have HX := Lib.hid (And.intro hrow hc)
  clear hP hrow hc
  cases hp : t.path id with
  | none =>
    have HP := Lib.hid hp
    clear hp
    go_wp2_with (skip; fail)
    go_ret2
    exact ⟨.slice none 0 0, by rw [HP.out]; rfl, by rw [HP.out]; exact OwnI.nil _ _, HX.out.2⟩
  | some p =>
    have HP := Lib.hid hp
    clear hp
    go_wp2_with (skip; fail)
    go_ret2
    exact ⟨v, by rw [HP.out]; rfl, HX.out.1, HX.out.2⟩
end Go.Proofs.Ytofjocjljbkjgaa
namespace Go.Proofs.Ytofjocjljbkjgaa
open Go.RowKit
section
variable {P : Program} {ops : Array Oper} {Q : Exit → Act → World → Prop} {md : Region.Mode} {S : World → Prop} {eff brk : Nat → Bool}
theorem M_two {i j : Nat} {oi oj : Oper} {fuel : Nat} {listed : Array Bool} {a : Act} {w : World} (hi0 : ops.toList[i]? = some oi) (hj0 : ops.toList[j]? = some oj) (hr : Region.ready md ops listed = [i, j]) (hei : eff i = true) (hej : eff j = true)
    (h : wpList P ops (EffQ Q (fun a' w' => S w' ∧ wpAnyM P md ops Q S eff brk fuel (listed.setIfInBounds i true) a' w')) [oi] a w)
    (k : wpList P ops (EffQ Q (fun a' w' => S w' ∧ wpAnyM P md ops Q S eff brk fuel (listed.setIfInBounds j true) a' w')) [oj] a w) : wpAnyM P md ops Q S eff brk (fuel + 1) listed a w := by
  have key : ∀ (x : Nat) (ox : Oper), ops[x]? = some ox → eff x = true → wpList P ops (EffQ Q (fun a' w' => S w' ∧ wpAnyM P md ops Q S eff brk fuel (listed.setIfInBounds x true) a' w')) [ox] a w →
      wpOp P ops Q x (fun a' w' => (eff x = false → w' = w) ∧ (brk x = false → S w → S w') ∧ wpAnyM P md ops Q S eff brk fuel (listed.setIfInBounds x true) a' w') a w := by
    intro x ox hx he h
    refine wpOp_mono (K := fun a' w' => S w' ∧ wpAnyM P md ops Q S eff brk fuel (listed.setIfInBounds x true) a' w') (fun a' w' h => ⟨fun h0 => (by rw [he] at h0; cases h0), fun _ _ => h.1, h.2⟩) ?_
    unfold wpOp
    simp only [hx]
    unfold wpList at h
    split
    · rename_i hw
      rw [if_pos hw] at h
      rcases h with h | ⟨h1, a', w', h2⟩
      · exact .inl (wp_of_EffQ (Oper.wp_mono (fun a w h => h) h))
      · exact .inr ⟨h1, a', w', h2⟩
    · rename_i hw
      rw [if_neg hw] at h
      exact h
  refine ⟨fun h0 => (by rw [h0] at hr; cases hr), fun x hx => ?_⟩
  rw [hr] at hx
  rcases List.mem_cons.1 hx with rfl | hx
  · exact key _ _ (by simpa using hi0) hei h
  · obtain rfl := List.mem_singleton.1 hx
    exact key _ _ (by simpa using hj0) hej k
end
end Go.Proofs.Ytofjocjljbkjgaa
namespace Go.Proofs.Ytofjocjljbkjgaa
open Go.RowKit
structure AtS (w : World) (x : Tr) (A : Option Addr) (c : Nat) (W : World) : Prop where
  bx : W.heap[w.heap.size]? = some (.cells #[.int .i64 (Tr.id x), .int .i64 (Tr.kind x), .string (Tr.text x), .slice A (Tr.kids x).length c] 24 (0, 0))
  res : W.heap[w.heap.size + 1]? = some (.cells #[.int .i64 0, .int .i64 0, .string ⟨#[]⟩, .slice none 0 0] 24 (0, 0))
  chg : Chg [] w W
theorem at_cons {i : Nat} {p : List Nat} {t y : Tr} (h : Tr.at? (i :: p) t = some y) : ∃ (hi : i < t.kids.length), Tr.at? p t.kids[i] = some y := by
  unfold Tr.at? at h
  split at h
  · rename_i k hk
    obtain ⟨hi, rfl⟩ := List.getElem?_eq_some_iff.1 hk
    exact ⟨hi, h⟩
  · cases h
set_option maxHeartbeats 4000000 in
set_option maxRecDepth 100000 in
theorem pat_any (t y : Tr) (A : Option Addr) (c : Nat) (l : List Nat) (B : Option Addr) (d : Nat) (w : World) (hT : TrC (fun b => b < w.heap.size) w t [.int .i64 (Tr.id t), .int .i64 (Tr.kind t), .string (Tr.text t), .slice A (Tr.kids t).length c]) (hB : RowP w 1 IntAt B (ints l)) (hy : Tr.at? l t = some y) (hl : l.length ≤ 1000000) (hn : t.nodes ≤ 1000000) :
    Calls Try.prog 158 #[.agg #[.int .i64 (Tr.id t), .int .i64 (Tr.kind t), .string (Tr.text t), .slice A (Tr.kids t).length c], .slice B l.length d] w fun e w' => ∃ A' c', e = .returned (.tuple #[.agg #[.int .i64 (Tr.id y), .int .i64 (Tr.kind y), .string (Tr.text y), .slice A' (Tr.kids y).length c'], .bool true]) ∧ TrC (fun b => b < w.heap.size) w' y [.int .i64 (Tr.id y), .int .i64 (Tr.kind y), .string (Tr.text y), .slice A' (Tr.kids y).length c'] ∧ Chg [] w w' := by
  obtain ⟨W, hW⟩ : ∃ W, W = (w.alloc (.cells #[.int .i64 (Tr.id t), .int .i64 (Tr.kind t), .string (Tr.text t), .slice A (Tr.kids t).length c] 24)).alloc (.cells #[.int .i64 0, .int .i64 0, .string ⟨#[]⟩, .slice none 0 0] 24) := ⟨_, rfl⟩
  have hS : AtS w t A c W := ⟨by rw [hW]; exact heap_old (heap_new _ _ rfl) _, by rw [hW]; exact heap_new _ _ (by simp), by rw [hW]; exact (by with_reducible repeat (first | exact Chg.refl _ _ | apply Chg.alloc | apply Chg.drew | apply Chg.drewN | (refine Chg.setCell ?_ _ _ (by simp))))⟩
  have HH := Lib.hid (And.intro hS (And.intro hW (And.intro hB (And.intro hy hT))))
  clear hS hW hB hy hT
  go_enter Try.func158, Try.ntmps158
  go_wp2_with (skip; fail)
  rw [← HH.out.2.1]
  go_loopw [10] (fun iv wr => ∃ k : Nat, k ≤ l.length ∧ iv = .int .i64 k ∧ Hid (∃ x A c, AtS w x A c wr ∧ Tr.at? (l.drop k) x = some y ∧ TrC (fun b => b < w.heap.size) w x [.int .i64 (Tr.id x), .int .i64 (Tr.kind x), .string (Tr.text x), .slice A (Tr.kids x).length c] ∧ x.nodes ≤ 1000000)) (fun iv _ => l.length - (intOf iv).toNat)
  case atStart => exact ⟨0, Nat.zero_le _, rfl, ⟨t, A, c, HH.out.1, HH.out.2.2.2.1, HH.out.2.2.2.2, hn⟩⟩
  case round =>
    obtain ⟨k, hk, rfl, H0⟩ := hrel
    obtain ⟨V, hV⟩ : ∃ V, V = wr := ⟨_, rfl⟩
    subst hV
    obtain ⟨x, A1, c1, hS, hat, hT, hxn⟩ := H0.out
    clear H0
    obtain ⟨p0, p1, p2, p3⟩ := blk4 hS.bx
    have f0 := blkF hS.bx 0
    have f1 := blkF hS.bx 1
    have f2 := blkF hS.bx 2
    have f3 := blkF hS.bx 3
    by_cases hlt : k < l.length
    · obtain ⟨n, hnl⟩ : ∃ n, n = l[k] := ⟨_, rfl⟩
      rw [List.drop_eq_getElem_cons hlt, ← hnl] at hat
      obtain ⟨hi, hat2⟩ := at_cons hat
      obtain ⟨A', c', hcs, hlc, hcm, htx, hK⟩ := hT.opens
      simp only [List.cons.injEq, Value.slice.injEq, true_and, and_true] at hcs
      obtain ⟨rfl, rfl⟩ := hcs
      obtain ⟨gk, ok, hA, hokg, cs, hr, hTk⟩ := hK.at hi
      subst hA
      obtain ⟨z, hz⟩ : ∃ z, z = x.kids[n] := ⟨_, rfl⟩
      rw [← hz] at hTk hat2
      obtain ⟨Ak, ck, hcsk, _⟩ := hTk.opens
      subst hcsk
      have hzn : z.nodes ≤ 1000000 := by have h1 := nodesL_mem (List.getElem_mem hi); have h2 := x.nodes_eq; rw [← hz] at h1; omega
      have hr' : V.rangeAt gk (ok + n * 4) [.int .i64 (Tr.id z), .int .i64 (Tr.kind z), .string (Tr.text z), .slice Ak (Tr.kids z).length ck] := hS.chg.range hr (by simp)
      obtain ⟨gb, ob, hBe, hgb, hIb⟩ := HH.out.2.2.1.at (show k < (ints l).length by rw [ints_len]; exact hlt)
      have hin : (ints l)[k]'(by rw [ints_len]; exact hlt) = (n : Int) := by simp [ints, hnl]
      rw [hin] at hIb
      have c0 : V.cell? ⟨gb, ob + k, none⟩ = some (.int .i64 n) := by have := hS.chg.cell hIb (by simp); rwa [Nat.mul_one] at this
      subst hBe
      have d1 : decide ((n : Int) < 0) = false := decide_eq_false (by omega)
      have d2 : decide ((x.kids.length : Int) ≤ (n : Int)) = false := decide_eq_false (by omega)
      have d2' : decide (x.kids.length ≤ n) = false := decide_eq_false (by omega)
      have hkl : x.kids.length ≤ 1000000 := by have := x.kids_le; omega
      have HC := Lib.hid (And.intro hr' (And.intro hTk (And.intro hat2 (And.intro hS hzn))))
      clear hr' hTk hat2 hS hzn hin hIb hgb hr hz hat hnl hT hK hokg
      go_wp2_with (first
        | (refine wpList_load_mid rfl 24 (.tmp 27) rfl gk (ok + n * 4) rfl _ _ HC.out.1 Try.underlying24 rfl szNode ?_)
        | (skip; fail))
      go_roundw
      case rel =>
        have hc4 := chg4 V w.heap.size (.int .i64 z.id) (.int .i64 z.kind) (.string z.text) (.slice Ak z.kids.length ck)
        exact ⟨k + 1, by omega, by go_num, Lib.hid ⟨z, Ak, ck, ⟨set4 HC.out.2.2.2.1.bx, hc4.at HC.out.2.2.2.1.res (by simp), HC.out.2.2.2.1.chg.andThen hc4 (by simp)⟩, HC.out.2.2.1, HC.out.2.1, HC.out.2.2.2.2⟩⟩
      case measure => simp [intOf]; omega
    · obtain rfl : k = l.length := by omega
      rw [List.drop_length] at hat
      obtain rfl : x = y := by simpa [Tr.at?] using hat
      obtain ⟨q0, q1, q2, q3⟩ := blk4 hS.res
      have g0 := blkF hS.res 0
      have g1 := blkF hS.res 1
      have g2 := blkF hS.res 2
      have g3 := blkF hS.res 3
      have HC := Lib.hid (And.intro hS hT)
      clear hS hT hat
      go_wp2_with (skip; fail)
      have hc4 := chg4 V (w.heap.size + 1) (.int .i64 x.id) (.int .i64 x.kind) (.string x.text) (.slice A1 x.kids.length c1)
      refine bodyPost_ret (v := .tuple #[.agg #[.int .i64 (Tr.id x), .int .i64 (Tr.kind x), .string (Tr.text x), .slice A1 (Tr.kids x).length c1], .bool true]) (results_row_tmp rfl _ _ (w.heap.size + 1) _ _ _ _ _ rfl rfl (set4 HC.out.1.res) Try.underlying24 rfl szNode) rfl ?_
      exact ⟨A1, c1, rfl, (HC.out.2.kept HC.out.1.chg (by simp)).kept hc4 (fun b hb => by simp; omega), HC.out.1.chg.andThen hc4 (by simp)⟩
end Go.Proofs.Ytofjocjljbkjgaa
namespace Go.Proofs.Ytofjocjljbkjgaa
open Go.RowKit
theorem at_len : ∀ (p : List Nat) (t x : Tr), Tr.at? p t = some x → p.length + x.nodes ≤ t.nodes
  | [], t, x, h => by simp [Tr.at?] at h; subst h; simp
  | i :: p, t, x, h => by
    obtain ⟨hi, h2⟩ := at_cons h
    have h3 := at_len p _ x h2
    have h4 := nodesL_mem (List.getElem_mem hi)
    have h5 := t.nodes_eq
    simp only [List.length_cons]; omega
theorem RowP.chg {A : Option Addr} {xs : List Int} {W W' : World} (h : RowP W 1 IntAt A xs) (hc : Chg [] W W') : RowP W' 1 IntAt A xs := h.imp hc.size fun g o x hx => hc.cell hx (by simp)
theorem OwnI.rowp {W : World} {base n c : Nat} {A : Option Addr} {xs : List Int} (h : OwnI W base (.slice A n c) xs) (hn : xs.length = n) : RowP W 1 IntAt A xs := by subst hn; exact h.row
def parT (id : Int) (t : Tr) : Option (Tr × Nat) := match t.path id with
  | none => none
  | some p => match p.getLast? with
    | none => none
    | some n => (Tr.at? p.dropLast t).map (fun y => (y, n))
def parV (r : Option (Tr × Nat)) : Value := match r with
  | none => .tuple #[.int .i64 0, .int .i64 0, .bool false]
  | some (y, n) => .tuple #[.int .i64 y.id, .int .i64 n, .bool true]
set_option maxHeartbeats 4000000 in
set_option maxRecDepth 100000 in
theorem parent_any (t : Tr) (A : Option Addr) (c : Nat) (id : Int) (w : World) (hT : TrC (fun b => b < w.heap.size) w t [.int .i64 (Tr.id t), .int .i64 (Tr.kind t), .string (Tr.text t), .slice A (Tr.kids t).length c]) (hn : t.nodes ≤ 100000) : Calls Try.prog 141 #[.agg #[.int .i64 (Tr.id t), .int .i64 (Tr.kind t), .string (Tr.text t), .slice A (Tr.kids t).length c], .int .i64 id] w fun e w' => e = .returned (parV (parT id t)) ∧ Chg [] w w' := by
  obtain ⟨W, hW⟩ : ∃ W, W = w.alloc (.cells #[.int .i64 (Tr.id t), .int .i64 (Tr.kind t), .string (Tr.text t), .slice A (Tr.kids t).length c] 24) := ⟨_, rfl⟩
  have hcW : Chg [] w W := by rw [hW]; exact (by with_reducible repeat (first | exact Chg.refl _ _ | apply Chg.alloc | apply Chg.drew | apply Chg.drewN | (refine Chg.setCell ?_ _ _ (by simp))))
  have b0 : W.heap[w.heap.size]? = some (.cells #[.int .i64 (Tr.id t), .int .i64 (Tr.kind t), .string (Tr.text t), .slice A (Tr.kids t).length c] 24 (0, 0)) := by rw [hW]; exact heap_new _ _ rfl
  have hcall := pathp_any t A c id W ((hT.kept hcW (by simp)).weak (fun b hb _ => Nat.lt_of_lt_of_le hb hcW.size)) hn
  obtain ⟨p0, p1, p2, p3⟩ := blk4 b0
  have HW := Lib.hid (And.intro hW (And.intro hcW (And.intro b0 (And.intro hcall hT))))
  rw [hW] at p0 p1 p2 p3
  clear hW hcW b0 hcall hT
  go_enter Try.func141, Try.ntmps141
  go_wp2_with (skip; fail)
  rw [← HW.out.1]
  clear p0 p1 p2 p3
  refine HW.out.2.2.2.1.mono ?_
  rintro e X ⟨v, rfl, hrow, hX⟩
  have HX := Lib.hid (And.intro hrow (And.intro (HW.out.2.1.trans hX) (hX.at HW.out.2.2.1 (by simp))))
  clear hX
  have hno : (t.path id).getD [] = [] → parT id t = none := fun h => by
    unfold parT
    cases hp : t.path id with
    | none => rfl
    | some p => rw [hp] at h; simp at h; subst h; rfl
  cases hq : ((t.path id).getD []).getLast? with
  | none =>
    have h0 : (t.path id).getD [] = [] := by simpa using hq
    have HP := Lib.hid (hno h0)
    rw [h0] at hrow
    obtain ⟨A1, c1, hv⟩ := hrow.slice
    rw [show (ints []).length = 0 from rfl] at hv
    subst hv
    clear hrow h0 hno hq
    go_wp2_with (skip; fail)
    go_ret3
    exact ⟨by rw [HP.out]; rfl, HX.out.2.1⟩
  | some n =>
    obtain ⟨q, hq2⟩ : ∃ q, (t.path id).getD [] = q ++ [n] := List.getLast?_eq_some_iff.1 hq
    obtain ⟨p, hp⟩ : ∃ p, t.path id = some p := by
      cases hp : t.path id with
      | none => rw [hp] at hq2; simp at hq2
      | some p => exact ⟨p, rfl⟩
    have hpq : p = q ++ [n] := by rw [hp] at hq2; exact hq2
    obtain ⟨x, hx, _⟩ := Tr.path_at id t p hp
    obtain ⟨y, hy⟩ : ∃ y, Tr.at? q t = some y := by
      rw [hpq, at_append] at hx
      cases h : Tr.at? q t with
      | none => rw [h] at hx; cases hx
      | some y => exact ⟨y, rfl⟩
    have hpar : parT id t = some (y, n) := by unfold parT; rw [hp]; subst hpq; simp [hy]
    have hql : q.length ≤ 1000000 := by have := at_len q t y hy; omega
    rw [hq2, ints_snoc] at hrow
    obtain ⟨g2, c2, hv, hle, hmx, hcut⟩ := hrow.cut
    rw [ints_len] at hv hle hcut
    subst hv
    unfold maxLen at hmx
    have HP := Lib.hid (And.intro hpar (And.intro hy (And.intro hcut hrow)))
    have hps : (t.path id).isSome = true := by rw [hp]; rfl
    have HS := Lib.hid hps
    rw [hps]
    clear hno hq hq2 hpq hx hy hpar hcut hrow hp hps
    go_wp2_with (skip; fail)
    refine wp_region_M (fun W => W.rangeAt w.heap.size 0 [.int .i64 (Tr.id t), .int .i64 (Tr.kind t), .string (Tr.text t), .slice A (Tr.kids t).length c]) (fun k => [5, 9, 10].contains k) (fun k => [10].contains k) (by kernel_rfl) ?_
    obtain ⟨Z, hZ⟩ : ∃ Z, Z = X.drew := ⟨_, rfl⟩
    rw [← hZ]
    have hcZ : Chg [] X Z := by rw [hZ]; exact (Chg.refl _ _).drew
    have hS : Z.rangeAt w.heap.size 0 [.int .i64 (Tr.id t), .int .i64 (Tr.kind t), .string (Tr.text t), .slice A (Tr.kids t).length c] := range_all (hcZ.at HX.out.2.2 (by simp))
    have hat : ∀ Z' : World, Chg [] Z Z' → Calls Try.prog 158 #[.agg #[.int .i64 (Tr.id t), .int .i64 (Tr.kind t), .string (Tr.text t), .slice A (Tr.kids t).length c], .slice (some ⟨g2, 0, none⟩) q.length q.length] Z' _ := fun Z' hc => pat_any t y A c q (some ⟨g2, 0, none⟩) q.length Z' (((HW.out.2.2.2.2.kept HX.out.2.1 (by simp)).kept (hcZ.trans hc) (by simp)).weak (fun b hb _ => Nat.lt_of_lt_of_le hb (HX.out.2.1.trans (hcZ.trans hc)).size)) ((HP.out.2.2.1.rowp (ints_len q)).chg (hcZ.trans hc)) HP.out.2.1 hql (by omega)
    have HZ := Lib.hid (And.intro hat (And.intro hS hcZ))
    clear hat hcZ hZ
    have hmin : (0 : Int) ≤ (q.length : Int) := by omega
    have hmax : (q.length : Int) ≤ c2 := by omega
    ((try dsimp only); (try simp only [Act.put, List.setIfInBounds_toArray, List.set_cons_zero, List.set_cons_succ]))
    refine M_semi (i := 0) rfl (by kernel_rfl) (by kernel_rfl) (by kernel_rfl) (by kernel_rfl) (fun _ _ _ h => h) (by rfl) hS (fun W hS => exec_load_mid 24 (.tmp 2) rfl w.heap.size 0 rfl _ _ hS Try.underlying24 rfl szNode) ?_; ((try dsimp only); (try simp only [Act.put, List.setIfInBounds_toArray, List.set_cons_zero, List.set_cons_succ]))
    refine M_pure (i := 1) (v := ?_) rfl (by kernel_rfl) (by kernel_rfl) (by kernel_rfl) (fun _ _ _ h => h) (by rfl) ?hy ?_; (case hy => (intro w; go_simp; with_reducible rfl)); ((try dsimp only); (try simp only [Act.put, List.setIfInBounds_toArray, List.set_cons_zero, List.set_cons_succ]))
    refine M_pure (i := 2) (v := ?_) rfl (by kernel_rfl) (by kernel_rfl) (by kernel_rfl) (fun _ _ _ h => h) (by rfl) ?hy ?_; (case hy => (intro w; go_simp; with_reducible rfl)); ((try dsimp only); (try simp only [Act.put, List.setIfInBounds_toArray, List.set_cons_zero, List.set_cons_succ]))
    refine M_pure (i := 3) (v := ?_) rfl (by kernel_rfl) (by kernel_rfl) (by kernel_rfl) (fun _ _ _ h => h) (by rfl) ?hy ?_; (case hy => (intro w; go_simp; with_reducible rfl)); ((try dsimp only); (try simp only [Act.put, List.setIfInBounds_toArray, List.set_cons_zero, List.set_cons_succ]))
    refine M_pure (i := 4) (v := ?_) rfl (by kernel_rfl) (by kernel_rfl) (by kernel_rfl) (fun _ _ _ h => h) (by rfl) ?hy ?_; (case hy => (intro w; go_simp; with_reducible rfl)); ((try dsimp only); (try simp only [Act.put, List.setIfInBounds_toArray, List.set_cons_zero, List.set_cons_succ]))
    refine M_two (i := 5) (j := 9) rfl rfl (by kernel_rfl) (by rfl) (by rfl) ?_ ?_
    · go_wp2_with fail
      refine (HZ.out.1 Z (Chg.refl _ _)).mono ?_
      rintro e Y ⟨A', c', rfl, hTy, hc⟩
      have HY := Lib.hid (And.intro hTy (And.intro hc ((HX.out.2.1.trans HZ.out.2.2).trans hc)))
      have hS2 : Y.rangeAt w.heap.size 0 [.int .i64 (Tr.id t), .int .i64 (Tr.kind t), .string (Tr.text t), .slice A (Tr.kids t).length c] := hc.range hS (by simp)
      clear hTy hc hS hmin hmax
      go_wp2_with fail
      refine ⟨hS2, ?_⟩
      refine M_pure (i := 6) (v := ?_) rfl (by kernel_rfl) (by kernel_rfl) (by kernel_rfl) (fun _ _ _ h => h) (by rfl) ?hy ?_; (case hy => (intro w; go_simp; with_reducible rfl)); ((try dsimp only); (try simp only [Act.put, List.setIfInBounds_toArray, List.set_cons_zero, List.set_cons_succ]))
      refine M_pure (i := 7) (v := ?_) rfl (by kernel_rfl) (by kernel_rfl) (by kernel_rfl) (fun _ _ _ h => h) (by rfl) ?hy ?_; (case hy => (intro w; go_simp; with_reducible rfl)); ((try dsimp only); (try simp only [Act.put, List.setIfInBounds_toArray, List.set_cons_zero, List.set_cons_succ]))
      refine M_pure (i := 8) (v := ?_) rfl (by kernel_rfl) (by kernel_rfl) (by kernel_rfl) (fun _ _ _ h => h) (by rfl) ?hy ?_; (case hy => (intro w; go_simp; with_reducible rfl)); ((try dsimp only); (try simp only [Act.put, List.setIfInBounds_toArray, List.set_cons_zero, List.set_cons_succ]))
      refine M_eff (i := 9) rfl (by kernel_rfl) (by rfl) ?_
      go_wp2_with fail
      refine ⟨range_all (heap_old (HY.out.2.1.at (HZ.out.2.2.at HX.out.2.2 (by simp)) (by simp)) _), ?_⟩
      clear hS2
      refine M_brk (i := 10) rfl (by kernel_rfl) (by rfl) (by rfl) ?_
      go_wp2_with fail
      ((try dsimp only [EffQ]); (try simp only [Act.put, List.setIfInBounds_toArray, List.set_cons_zero, List.set_cons_succ]))
      refine M_pure (i := 11) (v := ?_) rfl (by kernel_rfl) (by kernel_rfl) (by kernel_rfl) (fun _ _ _ h => h) (by rfl) ?hy ?_; (case hy => (intro w; go_simp; with_reducible rfl)); ((try dsimp only); (try simp only [Act.put, List.setIfInBounds_toArray, List.set_cons_zero, List.set_cons_succ]))
      refine M_done (by kernel_rfl) ?_ _
      obtain ⟨V, hV⟩ : ∃ V, V = Y.alloc (.cells #[.int .i64 (Tr.id y), .int .i64 (Tr.kind y), .string (Tr.text y), .slice A' (Tr.kids y).length c'] 24) := ⟨_, rfl⟩
      have hb : V.heap[Y.heap.size]? = some (.cells #[.int .i64 (Tr.id y), .int .i64 (Tr.kind y), .string (Tr.text y), .slice A' (Tr.kids y).length c'] 24 (0, 0)) := by rw [hV]; exact heap_new _ _ rfl
      have hcV : Chg [] X V := by rw [hV]; exact (HZ.out.2.2.trans HY.out.2.1).trans (by with_reducible repeat (first | exact Chg.refl _ _ | apply Chg.alloc | apply Chg.drew | apply Chg.drewN | (refine Chg.setCell ?_ _ _ (by simp))))
      rw [← hV]
      clear hV
      have hc5 : X.cell? ⟨g2, q.length, none⟩ = some (.int .i64 n) := by
        obtain ⟨g, o, hA, _, hI⟩ := (HP.out.2.2.2.rowp (by simp [ints_len])).at (show q.length < (ints q ++ [(n : Int)]).length by simp [ints_len])
        simp only [Option.some.injEq, Addr.mk.injEq, and_true] at hA
        obtain ⟨rfl, rfl⟩ := hA
        have he : (ints q ++ [(n : Int)])[q.length]'(by simp [ints_len]) = (n : Int) := by rw [List.getElem_append_right (by simp [ints_len])]; simp [ints_len]
        unfold IntAt at hI
        rw [he, Nat.mul_one, Nat.zero_add] at hI
        exact hI
      go_wp2_with (skip; fail)
      refine wp_region_M (fun _ => True) (fun k => [].contains k) (fun k => [].contains k) (by kernel_rfl) ?_
      obtain ⟨V2, hV2⟩ : ∃ V2, V2 = V.drew := ⟨_, rfl⟩
      rw [← hV2]
      have hd : Chg [] V V2 := by rw [hV2]; exact (Chg.refl _ _).drew
      obtain ⟨v0, v1, v2, v3⟩ := blk4 (hd.at hb (by simp))
      have c5 := (hcV.trans hd).cell hc5 (by simp)
      have hql0 : (0 : Int) ≤ (q.length : Int) := by omega
      have hqln : (q.length : Int) < (q.length : Int) + 1 := by omega
      clear hV2 hb hc5
      ((try dsimp only); (try simp only [Act.put, List.setIfInBounds_toArray, List.set_cons_zero, List.set_cons_succ]))
      refine M_pure (i := 0) (v := ?_) rfl (by kernel_rfl) (by kernel_rfl) (by kernel_rfl) (fun _ _ _ h => h) (by rfl) ?hy ?_; (case hy => (intro w; go_simp; with_reducible rfl)); ((try dsimp only); (try simp only [Act.put, List.setIfInBounds_toArray, List.set_cons_zero, List.set_cons_succ]))
      refine M_take (i := 1) (v := ?_) rfl (by kernel_rfl) (by kernel_rfl) (by kernel_rfl) (by kernel_rfl) (fun _ _ _ h => h) (by rfl) ?hy ?_; (case hy => (go_simp; with_reducible rfl)); ((try dsimp only); (try simp only [Act.put, List.setIfInBounds_toArray, List.set_cons_zero, List.set_cons_succ]))
      refine M_pure (i := 2) (v := ?_) rfl (by kernel_rfl) (by kernel_rfl) (by kernel_rfl) (fun _ _ _ h => h) (by rfl) ?hy ?_; (case hy => (intro w; go_simp; with_reducible rfl)); ((try dsimp only); (try simp only [Act.put, List.setIfInBounds_toArray, List.set_cons_zero, List.set_cons_succ]))
      refine M_pure (i := 3) (v := ?_) rfl (by kernel_rfl) (by kernel_rfl) (by kernel_rfl) (fun _ _ _ h => h) (by rfl) ?hy ?_; (case hy => (intro w; go_simp; with_reducible rfl)); ((try dsimp only); (try simp only [Act.put, List.setIfInBounds_toArray, List.set_cons_zero, List.set_cons_succ]))
      refine M_pure (i := 4) (v := ?_) rfl (by kernel_rfl) (by kernel_rfl) (by kernel_rfl) (fun _ _ _ h => h) (by rfl) ?hy ?_; (case hy => (intro w; go_simp; with_reducible rfl)); ((try dsimp only); (try simp only [Act.put, List.setIfInBounds_toArray, List.set_cons_zero, List.set_cons_succ]))
      refine M_take (i := 5) (v := ?_) rfl (by kernel_rfl) (by kernel_rfl) (by kernel_rfl) (by kernel_rfl) (fun _ _ _ h => h) (by rfl) ?hy ?_; (case hy => (go_simp; with_reducible rfl)); ((try dsimp only); (try simp only [Act.put, List.setIfInBounds_toArray, List.set_cons_zero, List.set_cons_succ]))
      refine M_pure (i := 6) (v := ?_) rfl (by kernel_rfl) (by kernel_rfl) (by kernel_rfl) (fun _ _ _ h => h) (by rfl) ?hy ?_; (case hy => (intro w; go_simp; with_reducible rfl)); ((try dsimp only); (try simp only [Act.put, List.setIfInBounds_toArray, List.set_cons_zero, List.set_cons_succ]))
      refine M_pure (i := 7) (v := ?_) rfl (by kernel_rfl) (by kernel_rfl) (by kernel_rfl) (fun _ _ _ h => h) (by rfl) ?hy ?_; (case hy => (intro w; go_simp; with_reducible rfl)); ((try dsimp only); (try simp only [Act.put, List.setIfInBounds_toArray, List.set_cons_zero, List.set_cons_succ]))
      refine M_pure (i := 8) (v := ?_) rfl (by kernel_rfl) (by kernel_rfl) (by kernel_rfl) (fun _ _ _ h => h) (by rfl) ?hy ?_; (case hy => (intro w; go_simp; with_reducible rfl)); ((try dsimp only); (try simp only [Act.put, List.setIfInBounds_toArray, List.set_cons_zero, List.set_cons_succ]))
      refine M_pure (i := 9) (v := ?_) rfl (by kernel_rfl) (by kernel_rfl) (by kernel_rfl) (fun _ _ _ h => h) (by rfl) ?hy ?_; (case hy => (intro w; go_simp; with_reducible rfl)); ((try dsimp only); (try simp only [Act.put, List.setIfInBounds_toArray, List.set_cons_zero, List.set_cons_succ]))
      refine M_done (by kernel_rfl) ?_ _
      go_wp2_with (skip; fail)
      go_ret3
      exact ⟨by rw [HP.out.1]; rfl, HX.out.2.1.trans (hcV.trans hd)⟩
    · go_wp2_with fail
      have hcZ1 : Chg [] Z (Z.alloc (.cells #[.int .i64 0, .int .i64 0, .string ⟨#[]⟩, .slice none 0 0] 24)) := (by with_reducible repeat (first | exact Chg.refl _ _ | apply Chg.alloc | apply Chg.drew | apply Chg.drewN | (refine Chg.setCell ?_ _ _ (by simp))))
      obtain ⟨Z1, hZ1⟩ : ∃ Z1, Z1 = Z.alloc (.cells #[.int .i64 0, .int .i64 0, .string ⟨#[]⟩, .slice none 0 0] 24) := ⟨_, rfl⟩
      have hbz : Z1.heap[Z.heap.size]? = some (.cells #[.int .i64 0, .int .i64 0, .string ⟨#[]⟩, .slice none 0 0] 24 (0, 0)) := by rw [hZ1]; exact heap_new _ _ rfl
      rw [← hZ1] at hcZ1 ⊢
      clear hZ1
      have hS2 : Z1.rangeAt w.heap.size 0 [.int .i64 (Tr.id t), .int .i64 (Tr.kind t), .string (Tr.text t), .slice A (Tr.kids t).length c] := hcZ1.range hS (by simp)
      clear hS
      refine ⟨hS2, ?_⟩
      refine M_eff (i := 5) rfl (by kernel_rfl) (by rfl) ?_
      go_wp2_with fail
      refine (HZ.out.1 Z1 hcZ1).mono ?_
      rintro e Y ⟨A', c', rfl, hTy, hc⟩
      have hS3 : Y.rangeAt w.heap.size 0 [.int .i64 (Tr.id t), .int .i64 (Tr.kind t), .string (Tr.text t), .slice A (Tr.kids t).length c] := hc.range hS2 (by simp)
      have hby := hc.at hbz (by simp)
      obtain ⟨z0, z1, z2, z3⟩ := blk4 hby
      have f0 := blkF hby 0
      have f1 := blkF hby 1
      have f2 := blkF hby 2
      have f3 := blkF hby 3
      have HY := Lib.hid (And.intro hTy (And.intro (hcZ1.trans hc) hby))
      clear hTy hc hS2 hmin hmax hby hbz hcZ1
      go_wp2_with fail
      refine ⟨hS3, ?_⟩
      refine M_pure (i := 6) (v := ?_) rfl (by kernel_rfl) (by kernel_rfl) (by kernel_rfl) (fun _ _ _ h => h) (by rfl) ?hy ?_; (case hy => (intro w; go_simp; with_reducible rfl)); ((try dsimp only); (try simp only [Act.put, List.setIfInBounds_toArray, List.set_cons_zero, List.set_cons_succ]))
      refine M_pure (i := 7) (v := ?_) rfl (by kernel_rfl) (by kernel_rfl) (by kernel_rfl) (fun _ _ _ h => h) (by rfl) ?hy ?_; (case hy => (intro w; go_simp; with_reducible rfl)); ((try dsimp only); (try simp only [Act.put, List.setIfInBounds_toArray, List.set_cons_zero, List.set_cons_succ]))
      refine M_pure (i := 8) (v := ?_) rfl (by kernel_rfl) (by kernel_rfl) (by kernel_rfl) (fun _ _ _ h => h) (by rfl) ?hy ?_; (case hy => (intro w; go_simp; with_reducible rfl)); ((try dsimp only); (try simp only [Act.put, List.setIfInBounds_toArray, List.set_cons_zero, List.set_cons_succ]))
      clear hS3
      refine M_brk (i := 10) rfl (by kernel_rfl) (by rfl) (by rfl) ?_
      go_wp2_with fail
      ((try dsimp only [EffQ]); (try simp only [Act.put, List.setIfInBounds_toArray, List.set_cons_zero, List.set_cons_succ]))
      refine M_pure (i := 11) (v := ?_) rfl (by kernel_rfl) (by kernel_rfl) (by kernel_rfl) (fun _ _ _ h => h) (by rfl) ?hy ?_; (case hy => (intro w; go_simp; with_reducible rfl)); ((try dsimp only); (try simp only [Act.put, List.setIfInBounds_toArray, List.set_cons_zero, List.set_cons_succ]))
      refine M_done (by kernel_rfl) ?_ _
      obtain ⟨V, hV⟩ : ∃ V, V = (((Y.setCell ⟨Z.heap.size, 0, none⟩ (.int .i64 y.id)).setCell ⟨Z.heap.size, 1, none⟩ (.int .i64 y.kind)).setCell ⟨Z.heap.size, 2, none⟩ (.string y.text)).setCell ⟨Z.heap.size, 3, none⟩ (.slice A' y.kids.length c') := ⟨_, rfl⟩
      have hb : V.heap[Z.heap.size]? = some (.cells #[.int .i64 (Tr.id y), .int .i64 (Tr.kind y), .string (Tr.text y), .slice A' (Tr.kids y).length c'] 24 (0, 0)) := by rw [hV]; exact set4 HY.out.2.2
      have hcV : Chg [] X V := by rw [hV]; exact (HZ.out.2.2.trans HY.out.2.1).andThen (chg4 _ _ _ _ _ _) (by have := HZ.out.2.2.size; simp; omega)
      rw [← hV]
      clear hV
      have hc5 : X.cell? ⟨g2, q.length, none⟩ = some (.int .i64 n) := by
        obtain ⟨g, o, hA, _, hI⟩ := (HP.out.2.2.2.rowp (by simp [ints_len])).at (show q.length < (ints q ++ [(n : Int)]).length by simp [ints_len])
        simp only [Option.some.injEq, Addr.mk.injEq, and_true] at hA
        obtain ⟨rfl, rfl⟩ := hA
        have he : (ints q ++ [(n : Int)])[q.length]'(by simp [ints_len]) = (n : Int) := by rw [List.getElem_append_right (by simp [ints_len])]; simp [ints_len]
        unfold IntAt at hI
        rw [he, Nat.mul_one, Nat.zero_add] at hI
        exact hI
      go_wp2_with (skip; fail)
      refine wp_region_M (fun _ => True) (fun k => [].contains k) (fun k => [].contains k) (by kernel_rfl) ?_
      obtain ⟨V2, hV2⟩ : ∃ V2, V2 = V.drew := ⟨_, rfl⟩
      rw [← hV2]
      have hd : Chg [] V V2 := by rw [hV2]; exact (Chg.refl _ _).drew
      obtain ⟨v0, v1, v2, v3⟩ := blk4 (hd.at hb (by simp))
      have c5 := (hcV.trans hd).cell hc5 (by simp)
      have hql0 : (0 : Int) ≤ (q.length : Int) := by omega
      have hqln : (q.length : Int) < (q.length : Int) + 1 := by omega
      clear hV2 hb hc5
      ((try dsimp only); (try simp only [Act.put, List.setIfInBounds_toArray, List.set_cons_zero, List.set_cons_succ]))
      refine M_pure (i := 0) (v := ?_) rfl (by kernel_rfl) (by kernel_rfl) (by kernel_rfl) (fun _ _ _ h => h) (by rfl) ?hy ?_; (case hy => (intro w; go_simp; with_reducible rfl)); ((try dsimp only); (try simp only [Act.put, List.setIfInBounds_toArray, List.set_cons_zero, List.set_cons_succ]))
      refine M_take (i := 1) (v := ?_) rfl (by kernel_rfl) (by kernel_rfl) (by kernel_rfl) (by kernel_rfl) (fun _ _ _ h => h) (by rfl) ?hy ?_; (case hy => (go_simp; with_reducible rfl)); ((try dsimp only); (try simp only [Act.put, List.setIfInBounds_toArray, List.set_cons_zero, List.set_cons_succ]))
      refine M_pure (i := 2) (v := ?_) rfl (by kernel_rfl) (by kernel_rfl) (by kernel_rfl) (fun _ _ _ h => h) (by rfl) ?hy ?_; (case hy => (intro w; go_simp; with_reducible rfl)); ((try dsimp only); (try simp only [Act.put, List.setIfInBounds_toArray, List.set_cons_zero, List.set_cons_succ]))
      refine M_pure (i := 3) (v := ?_) rfl (by kernel_rfl) (by kernel_rfl) (by kernel_rfl) (fun _ _ _ h => h) (by rfl) ?hy ?_; (case hy => (intro w; go_simp; with_reducible rfl)); ((try dsimp only); (try simp only [Act.put, List.setIfInBounds_toArray, List.set_cons_zero, List.set_cons_succ]))
      refine M_pure (i := 4) (v := ?_) rfl (by kernel_rfl) (by kernel_rfl) (by kernel_rfl) (fun _ _ _ h => h) (by rfl) ?hy ?_; (case hy => (intro w; go_simp; with_reducible rfl)); ((try dsimp only); (try simp only [Act.put, List.setIfInBounds_toArray, List.set_cons_zero, List.set_cons_succ]))
      refine M_take (i := 5) (v := ?_) rfl (by kernel_rfl) (by kernel_rfl) (by kernel_rfl) (by kernel_rfl) (fun _ _ _ h => h) (by rfl) ?hy ?_; (case hy => (go_simp; with_reducible rfl)); ((try dsimp only); (try simp only [Act.put, List.setIfInBounds_toArray, List.set_cons_zero, List.set_cons_succ]))
      refine M_pure (i := 6) (v := ?_) rfl (by kernel_rfl) (by kernel_rfl) (by kernel_rfl) (fun _ _ _ h => h) (by rfl) ?hy ?_; (case hy => (intro w; go_simp; with_reducible rfl)); ((try dsimp only); (try simp only [Act.put, List.setIfInBounds_toArray, List.set_cons_zero, List.set_cons_succ]))
      refine M_pure (i := 7) (v := ?_) rfl (by kernel_rfl) (by kernel_rfl) (by kernel_rfl) (fun _ _ _ h => h) (by rfl) ?hy ?_; (case hy => (intro w; go_simp; with_reducible rfl)); ((try dsimp only); (try simp only [Act.put, List.setIfInBounds_toArray, List.set_cons_zero, List.set_cons_succ]))
      refine M_pure (i := 8) (v := ?_) rfl (by kernel_rfl) (by kernel_rfl) (by kernel_rfl) (fun _ _ _ h => h) (by rfl) ?hy ?_; (case hy => (intro w; go_simp; with_reducible rfl)); ((try dsimp only); (try simp only [Act.put, List.setIfInBounds_toArray, List.set_cons_zero, List.set_cons_succ]))
      refine M_pure (i := 9) (v := ?_) rfl (by kernel_rfl) (by kernel_rfl) (by kernel_rfl) (fun _ _ _ h => h) (by rfl) ?hy ?_; (case hy => (intro w; go_simp; with_reducible rfl)); ((try dsimp only); (try simp only [Act.put, List.setIfInBounds_toArray, List.set_cons_zero, List.set_cons_succ]))
      refine M_done (by kernel_rfl) ?_ _
      go_wp2_with (skip; fail)
      go_ret3
      exact ⟨by rw [HP.out.1]; rfl, HX.out.2.1.trans (hcV.trans hd)⟩
end Go.Proofs.Ytofjocjljbkjgaa
namespace Go.Proofs.Ytofjocjljbkjgaa
open Go.RowKit
def zeroT : Tr := ⟨0, 0, ⟨#[]⟩, []⟩
def parI (r : Option (Tr × Nat)) : Int × Int := match r with
  | none => (0, 0)
  | some (y, n) => (y.id, n)
theorem FindV.any {r : Option Tr} {w : World} {e : Ending} {w' : World} (h : FindV r w e w') : ∃ (b : Bool) (A : Option Addr) (c : Nat), e = .returned (.tuple #[.agg #[.int .i64 (Tr.id (r.getD zeroT)), .int .i64 (Tr.kind (r.getD zeroT)), .string (Tr.text (r.getD zeroT)), .slice A (Tr.kids (r.getD zeroT)).length c], .bool b]) ∧ TrV w' (r.getD zeroT) [.int .i64 (Tr.id (r.getD zeroT)), .int .i64 (Tr.kind (r.getD zeroT)), .string (Tr.text (r.getD zeroT)), .slice A (Tr.kids (r.getD zeroT)).length c] (fun g => w.heap.size ≤ g ∧ g < w'.heap.size) ∧ Chg [] w w' := by
  unfold FindV at h
  cases r with
  | none => exact ⟨false, none, 0, h.1, .leaf zeroT none 0 _ rfl (fun _ => rfl) (by omega) (by decide), h.2⟩
  | some x => obtain ⟨A, c, h1, h2, h3⟩ := h; exact ⟨true, A, c, h1, h2, h3⟩
set_option maxHeartbeats 4000000 in
set_option maxRecDepth 100000 in
theorem where_any (t : Tr) (A : Option Addr) (c : Nat) (id : Int) (w : World) (hT : TrC (fun b => b < w.heap.size) w t [.int .i64 (Tr.id t), .int .i64 (Tr.kind t), .string (Tr.text t), .slice A (Tr.kids t).length c]) (hn : t.nodes ≤ 100000) : Calls Try.prog 139 #[.agg #[.int .i64 (Tr.id t), .int .i64 (Tr.kind t), .string (Tr.text t), .slice A (Tr.kids t).length c], .int .i64 id] w fun e w' =>
    ∃ A' c', e = .returned (.tuple #[.agg #[.int .i64 (Tr.id ((t.subT id).getD zeroT)), .int .i64 (Tr.kind ((t.subT id).getD zeroT)), .string (Tr.text ((t.subT id).getD zeroT)), .slice A' (Tr.kids ((t.subT id).getD zeroT)).length c'], .int .i64 (parI (parT id t)).1, .int .i64 (parI (parT id t)).2]) ∧ TrV w' ((t.subT id).getD zeroT) [.int .i64 (Tr.id ((t.subT id).getD zeroT)), .int .i64 (Tr.kind ((t.subT id).getD zeroT)), .string (Tr.text ((t.subT id).getD zeroT)), .slice A' (Tr.kids ((t.subT id).getD zeroT)).length c'] (fun g => w.heap.size ≤ g ∧ g < w'.heap.size) ∧ Chg [] w w' := by
  obtain ⟨x, hx⟩ : ∃ x, x = (t.subT id).getD zeroT := ⟨_, rfl⟩
  rw [← hx]
  obtain ⟨W, hW⟩ : ∃ W, W = (w.alloc (.cells #[.int .i64 (Tr.id t), .int .i64 (Tr.kind t), .string (Tr.text t), .slice A (Tr.kids t).length c] 24)).alloc (.cells #[.int .i64 0, .int .i64 0, .string ⟨#[]⟩, .slice none 0 0] 24) := ⟨_, rfl⟩
  have hcW : Chg [] w W := by rw [hW]; exact (by with_reducible repeat (first | exact Chg.refl _ _ | apply Chg.alloc | apply Chg.drew | apply Chg.drewN | (refine Chg.setCell ?_ _ _ (by simp))))
  have b0 : W.heap[w.heap.size]? = some (.cells #[.int .i64 (Tr.id t), .int .i64 (Tr.kind t), .string (Tr.text t), .slice A (Tr.kids t).length c] 24 (0, 0)) := by rw [hW]; exact heap_old (heap_new _ _ rfl) _
  have b1 : W.heap[w.heap.size + 1]? = some (.cells #[.int .i64 0, .int .i64 0, .string ⟨#[]⟩, .slice none 0 0] 24 (0, 0)) := by rw [hW]; exact heap_new _ _ (by simp)
  have hws : W.heap.size = w.heap.size + 2 := by rw [hW]; simp
  have hT1 : TrC (fun b => b < W.heap.size) W t [.int .i64 (Tr.id t), .int .i64 (Tr.kind t), .string (Tr.text t), .slice A (Tr.kids t).length c] := (hT.kept hcW (by simp)).weak (fun b hb _ => Nat.lt_of_lt_of_le hb hcW.size)
  have hf := tfind_any t A c id W hT1 hn
  obtain ⟨p0, p1, p2, p3⟩ := blk4 b0
  have HW := Lib.hid (And.intro hW (And.intro hcW (And.intro b0 (And.intro b1 (And.intro hf (And.intro hT hx))))))
  rw [hW] at p0 p1 p2 p3
  clear hW hcW b0 b1 hf hT hT1 hx
  go_enter Try.func139, Try.ntmps139
  go_wp2_with fail
  rw [← HW.out.1]
  clear p0 p1 p2 p3
  refine HW.out.2.2.2.2.1.mono ?_
  rintro e X hF
  obtain ⟨b, A', c', rfl, hV, hX⟩ := hF.any
  rw [← HW.out.2.2.2.2.2.2] at hV ⊢
  clear hF
  have x1 := hX.at HW.out.2.2.2.1 (by simp)
  obtain ⟨q0, q1, q2, q3⟩ := blk4 x1
  have f0 := blkF x1 0
  have f1 := blkF x1 1
  have f2 := blkF x1 2
  have f3 := blkF x1 3
  obtain ⟨Y, hY⟩ : ∃ Y, Y = (((X.setCell ⟨w.heap.size + 1, 0, none⟩ (.int .i64 x.id)).setCell ⟨w.heap.size + 1, 1, none⟩ (.int .i64 x.kind)).setCell ⟨w.heap.size + 1, 2, none⟩ (.string x.text)).setCell ⟨w.heap.size + 1, 3, none⟩ (.slice A' x.kids.length c') := ⟨_, rfl⟩
  have hXY : Chg [w.heap.size + 1] X Y := by rw [hY]; exact chg4 _ _ _ _ _ _
  have hr := set4 (v0 := .int .i64 x.id) (v1 := .int .i64 x.kind) (v2 := .string x.text) (v3 := .slice A' x.kids.length c') x1
  rw [← hY] at hr
  have hwY : Chg [] w Y := (HW.out.2.1.trans hX).andThen hXY (by simp)
  have hVY := hV.kept hXY (fun g hg => by simp; omega)
  have hpc := parent_any t A c id Y ((HW.out.2.2.2.2.2.1.kept hwY (by simp)).weak (fun b hb _ => Nat.lt_of_lt_of_le hb hwY.size)) hn
  obtain ⟨p0, p1, p2, p3⟩ := blk4 (hXY.at (hX.at HW.out.2.2.1 (by simp)) (by simp))
  have hlx := lt_of_block x1
  have HX := Lib.hid (And.intro hY (And.intro hwY (And.intro hr (And.intro hVY (And.intro hpc hXY.size)))))
  rw [hY] at p0 p1 p2 p3
  clear hX x1 hY hXY hr hwY hVY hpc hV
  go_wp2_with fail
  rw [← HX.out.1]
  clear p0 p1 p2 p3 q0 q1 q2 q3 f0 f1 f2 f3
  refine HX.out.2.2.2.2.1.mono ?_
  rintro e Z ⟨rfl, hZ⟩
  have z1 := hZ.at HX.out.2.2.1 (by simp)
  obtain ⟨q0, q1, q2, q3⟩ := blk4 z1
  have f0 := blkF z1 0
  have f1 := blkF z1 1
  have f2 := blkF z1 2
  have f3 := blkF z1 3
  obtain ⟨i, j, b, hv, hi, hj⟩ : ∃ (i j : Int) (b2 : Bool), parV (parT id t) = .tuple #[.int .i64 i, .int .i64 j, .bool b2] ∧ (parI (parT id t)).1 = i ∧ (parI (parT id t)).2 = j := by
    cases parT id t with
    | none => exact ⟨0, 0, false, rfl, rfl, rfl⟩
    | some y => exact ⟨_, _, true, rfl, rfl, rfl⟩
  rw [hv]
  have HZ := Lib.hid (And.intro hZ z1)
  have HJ := Lib.hid (And.intro hi hj)
  clear hZ z1 hv hi hj
  go_wp2_with (skip; fail)
  refine bodyPost_ret (v := .tuple #[.agg #[.int .i64 (Tr.id x), .int .i64 (Tr.kind x), .string (Tr.text x), .slice A' (Tr.kids x).length c'], .int .i64 i, .int .i64 j]) (results_row_tmp2 rfl _ _ (w.heap.size + 1) _ _ _ _ _ _ rfl rfl rfl (set4 HZ.out.2) Try.underlying24 rfl szNode) rfl ?_
  have hc4 := chg4 Z (w.heap.size + 1) (.int .i64 x.id) (.int .i64 x.kind) (.string x.text) (.slice A' x.kids.length c')
  have hs4 := hc4.size
  have hsz := HZ.out.1.size
  rw [HJ.out.1, HJ.out.2]
  exact ⟨A', c', rfl, ((HX.out.2.2.2.1.kept HZ.out.1 (by simp)).kept hc4 (fun g hg => by simp; omega)).weak (fun g hg => ⟨by omega, by have := HX.out.2.2.2.2.2; omega⟩), (HX.out.2.1.trans HZ.out.1).andThen hc4 (by simp)⟩
end Go.Proofs.Ytofjocjljbkjgaa
namespace Go.Proofs.Ytofjocjljbkjgaa
open Go.RowKit
theorem szST9 : (Try.prog.info? 27).map (·.size) = some 9 := by kernel_rfl
def invT (t : Tr) (s : Stp) : Stp :=
  if s.op = 1 then ⟨2, s.sub.id, 0, 0, ⟨#[]⟩, zeroT⟩
  else if s.op = 2 then ⟨1, 0, (parI (parT s.id t)).1, (parI (parT s.id t)).2, ⟨#[]⟩, (t.subT s.id).getD zeroT⟩
  else if s.op = 3 then ⟨3, s.id, (parI (parT s.id t)).1, (parI (parT s.id t)).2, ⟨#[]⟩, zeroT⟩
  else ⟨4, s.id, 0, 0, ((t.subT s.id).getD zeroT).text, zeroT⟩
def InvV (s : Stp) (w : World) (e : Ending) (w' : World) : Prop := ∃ A c, e = .returned (.agg #[.int .i8 (Stp.op s), .int .i64 (Stp.id s), .int .i64 (Stp.par s), .int .i64 (Stp.place s), .string (Stp.text s), .int .i64 (Stp.sub s).id, .int .i64 (Stp.sub s).kind, .string (Stp.sub s).text, .slice A (Stp.sub s).kids.length c]) ∧ TrC (fun b => w.heap.size ≤ b ∧ b < w'.heap.size) w' s.sub [.int .i64 (Tr.id s.sub), .int .i64 (Tr.kind s.sub), .string (Tr.text s.sub), .slice A (Tr.kids s.sub).length c] ∧ Chg [] w w'
theorem zeroC (ok : Nat → Prop) (w : World) : TrC ok w zeroT [.int .i64 (Tr.id zeroT), .int .i64 (Tr.kind zeroT), .string (Tr.text zeroT), .slice none (Tr.kids zeroT).length 0] := .none zeroT none 0 rfl (by omega) (by decide)
set_option maxHeartbeats 4000000 in
set_option maxRecDepth 100000 in
theorem inv2_any (t : Tr) (A : Option Addr) (c : Nat) (s : Stp) (As : Option Addr) (cs : Nat) (w : World) : Calls Try.prog 142 #[.agg #[.int .i64 (Tr.id t), .int .i64 (Tr.kind t), .string (Tr.text t), .slice A (Tr.kids t).length c], .agg #[.int .i8 (Stp.op s), .int .i64 (Stp.id s), .int .i64 (Stp.par s), .int .i64 (Stp.place s), .string (Stp.text s), .int .i64 (Stp.sub s).id, .int .i64 (Stp.sub s).kind, .string (Stp.sub s).text, .slice As (Stp.sub s).kids.length cs]] w (InvV ⟨2, s.sub.id, 0, 0, ⟨#[]⟩, zeroT⟩ w) := by
  have b1 : (((w.alloc (.cells #[.int .i64 (Tr.id t), .int .i64 (Tr.kind t), .string (Tr.text t), .slice A (Tr.kids t).length c] 24)).alloc (.cells #[.int .i8 (Stp.op s), .int .i64 (Stp.id s), .int .i64 (Stp.par s), .int .i64 (Stp.place s), .string (Stp.text s), .int .i64 (Stp.sub s).id, .int .i64 (Stp.sub s).kind, .string (Stp.sub s).text, .slice As (Stp.sub s).kids.length cs] 27)).alloc (.cells #[.int .i8 0, .int .i64 0, .int .i64 0, .int .i64 0, .string ⟨#[]⟩, .int .i64 0, .int .i64 0, .string ⟨#[]⟩, .slice none 0 0] 27)).heap[w.heap.size + 1]? = some (.cells #[.int .i8 (Stp.op s), .int .i64 (Stp.id s), .int .i64 (Stp.par s), .int .i64 (Stp.place s), .string (Stp.text s), .int .i64 (Stp.sub s).id, .int .i64 (Stp.sub s).kind, .string (Stp.sub s).text, .slice As (Stp.sub s).kids.length cs] 27 (0, 0)) := heap_old (heap_new _ _ (by simp)) _
  have b2 : (((w.alloc (.cells #[.int .i64 (Tr.id t), .int .i64 (Tr.kind t), .string (Tr.text t), .slice A (Tr.kids t).length c] 24)).alloc (.cells #[.int .i8 (Stp.op s), .int .i64 (Stp.id s), .int .i64 (Stp.par s), .int .i64 (Stp.place s), .string (Stp.text s), .int .i64 (Stp.sub s).id, .int .i64 (Stp.sub s).kind, .string (Stp.sub s).text, .slice As (Stp.sub s).kids.length cs] 27)).alloc (.cells #[.int .i8 0, .int .i64 0, .int .i64 0, .int .i64 0, .string ⟨#[]⟩, .int .i64 0, .int .i64 0, .string ⟨#[]⟩, .slice none 0 0] 27)).heap[w.heap.size + 1 + 1]? = some (.cells #[.int .i8 0, .int .i64 0, .int .i64 0, .int .i64 0, .string ⟨#[]⟩, .int .i64 0, .int .i64 0, .string ⟨#[]⟩, .slice none 0 0] 27 (0, 0)) := heap_new _ _ (by simp)
  obtain ⟨q0, q1, q2, q3, q4, q5, q6, q7, q8⟩ := cells9 b1
  have HB := Lib.hid b2
  clear b1 b2
  go_enter Try.func142, Try.ntmps142
  go_wp2_with (skip; fail)
  refine bodyPost_ret (v := .agg #[.int .i8 2, .int .i64 s.sub.id, .int .i64 0, .int .i64 0, .string ⟨#[]⟩, .int .i64 0, .int .i64 0, .string ⟨#[]⟩, .slice none 0 0]) (results_cell_row rfl _ _ (w.heap.size + 1 + 1) _ _ _ _ rfl (heap_new _ _ (by simp)) Try.underlying27 rfl szST9) rfl ?_
  exact ⟨none, 0, rfl, zeroC _ _, (by with_reducible repeat (first | exact Chg.refl _ _ | apply Chg.alloc | apply Chg.drew | apply Chg.drewN | (refine Chg.setCell ?_ _ _ (by simp))))⟩
structure InvW (w : World) (t : Tr) (A : Option Addr) (c : Nat) (s : Stp) (As : Option Addr) (cs : Nat) (W : World) : Prop where
  b0 : W.heap[w.heap.size]? = some (.cells #[.int .i64 (Tr.id t), .int .i64 (Tr.kind t), .string (Tr.text t), .slice A (Tr.kids t).length c] 24 (0, 0))
  b1 : W.heap[w.heap.size + 1]? = some (.cells #[.int .i8 (Stp.op s), .int .i64 (Stp.id s), .int .i64 (Stp.par s), .int .i64 (Stp.place s), .string (Stp.text s), .int .i64 (Stp.sub s).id, .int .i64 (Stp.sub s).kind, .string (Stp.sub s).text, .slice As (Stp.sub s).kids.length cs] 27 (0, 0))
  b2 : W.heap[w.heap.size + 2]? = some (.cells #[.int .i8 0, .int .i64 0, .int .i64 0, .int .i64 0, .string ⟨#[]⟩, .int .i64 0, .int .i64 0, .string ⟨#[]⟩, .slice none 0 0] 27 (0, 0))
  chg : Chg [] w W
theorem InvW.kept {w : World} {t : Tr} {A : Option Addr} {c : Nat} {s : Stp} {As : Option Addr} {cs : Nat} {W W' : World} (h : InvW w t A c s As cs W) (hc : Chg [] W W') : InvW w t A c s As cs W' :=
  ⟨hc.at h.b0 (by simp), hc.at h.b1 (by simp), hc.at h.b2 (by simp), h.chg.trans hc⟩
def WBox (bx : Nat) (w : World) : Prop := w.heap[bx]? = some (.cells #[.func (.func 139) #[] #[]] 190 (0, 0))
theorem inv_start (t : Tr) (A : Option Addr) (c : Nat) (s : Stp) (As : Option Addr) (cs : Nat) (w : World) : InvW w t A c s As cs (((w.alloc (.cells #[.int .i64 (Tr.id t), .int .i64 (Tr.kind t), .string (Tr.text t), .slice A (Tr.kids t).length c] 24)).alloc (.cells #[.int .i8 (Stp.op s), .int .i64 (Stp.id s), .int .i64 (Stp.par s), .int .i64 (Stp.place s), .string (Stp.text s), .int .i64 (Stp.sub s).id, .int .i64 (Stp.sub s).kind, .string (Stp.sub s).text, .slice As (Stp.sub s).kids.length cs] 27)).alloc (.cells #[.int .i8 0, .int .i64 0, .int .i64 0, .int .i64 0, .string ⟨#[]⟩, .int .i64 0, .int .i64 0, .string ⟨#[]⟩, .slice none 0 0] 27)) :=
  ⟨heap_old (heap_old (heap_new _ _ rfl) _) _, heap_old (heap_new _ _ (by simp)) _, heap_new _ _ (by simp), (by with_reducible repeat (first | exact Chg.refl _ _ | apply Chg.alloc | apply Chg.drew | apply Chg.drewN | (refine Chg.setCell ?_ _ _ (by simp))))⟩
set_option maxHeartbeats 4000000 in
set_option maxRecDepth 100000 in
theorem inv3_any (t : Tr) (A : Option Addr) (c : Nat) (s : Stp) (As : Option Addr) (cs bx : Nat) (w : World) (hbx : WBox bx w) (hT : TrC (fun b => b < w.heap.size) w t [.int .i64 (Tr.id t), .int .i64 (Tr.kind t), .string (Tr.text t), .slice A (Tr.kids t).length c]) (hn : t.nodes ≤ 100000) : Calls Try.prog 143 #[.agg #[.int .i64 (Tr.id t), .int .i64 (Tr.kind t), .string (Tr.text t), .slice A (Tr.kids t).length c], .agg #[.int .i8 (Stp.op s), .int .i64 (Stp.id s), .int .i64 (Stp.par s), .int .i64 (Stp.place s), .string (Stp.text s), .int .i64 (Stp.sub s).id, .int .i64 (Stp.sub s).kind, .string (Stp.sub s).text, .slice As (Stp.sub s).kids.length cs], .pointer (some ⟨bx, 0, none⟩)] w (InvV ⟨1, 0, (parI (parT s.id t)).1, (parI (parT s.id t)).2, ⟨#[]⟩, (t.subT s.id).getD zeroT⟩ w) := by
  obtain ⟨x, hx⟩ : ∃ x, x = (t.subT s.id).getD zeroT := ⟨_, rfl⟩
  obtain ⟨i, hi⟩ : ∃ i, i = (parI (parT s.id t)).1 := ⟨_, rfl⟩
  obtain ⟨j, hj⟩ : ∃ j, j = (parI (parT s.id t)).2 := ⟨_, rfl⟩
  rw [← hx, ← hi, ← hj]
  have hst := inv_start t A c s As cs w
  obtain ⟨W, hW⟩ : ∃ W, W = ((w.alloc (.cells #[.int .i64 (Tr.id t), .int .i64 (Tr.kind t), .string (Tr.text t), .slice A (Tr.kids t).length c] 24)).alloc (.cells #[.int .i8 (Stp.op s), .int .i64 (Stp.id s), .int .i64 (Stp.par s), .int .i64 (Stp.place s), .string (Stp.text s), .int .i64 (Stp.sub s).id, .int .i64 (Stp.sub s).kind, .string (Stp.sub s).text, .slice As (Stp.sub s).kids.length cs] 27)).alloc (.cells #[.int .i8 0, .int .i64 0, .int .i64 0, .int .i64 0, .string ⟨#[]⟩, .int .i64 0, .int .i64 0, .string ⟨#[]⟩, .slice none 0 0] 27) := ⟨_, rfl⟩
  rw [← hW] at hst
  have hcall := where_any t A c s.id W ((hT.kept hst.chg (by simp)).weak (fun b hb _ => Nat.lt_of_lt_of_le hb hst.chg.size)) hn
  rw [← hx, ← hi, ← hj] at hcall
  obtain ⟨p0, p1, p2, p3⟩ := blk4 hst.b0
  obtain ⟨q0, q1, q2, q3, q4, q5, q6, q7, q8⟩ := cells9 hst.b1
  have m0 := cellOne (hst.chg.at hbx (by simp))
  have HW := Lib.hid (And.intro hW (And.intro hst hcall))
  rw [hW] at p0 p1 p2 p3 q0 q1 q2 q3 q4 q5 q6 q7 q8 m0
  clear hW hst hcall hx hi hj hbx hT
  go_enter Try.func143, Try.ntmps143
  go_wp2_with (skip; fail)
  go_at_call 139
  rw [← HW.out.1]
  clear p0 p1 p2 p3 q0 q1 q2 q3 q4 q5 q6 q7 q8 m0
  refine HW.out.2.2.mono ?_
  rintro e X ⟨A', c', rfl, hV, hX⟩
  have hs := HW.out.2.1.kept (hX.alloc (.cells #[.int .i64 (Tr.id x), .int .i64 (Tr.kind x), .string (Tr.text x), .slice A' (Tr.kids x).length c'] 24))
  have HX := Lib.hid (And.intro hV (And.intro hX hs))
  clear hV hX hs
  go_wp2_with (first
    | (refine wpList_store_row rfl 27 (.tmp 5) (.tmp 21) rfl (w.heap.size + 1 + 1) rfl #[.int .i8 1, .int .i64 0, .int .i64 i, .int .i64 j, .string ⟨#[]⟩, .int .i64 x.id, .int .i64 x.kind, .string x.text, .slice A' x.kids.length c'] (by rfl) _ _ HX.out.2.2.b2 szST9 rfl (by simp [Value.oneCell']) ?_)
    | (skip; fail))
  have hc := setRow_chg (X.alloc (.cells #[.int .i64 (Tr.id x), .int .i64 (Tr.kind x), .string (Tr.text x), .slice A' (Tr.kids x).length c'] 24)) (w.heap.size + 1 + 1) #[.int .i8 1, .int .i64 0, .int .i64 i, .int .i64 j, .string ⟨#[]⟩, .int .i64 x.id, .int .i64 x.kind, .string x.text, .slice A' x.kids.length c']
  refine bodyPost_ret (v := .agg #[.int .i8 1, .int .i64 0, .int .i64 i, .int .i64 j, .string ⟨#[]⟩, .int .i64 x.id, .int .i64 x.kind, .string x.text, .slice A' x.kids.length c']) (results_cell_row rfl _ _ (w.heap.size + 1 + 1) _ _ _ _ rfl (setRow_heap _ _ _ _ _ _ HX.out.2.2.b2) Try.underlying27 rfl szST9) rfl ?_
  have hws := HW.out.2.1.chg.size
  have hl2 := lt_of_block HW.out.2.1.b2
  have hcs := hc.size
  have hXs : (X.alloc (.cells #[.int .i64 (Tr.id x), .int .i64 (Tr.kind x), .string (Tr.text x), .slice A' (Tr.kids x).length c'] 24)).heap.size = X.heap.size + 1 := by simp
  have hTX : TrC (fun g => W.heap.size ≤ g ∧ g < X.heap.size) (X.alloc (.cells #[.int .i64 (Tr.id x), .int .i64 (Tr.kind x), .string (Tr.text x), .slice A' (Tr.kids x).length c'] 24)) x [.int .i64 (Tr.id x), .int .i64 (Tr.kind x), .string (Tr.text x), .slice A' (Tr.kids x).length c'] := HX.out.1.toC.kept ((Chg.refl [] X).alloc _) (by simp)
  exact ⟨A', c', rfl, ((hTX.kept hc (fun g hg => by simp; omega))).weak (fun g hg _ => ⟨by omega, by omega⟩), HX.out.2.2.chg.andThen hc (by simp; omega)⟩
set_option maxHeartbeats 4000000 in
set_option maxRecDepth 100000 in
theorem inv4_any (t : Tr) (A : Option Addr) (c : Nat) (s : Stp) (As : Option Addr) (cs bx : Nat) (w : World) (hbx : WBox bx w) (hT : TrC (fun b => b < w.heap.size) w t [.int .i64 (Tr.id t), .int .i64 (Tr.kind t), .string (Tr.text t), .slice A (Tr.kids t).length c]) (hn : t.nodes ≤ 100000) : Calls Try.prog 144 #[.agg #[.int .i64 (Tr.id t), .int .i64 (Tr.kind t), .string (Tr.text t), .slice A (Tr.kids t).length c], .agg #[.int .i8 (Stp.op s), .int .i64 (Stp.id s), .int .i64 (Stp.par s), .int .i64 (Stp.place s), .string (Stp.text s), .int .i64 (Stp.sub s).id, .int .i64 (Stp.sub s).kind, .string (Stp.sub s).text, .slice As (Stp.sub s).kids.length cs], .pointer (some ⟨bx, 0, none⟩)] w (InvV ⟨3, s.id, (parI (parT s.id t)).1, (parI (parT s.id t)).2, ⟨#[]⟩, zeroT⟩ w) := by
  obtain ⟨x, hx⟩ : ∃ x, x = (t.subT s.id).getD zeroT := ⟨_, rfl⟩
  obtain ⟨i, hi⟩ : ∃ i, i = (parI (parT s.id t)).1 := ⟨_, rfl⟩
  obtain ⟨j, hj⟩ : ∃ j, j = (parI (parT s.id t)).2 := ⟨_, rfl⟩
  rw [← hi, ← hj]
  have hst := inv_start t A c s As cs w
  obtain ⟨W, hW⟩ : ∃ W, W = ((w.alloc (.cells #[.int .i64 (Tr.id t), .int .i64 (Tr.kind t), .string (Tr.text t), .slice A (Tr.kids t).length c] 24)).alloc (.cells #[.int .i8 (Stp.op s), .int .i64 (Stp.id s), .int .i64 (Stp.par s), .int .i64 (Stp.place s), .string (Stp.text s), .int .i64 (Stp.sub s).id, .int .i64 (Stp.sub s).kind, .string (Stp.sub s).text, .slice As (Stp.sub s).kids.length cs] 27)).alloc (.cells #[.int .i8 0, .int .i64 0, .int .i64 0, .int .i64 0, .string ⟨#[]⟩, .int .i64 0, .int .i64 0, .string ⟨#[]⟩, .slice none 0 0] 27) := ⟨_, rfl⟩
  rw [← hW] at hst
  have hcall := where_any t A c s.id W ((hT.kept hst.chg (by simp)).weak (fun b hb _ => Nat.lt_of_lt_of_le hb hst.chg.size)) hn
  rw [← hx, ← hi, ← hj] at hcall
  obtain ⟨p0, p1, p2, p3⟩ := blk4 hst.b0
  obtain ⟨q0, q1, q2, q3, q4, q5, q6, q7, q8⟩ := cells9 hst.b1
  have m0 := cellOne (hst.chg.at hbx (by simp))
  have HW := Lib.hid (And.intro hW (And.intro hst hcall))
  rw [hW] at p0 p1 p2 p3 q0 q1 q2 q3 q4 q5 q6 q7 q8 m0
  clear hW hst hcall hx hi hj hbx hT
  go_enter Try.func144, Try.ntmps144
  go_wp2_with (skip; fail)
  go_at_call 139
  rw [← HW.out.1]
  clear p0 p1 p2 p3 q0 q1 q2 q3 q4 q5 q6 q7 q8 m0
  refine HW.out.2.2.mono ?_
  rintro e X ⟨A', c', rfl, hV, hX⟩
  have hs := HW.out.2.1.kept (hX.alloc (.cells #[.int .i64 (Tr.id x), .int .i64 (Tr.kind x), .string (Tr.text x), .slice A' (Tr.kids x).length c'] 24))
  have HX := Lib.hid (And.intro hV (And.intro hX hs))
  obtain ⟨q0, q1, q2, q3, q4, q5, q6, q7, q8⟩ := cells9 hs.b1
  clear hV hX hs
  go_wp2_with (first
    | (refine wpList_store_row rfl 27 (.tmp 5) (.tmp 22) rfl (w.heap.size + 1 + 1) rfl #[.int .i8 3, .int .i64 s.id, .int .i64 i, .int .i64 j, .string ⟨#[]⟩, .int .i64 0, .int .i64 0, .string ⟨#[]⟩, .slice none 0 0] (by rfl) _ _ HX.out.2.2.b2 szST9 rfl (by simp [Value.oneCell']) ?_)
    | (skip; fail))
  have hc := setRow_chg (X.alloc (.cells #[.int .i64 (Tr.id x), .int .i64 (Tr.kind x), .string (Tr.text x), .slice A' (Tr.kids x).length c'] 24)) (w.heap.size + 1 + 1) #[.int .i8 3, .int .i64 s.id, .int .i64 i, .int .i64 j, .string ⟨#[]⟩, .int .i64 0, .int .i64 0, .string ⟨#[]⟩, .slice none 0 0]
  refine bodyPost_ret (v := .agg #[.int .i8 3, .int .i64 s.id, .int .i64 i, .int .i64 j, .string ⟨#[]⟩, .int .i64 0, .int .i64 0, .string ⟨#[]⟩, .slice none 0 0]) (results_cell_row rfl _ _ (w.heap.size + 1 + 1) _ _ _ _ rfl (setRow_heap _ _ _ _ _ _ HX.out.2.2.b2) Try.underlying27 rfl szST9) rfl ?_
  have hws := HW.out.2.1.chg.size
  have hl2 := lt_of_block HW.out.2.1.b2
  have hcs := hc.size
  have hXs : (X.alloc (.cells #[.int .i64 (Tr.id x), .int .i64 (Tr.kind x), .string (Tr.text x), .slice A' (Tr.kids x).length c'] 24)).heap.size = X.heap.size + 1 := by simp
  exact ⟨none, 0, rfl, zeroC _ _, HX.out.2.2.chg.andThen hc (by simp; omega)⟩
set_option maxHeartbeats 4000000 in
set_option maxRecDepth 100000 in
theorem inv5_any (t : Tr) (A : Option Addr) (c : Nat) (s : Stp) (As : Option Addr) (cs bx : Nat) (w : World) (hbx : WBox bx w) (hT : TrC (fun b => b < w.heap.size) w t [.int .i64 (Tr.id t), .int .i64 (Tr.kind t), .string (Tr.text t), .slice A (Tr.kids t).length c]) (hn : t.nodes ≤ 100000) : Calls Try.prog 145 #[.agg #[.int .i64 (Tr.id t), .int .i64 (Tr.kind t), .string (Tr.text t), .slice A (Tr.kids t).length c], .agg #[.int .i8 (Stp.op s), .int .i64 (Stp.id s), .int .i64 (Stp.par s), .int .i64 (Stp.place s), .string (Stp.text s), .int .i64 (Stp.sub s).id, .int .i64 (Stp.sub s).kind, .string (Stp.sub s).text, .slice As (Stp.sub s).kids.length cs], .pointer (some ⟨bx, 0, none⟩)] w (InvV ⟨4, s.id, 0, 0, ((t.subT s.id).getD zeroT).text, zeroT⟩ w) := by
  obtain ⟨x, hx⟩ : ∃ x, x = (t.subT s.id).getD zeroT := ⟨_, rfl⟩
  obtain ⟨i, hi⟩ : ∃ i, i = (parI (parT s.id t)).1 := ⟨_, rfl⟩
  obtain ⟨j, hj⟩ : ∃ j, j = (parI (parT s.id t)).2 := ⟨_, rfl⟩
  rw [← hx]
  have hst := inv_start t A c s As cs w
  obtain ⟨W, hW⟩ : ∃ W, W = ((w.alloc (.cells #[.int .i64 (Tr.id t), .int .i64 (Tr.kind t), .string (Tr.text t), .slice A (Tr.kids t).length c] 24)).alloc (.cells #[.int .i8 (Stp.op s), .int .i64 (Stp.id s), .int .i64 (Stp.par s), .int .i64 (Stp.place s), .string (Stp.text s), .int .i64 (Stp.sub s).id, .int .i64 (Stp.sub s).kind, .string (Stp.sub s).text, .slice As (Stp.sub s).kids.length cs] 27)).alloc (.cells #[.int .i8 0, .int .i64 0, .int .i64 0, .int .i64 0, .string ⟨#[]⟩, .int .i64 0, .int .i64 0, .string ⟨#[]⟩, .slice none 0 0] 27) := ⟨_, rfl⟩
  rw [← hW] at hst
  have hcall := where_any t A c s.id W ((hT.kept hst.chg (by simp)).weak (fun b hb _ => Nat.lt_of_lt_of_le hb hst.chg.size)) hn
  rw [← hx, ← hi, ← hj] at hcall
  obtain ⟨p0, p1, p2, p3⟩ := blk4 hst.b0
  obtain ⟨q0, q1, q2, q3, q4, q5, q6, q7, q8⟩ := cells9 hst.b1
  have m0 := cellOne (hst.chg.at hbx (by simp))
  have HW := Lib.hid (And.intro hW (And.intro hst hcall))
  rw [hW] at p0 p1 p2 p3 q0 q1 q2 q3 q4 q5 q6 q7 q8 m0
  clear hW hst hcall hx hi hj hbx hT
  go_enter Try.func145, Try.ntmps145
  go_wp2_with (skip; fail)
  go_at_call 139
  rw [← HW.out.1]
  clear p0 p1 p2 p3 q0 q1 q2 q3 q4 q5 q6 q7 q8 m0
  refine HW.out.2.2.mono ?_
  rintro e X ⟨A', c', rfl, hV, hX⟩
  have hs := HW.out.2.1.kept (hX.alloc (.cells #[.int .i64 (Tr.id x), .int .i64 (Tr.kind x), .string (Tr.text x), .slice A' (Tr.kids x).length c'] 24))
  have HX := Lib.hid (And.intro hV (And.intro hX hs))
  obtain ⟨q0, q1, q2, q3, q4, q5, q6, q7, q8⟩ := cells9 hs.b1
  clear hV hX hs
  go_wp2_with (first
    | (refine wpList_store_row rfl 27 (.tmp 5) (.tmp 22) rfl (w.heap.size + 1 + 1) rfl #[.int .i8 4, .int .i64 s.id, .int .i64 0, .int .i64 0, .string x.text, .int .i64 0, .int .i64 0, .string ⟨#[]⟩, .slice none 0 0] (by rfl) _ _ HX.out.2.2.b2 szST9 rfl (by simp [Value.oneCell']) ?_)
    | (skip; fail))
  have hc := setRow_chg (X.alloc (.cells #[.int .i64 (Tr.id x), .int .i64 (Tr.kind x), .string (Tr.text x), .slice A' (Tr.kids x).length c'] 24)) (w.heap.size + 1 + 1) #[.int .i8 4, .int .i64 s.id, .int .i64 0, .int .i64 0, .string x.text, .int .i64 0, .int .i64 0, .string ⟨#[]⟩, .slice none 0 0]
  refine bodyPost_ret (v := .agg #[.int .i8 4, .int .i64 s.id, .int .i64 0, .int .i64 0, .string x.text, .int .i64 0, .int .i64 0, .string ⟨#[]⟩, .slice none 0 0]) (results_cell_row rfl _ _ (w.heap.size + 1 + 1) _ _ _ _ rfl (setRow_heap _ _ _ _ _ _ HX.out.2.2.b2) Try.underlying27 rfl szST9) rfl ?_
  have hws := HW.out.2.1.chg.size
  have hl2 := lt_of_block HW.out.2.1.b2
  have hcs := hc.size
  have hXs : (X.alloc (.cells #[.int .i64 (Tr.id x), .int .i64 (Tr.kind x), .string (Tr.text x), .slice A' (Tr.kids x).length c'] 24)).heap.size = X.heap.size + 1 := by simp
  exact ⟨none, 0, rfl, zeroC _ _, HX.out.2.2.chg.andThen hc (by simp; omega)⟩
end Go.Proofs.Ytofjocjljbkjgaa
namespace Go.Proofs.Ytofjocjljbkjgaa
open Go.RowKit
theorem exec_indexF {o : Oper} {a : Act} {w : World} (x y : Operand) (ho : o.op = .index 153 x y) (f0 f1 f2 f3 f4 v : Value) (n : Int) (hx : a.eval x = .agg #[f0, f1, f2, f3, f4]) (hy : a.eval y = .int .i8 n) (hn : n = 1 ∨ n = 2 ∨ n = 3 ∨ n = 4) (hv : (#[f0, f1, f2, f3, f4] : Array Value)[n.toNat]? = some v) :
    (execOp a.eval o).run Try.prog w = .ok (.value v) w := by
  rcases hn with rfl | rfl | rfl | rfl <;> simp at hv <;> subst hv <;> simp only [execOp, ho, hx, hy] <;> simp [go_sem, Instr.index]
theorem szAF : (Try.prog.info? 153).map (·.size) = some 5 := by kernel_rfl
set_option maxHeartbeats 4000000 in
set_option maxRecDepth 100000 in
theorem inverses_any (w : World) : Calls Try.prog 112 #[] w fun e w' => e = .returned (.agg #[.nilFunc, .func (.func 142) #[] #[], .func (.func 143) #[] #[.pointer (some ⟨(w.heap.size + 1), 0, none⟩)], .func (.func 144) #[] #[.pointer (some ⟨(w.heap.size + 1), 0, none⟩)], .func (.func 145) #[] #[.pointer (some ⟨(w.heap.size + 1), 0, none⟩)]]) ∧ WBox (w.heap.size + 1) w' ∧ Chg [] w w' := by
  go_enter Try.func112, Try.ntmps112
  go_wp2_with (skip; fail)
  refine bodyPost_ret (v := .agg #[.nilFunc, .func (.func 142) #[] #[], .func (.func 143) #[] #[.pointer (some ⟨(w.heap.size + 1), 0, none⟩)], .func (.func 144) #[] #[.pointer (some ⟨(w.heap.size + 1), 0, none⟩)], .func (.func 145) #[] #[.pointer (some ⟨(w.heap.size + 1), 0, none⟩)]]) (results_cell_row rfl _ _ w.heap.size _ _ _ _ rfl (heap_old (heap_new _ _ rfl) _) Try.underlying153 rfl szAF) rfl ⟨rfl, heap_new _ _ (by simp), (by with_reducible repeat (first | exact Chg.refl _ _ | apply Chg.alloc | apply Chg.drew | apply Chg.drewN | (refine Chg.setCell ?_ _ _ (by simp))))⟩
def UndoPost (t : Tr) (s : Stp) (w : World) (e : Ending) (w' : World) : Prop := match applyT t s with
  | .error n => e = .returned (.tuple #[.agg #[.int .i8 0, .int .i64 0, .int .i64 0, .int .i64 0, .string ⟨#[]⟩, .int .i64 0, .int .i64 0, .string ⟨#[]⟩, .slice none 0 0], .int .i64 n]) ∧ Chg [] w w'
  | .ok _ => ∃ A c, e = .returned (.tuple #[.agg #[.int .i8 (Stp.op (invT t s)), .int .i64 (Stp.id (invT t s)), .int .i64 (Stp.par (invT t s)), .int .i64 (Stp.place (invT t s)), .string (Stp.text (invT t s)), .int .i64 (Stp.sub (invT t s)).id, .int .i64 (Stp.sub (invT t s)).kind, .string (Stp.sub (invT t s)).text, .slice A (Stp.sub (invT t s)).kids.length c], .int .i64 0]) ∧ TrC (fun b => w.heap.size ≤ b ∧ b < w'.heap.size) w' (invT t s).sub [.int .i64 (Tr.id (invT t s).sub), .int .i64 (Tr.kind (invT t s).sub), .string (Tr.text (invT t s).sub), .slice A (Tr.kids (invT t s).sub).length c] ∧ Chg [] w w'
theorem applyT_op {t x : Tr} {s : Stp} (h : applyT t s = .ok x) : t.nodes ≤ 2000 ∧ (s.op = 1 ∨ s.op = 2 ∨ s.op = 3 ∨ s.op = 4) := by
  unfold applyT at h
  split at h
  · rename_i hn
    refine ⟨hn.1, ?_⟩
    unfold doT at h
    split at h
    · omega
    split at h
    · omega
    split at h
    · omega
    split at h
    · omega
    · cases h
  · cases h
theorem inv_any (t : Tr) (A : Option Addr) (c : Nat) (s : Stp) (As : Option Addr) (cs bx : Nat) (w : World) (hbx : WBox bx w) (hT : TrC (fun b => b < w.heap.size) w t [.int .i64 (Tr.id t), .int .i64 (Tr.kind t), .string (Tr.text t), .slice A (Tr.kids t).length c]) (hn : t.nodes ≤ 100000) (hop : s.op = 1 ∨ s.op = 2 ∨ s.op = 3 ∨ s.op = 4) :
    ∃ (K : FuncId) (lb : Array Value), (#[.nilFunc, .func (.func 142) #[] #[], .func (.func 143) #[] #[.pointer (some ⟨bx, 0, none⟩)], .func (.func 144) #[] #[.pointer (some ⟨bx, 0, none⟩)], .func (.func 145) #[] #[.pointer (some ⟨bx, 0, none⟩)]] : Array Value)[s.op.toNat]? = some (.func (.func K) #[] lb) ∧ (∀ args w, (callFunc K args).run Try.prog w = .ok (.enter K args) w) ∧ Calls Try.prog K (#[.agg #[.int .i64 (Tr.id t), .int .i64 (Tr.kind t), .string (Tr.text t), .slice A (Tr.kids t).length c], .agg #[.int .i8 (Stp.op s), .int .i64 (Stp.id s), .int .i64 (Stp.par s), .int .i64 (Stp.place s), .string (Stp.text s), .int .i64 (Stp.sub s).id, .int .i64 (Stp.sub s).kind, .string (Stp.sub s).text, .slice As (Stp.sub s).kids.length cs]] ++ lb) w (InvV (invT t s) w) := by
  rcases hop with h | h | h | h
  · refine ⟨142, #[], by rw [h]; rfl, enters_of Try.func142 (by kernel_rfl) rfl, ?_⟩
    unfold invT; rw [if_pos h]
    exact inv2_any t A c s As cs w
  · refine ⟨143, #[.pointer (some ⟨bx, 0, none⟩)], by rw [h]; rfl, enters_of Try.func143 (by kernel_rfl) rfl, ?_⟩
    unfold invT; rw [if_neg (by omega), if_pos h]
    exact inv3_any t A c s As cs bx w hbx hT hn
  · refine ⟨144, #[.pointer (some ⟨bx, 0, none⟩)], by rw [h]; rfl, enters_of Try.func144 (by kernel_rfl) rfl, ?_⟩
    unfold invT; rw [if_neg (by omega), if_neg (by omega), if_pos h]
    exact inv4_any t A c s As cs bx w hbx hT hn
  · refine ⟨145, #[.pointer (some ⟨bx, 0, none⟩)], by rw [h]; rfl, enters_of Try.func145 (by kernel_rfl) rfl, ?_⟩
    unfold invT; rw [if_neg (by omega), if_neg (by omega), if_neg (by omega)]
    exact inv5_any t A c s As cs bx w hbx hT hn
structure UnW (w : World) (t : Tr) (A : Option Addr) (c : Nat) (s : Stp) (As : Option Addr) (cs : Nat) (W : World) : Prop where
  b0 : W.heap[w.heap.size]? = some (.cells #[.int .i64 (Tr.id t), .int .i64 (Tr.kind t), .string (Tr.text t), .slice A (Tr.kids t).length c] 24 (0, 0))
  b1 : W.heap[w.heap.size + 1]? = some (.cells #[.int .i8 (Stp.op s), .int .i64 (Stp.id s), .int .i64 (Stp.par s), .int .i64 (Stp.place s), .string (Stp.text s), .int .i64 (Stp.sub s).id, .int .i64 (Stp.sub s).kind, .string (Stp.sub s).text, .slice As (Stp.sub s).kids.length cs] 27 (0, 0))
  b2 : W.heap[w.heap.size + 2]? = some (.cells #[.int .i8 0, .int .i64 0, .int .i64 0, .int .i64 0, .string ⟨#[]⟩, .int .i64 0, .int .i64 0, .string ⟨#[]⟩, .slice none 0 0] 27 (0, 0))
  chg : Chg [] w W
theorem UnW.kept {w : World} {t : Tr} {A : Option Addr} {c : Nat} {s : Stp} {As : Option Addr} {cs : Nat} {W W' : World} (h : UnW w t A c s As cs W) (hc : Chg [] W W') : UnW w t A c s As cs W' :=
  ⟨hc.at h.b0 (by simp), hc.at h.b1 (by simp), hc.at h.b2 (by simp), h.chg.trans hc⟩
set_option maxHeartbeats 4000000 in
set_option maxRecDepth 100000 in
theorem uinvert_any (t : Tr) (A : Option Addr) (c : Nat) (s : Stp) (As : Option Addr) (cs : Nat) (w : World) (hT : TrC (fun b => b < w.heap.size) w t [.int .i64 (Tr.id t), .int .i64 (Tr.kind t), .string (Tr.text t), .slice A (Tr.kids t).length c]) (hS : StpC (fun b => b < w.heap.size) w s (#[.int .i8 (Stp.op s), .int .i64 (Stp.id s), .int .i64 (Stp.par s), .int .i64 (Stp.place s), .string (Stp.text s), .int .i64 (Stp.sub s).id, .int .i64 (Stp.sub s).kind, .string (Stp.sub s).text, .slice As (Stp.sub s).kids.length cs] : Array Value).toList) :
    Calls Try.prog 71 #[.agg #[.int .i64 (Tr.id t), .int .i64 (Tr.kind t), .string (Tr.text t), .slice A (Tr.kids t).length c], .agg #[.int .i8 (Stp.op s), .int .i64 (Stp.id s), .int .i64 (Stp.par s), .int .i64 (Stp.place s), .string (Stp.text s), .int .i64 (Stp.sub s).id, .int .i64 (Stp.sub s).kind, .string (Stp.sub s).text, .slice As (Stp.sub s).kids.length cs]] w (UndoPost t s w) := by
  obtain ⟨W, hW⟩ : ∃ W, W = ((w.alloc (.cells #[.int .i64 (Tr.id t), .int .i64 (Tr.kind t), .string (Tr.text t), .slice A (Tr.kids t).length c] 24)).alloc (.cells #[.int .i8 (Stp.op s), .int .i64 (Stp.id s), .int .i64 (Stp.par s), .int .i64 (Stp.place s), .string (Stp.text s), .int .i64 (Stp.sub s).id, .int .i64 (Stp.sub s).kind, .string (Stp.sub s).text, .slice As (Stp.sub s).kids.length cs] 27)).alloc (.cells #[.int .i8 0, .int .i64 0, .int .i64 0, .int .i64 0, .string ⟨#[]⟩, .int .i64 0, .int .i64 0, .string ⟨#[]⟩, .slice none 0 0] 27) := ⟨_, rfl⟩
  have hU : UnW w t A c s As cs W := ⟨by rw [hW]; exact heap_old (heap_old (heap_new _ _ rfl) _) _, by rw [hW]; exact heap_old (heap_new _ _ (by simp)) _, by rw [hW]; exact heap_new _ _ (by simp), by rw [hW]; exact (by with_reducible repeat (first | exact Chg.refl _ _ | apply Chg.alloc | apply Chg.drew | apply Chg.drewN | (refine Chg.setCell ?_ _ _ (by simp))))⟩
  have hcall := apply_any t s A c (#[.int .i8 (Stp.op s), .int .i64 (Stp.id s), .int .i64 (Stp.par s), .int .i64 (Stp.place s), .string (Stp.text s), .int .i64 (Stp.sub s).id, .int .i64 (Stp.sub s).kind, .string (Stp.sub s).text, .slice As (Stp.sub s).kids.length cs] : Array Value).toList W (hT.next hU.chg) (hS.next hU.chg)
  obtain ⟨p0, p1, p2, p3⟩ := blk4 hU.b0
  obtain ⟨q0, q1, q2, q3, q4, q5, q6, q7, q8⟩ := cells9 hU.b1
  have HW := Lib.hid (And.intro hW (And.intro hU (And.intro hcall hT)))
  rw [hW] at p0 p1 p2 p3 q0 q1 q2 q3 q4 q5 q6 q7 q8
  clear hW hU hcall hT hS
  go_enter Try.func71, Try.ntmps71
  go_wp2_with fail
  rw [← HW.out.1]
  clear p0 p1 p2 p3 q0 q1 q2 q3 q4 q5 q6 q7 q8
  have hdo := HW.out.2.2.1
  unfold ApplyPost at hdo
  unfold UndoPost
  cases hr : applyT t s with
  | error n =>
    simp only [hr] at hdo ⊢
    have e0 : (n == 0) = false := by simpa using applyT_ne hr
    have e0' : (n != 0) = true := by simpa using applyT_ne hr
    have HR := Lib.hid hr
    clear hr
    refine hdo.mono ?_
    clear hdo
    rintro e X ⟨rfl, hX⟩
    have hs := HW.out.2.1.kept (hX.alloc (.cells #[.int .i64 0, .int .i64 0, .string ⟨#[]⟩, .slice none 0 0] 24))
    have HX := Lib.hid hs
    clear hX hs
    go_wp2_with (first
      | (refine wpList_store_row rfl 27 (.tmp 4) (.tmp 16) rfl (w.heap.size + 1 + 1) rfl #[.int .i8 0, .int .i64 0, .int .i64 0, .int .i64 0, .string ⟨#[]⟩, .int .i64 0, .int .i64 0, .string ⟨#[]⟩, .slice none 0 0] (by rfl) _ _ HX.out.b2 szST9 rfl (by simp [Value.oneCell']) ?_)
      | (skip; fail))
    have hc := setRow_chg (X.alloc (.cells #[.int .i64 0, .int .i64 0, .string ⟨#[]⟩, .slice none 0 0] 24)) (w.heap.size + 1 + 1) #[.int .i8 0, .int .i64 0, .int .i64 0, .int .i64 0, .string ⟨#[]⟩, .int .i64 0, .int .i64 0, .string ⟨#[]⟩, .slice none 0 0]
    refine bodyPost_ret (v := .tuple #[.agg #[.int .i8 0, .int .i64 0, .int .i64 0, .int .i64 0, .string ⟨#[]⟩, .int .i64 0, .int .i64 0, .string ⟨#[]⟩, .slice none 0 0], .int .i64 n]) (results_row_tmp rfl _ _ (w.heap.size + 1 + 1) _ _ _ _ _ rfl rfl (setRow_heap _ _ _ _ _ _ HX.out.b2) Try.underlying27 rfl szST9) rfl ?_
    unfold UndoPost
    rw [HR.out]
    exact ⟨rfl, HX.out.chg.andThen hc (by simp; omega)⟩
  | ok y =>
    simp only [hr] at hdo ⊢
    obtain ⟨hn, hop⟩ := applyT_op hr
    have HR := Lib.hid (And.intro hr (And.intro hn hop))
    clear hr hn hop
    refine hdo.mono ?_
    clear hdo
    rintro e X ⟨Ay, cy, rfl, _, hX⟩
    obtain ⟨V, hV⟩ : ∃ V, V = X.alloc (.cells #[.int .i64 (Tr.id y), .int .i64 (Tr.kind y), .string (Tr.text y), .slice Ay (Tr.kids y).length cy] 24) := ⟨_, rfl⟩
    have hs := HW.out.2.1.kept (show Chg [] W V by rw [hV]; exact hX.alloc _)
    have HV := Lib.hid (And.intro hs hV)
    clear hs hV hX
    go_wp2_with (skip; fail)
    rw [← HV.out.2]
    refine wp_region_M (fun W => W.cell? ⟨w.heap.size + 1, 0, none⟩ = some (.int .i8 s.op) ∧ W.rangeAt w.heap.size 0 [.int .i64 (Tr.id t), .int .i64 (Tr.kind t), .string (Tr.text t), .slice A (Tr.kids t).length c] ∧ W.rangeAt (w.heap.size + 1) 0 (#[.int .i8 (Stp.op s), .int .i64 (Stp.id s), .int .i64 (Stp.par s), .int .i64 (Stp.place s), .string (Stp.text s), .int .i64 (Stp.sub s).id, .int .i64 (Stp.sub s).kind, .string (Stp.sub s).text, .slice As (Stp.sub s).kids.length cs] : Array Value).toList) (fun k => [0, 3, 6, 7].contains k) (fun k => [7].contains k) (by kernel_rfl) ?_
    obtain ⟨Z, hZ⟩ : ∃ Z, Z = V.drew := ⟨_, rfl⟩
    rw [← hZ]
    have hs := HV.out.1.kept (show Chg [] V Z by rw [hZ]; exact (Chg.refl _ _).drew)
    clear hZ
    have hall : ∀ Z' : World, UnW w t A c s As cs Z' → Z'.cell? ⟨w.heap.size + 1, 0, none⟩ = some (.int .i8 s.op) ∧ Z'.rangeAt w.heap.size 0 [.int .i64 (Tr.id t), .int .i64 (Tr.kind t), .string (Tr.text t), .slice A (Tr.kids t).length c] ∧ Z'.rangeAt (w.heap.size + 1) 0 (#[.int .i8 (Stp.op s), .int .i64 (Stp.id s), .int .i64 (Stp.par s), .int .i64 (Stp.place s), .string (Stp.text s), .int .i64 (Stp.sub s).id, .int .i64 (Stp.sub s).kind, .string (Stp.sub s).text, .slice As (Stp.sub s).kids.length cs] : Array Value).toList := fun Z' h => ⟨(cells9 h.b1).1, range_all h.b0, range_all h.b1⟩
    have hS := hall Z hs
    have HZ := Lib.hid (And.intro hs hall)
    clear hs hall
    ((try dsimp only); (try simp only [Act.put, List.setIfInBounds_toArray, List.set_cons_zero, List.set_cons_succ]))
    refine M_pure (i := 1) (v := ?_) rfl (by kernel_rfl) (by kernel_rfl) (by kernel_rfl) (fun _ _ _ h => h) (by rfl) ?hy ?_; (case hy => (intro w; go_simp; with_reducible rfl)); ((try dsimp only); (try simp only [Act.put, List.setIfInBounds_toArray, List.set_cons_zero, List.set_cons_succ]))
    refine M_semi (i := 2) (v := ?_) rfl (by kernel_rfl) (by kernel_rfl) (by kernel_rfl) (by kernel_rfl) (fun _ _ _ h => h) (by rfl) hS ?hy ?_
    case hy => (intro w hS; have h2 := hS.1; go_simp; with_reducible rfl)
    ((try dsimp only); (try simp only [Act.put, List.setIfInBounds_toArray, List.set_cons_zero, List.set_cons_succ]))
    refine M_semi (i := 4) rfl (by kernel_rfl) (by kernel_rfl) (by kernel_rfl) (by kernel_rfl) (fun _ _ _ h => h) (by rfl) hS (fun W hS => exec_load_mid 24 (.tmp 2) rfl w.heap.size 0 rfl _ _ hS.2.1 Try.underlying24 rfl szNode) ?_; ((try dsimp only); (try simp only [Act.put, List.setIfInBounds_toArray, List.set_cons_zero, List.set_cons_succ]))
    refine M_semi (i := 5) rfl (by kernel_rfl) (by kernel_rfl) (by kernel_rfl) (by kernel_rfl) (fun _ _ _ h => h) (by rfl) hS (fun W hS => exec_load_mid 27 (.tmp 3) rfl (w.heap.size + 1) 0 rfl _ _ hS.2.2 Try.underlying27 rfl szST9) ?_; ((try dsimp only); (try simp only [Act.put, List.setIfInBounds_toArray, List.set_cons_zero, List.set_cons_succ]))
    refine M_eff (i := 0) rfl (by kernel_rfl) (by rfl) ?_
    go_wp2_with fail
    refine (inverses_any Z).mono ?_
    rintro e Y ⟨rfl, hbx, hY⟩
    have hsY := HZ.out.1.kept hY
    have hSY := HZ.out.2 Y hsY
    obtain ⟨K, lb, hix, hcf, hcall⟩ := inv_any t A c s As cs (Z.heap.size + 1) Y hbx (HW.out.2.2.2.next hsY.chg) (by have := HR.out.2.1; omega) HR.out.2.2
    have HY := Lib.hid (And.intro hsY (And.intro hcall (And.intro hix hSY)))
    clear hsY hcall hix hS hbx hY
    go_wp2_with fail
    refine ⟨hSY, ?_⟩
    refine M_eff (i := 3) rfl (by kernel_rfl) (by rfl) ?_
    go_wp2_with (first
      | (refine wpList_runv rfl (exec_indexF (.tmp 18) (.tmp 20) rfl _ _ _ _ _ (.func (.func K) #[] lb) s.op rfl rfl HR.out.2.2 HY.out.2.2.1) ?_)
      | fail)
    refine ⟨hSY, ?_⟩
    refine M_eff (i := 6) rfl (by kernel_rfl) (by rfl) ?_
    go_wp2_with fail
    refine HY.out.2.1.mono ?_
    clear hcf
    rintro e U ⟨A', c', rfl, hTU, hU⟩
    have hsU := HY.out.1.kept hU
    have hSU := HZ.out.2 U hsU
    have HU := Lib.hid (And.intro hTU (And.intro hsU trivial))
    clear hTU hU hsU hSY
    go_wp2_with fail
    refine ⟨hSU, ?_⟩
    clear hSU
    refine M_brk (i := 7) rfl (by kernel_rfl) (by rfl) (by rfl) ?_
    go_wp2_with (first
      | (refine wpList_store_row rfl 27 (.tmp 4) (.tmp 24) rfl (w.heap.size + 1 + 1) rfl #[.int .i8 (Stp.op (invT t s)), .int .i64 (Stp.id (invT t s)), .int .i64 (Stp.par (invT t s)), .int .i64 (Stp.place (invT t s)), .string (Stp.text (invT t s)), .int .i64 (Stp.sub (invT t s)).id, .int .i64 (Stp.sub (invT t s)).kind, .string (Stp.sub (invT t s)).text, .slice A' (Stp.sub (invT t s)).kids.length c'] (by rfl) _ _ HU.out.2.1.b2 szST9 rfl (by simp [Value.oneCell']) ?_)
      | fail)
    ((try dsimp only [EffQ]); (try simp only [Act.put, List.setIfInBounds_toArray, List.set_cons_zero, List.set_cons_succ]))
    refine M_pure (i := 8) (v := ?_) rfl (by kernel_rfl) (by kernel_rfl) (by kernel_rfl) (fun _ _ _ h => h) (by rfl) ?hy ?_; (case hy => (intro w; go_simp; with_reducible rfl)); ((try dsimp only); (try simp only [Act.put, List.setIfInBounds_toArray, List.set_cons_zero, List.set_cons_succ]))
    refine M_done (by kernel_rfl) ?_ _
    go_wp2_with (skip; fail)
    have hc := setRow_chg U (w.heap.size + 1 + 1) #[.int .i8 (Stp.op (invT t s)), .int .i64 (Stp.id (invT t s)), .int .i64 (Stp.par (invT t s)), .int .i64 (Stp.place (invT t s)), .string (Stp.text (invT t s)), .int .i64 (Stp.sub (invT t s)).id, .int .i64 (Stp.sub (invT t s)).kind, .string (Stp.sub (invT t s)).text, .slice A' (Stp.sub (invT t s)).kids.length c']
    refine bodyPost_ret (v := .tuple #[.agg #[.int .i8 (Stp.op (invT t s)), .int .i64 (Stp.id (invT t s)), .int .i64 (Stp.par (invT t s)), .int .i64 (Stp.place (invT t s)), .string (Stp.text (invT t s)), .int .i64 (Stp.sub (invT t s)).id, .int .i64 (Stp.sub (invT t s)).kind, .string (Stp.sub (invT t s)).text, .slice A' (Stp.sub (invT t s)).kids.length c'], .int .i64 0]) (results_row_tmp rfl _ _ (w.heap.size + 1 + 1) _ _ _ _ _ rfl rfl (setRow_heap _ _ _ _ _ _ HU.out.2.1.b2) Try.underlying27 rfl szST9) rfl ?_
    unfold UndoPost
    rw [HR.out.1]
    have hcs := hc.size
    have hlY := lt_of_block HY.out.1.b2
    exact ⟨A', c', rfl, (HU.out.1.kept hc (fun g hg => by simp; omega)).weak (fun g hg _ => ⟨by omega, by omega⟩), HU.out.2.1.chg.andThen hc (by simp; omega)⟩
end Go.Proofs.Ytofjocjljbkjgaa
namespace Go.Proofs.Ytofjocjljbkjgaa
open Go.RowKit
def GBox (g : Gr) (Ag : Option Addr) (cg bg : Nat) (W : World) : Prop := W.heap[bg]? = some (.cells #[.slice Ag g.kinds.length cg, .int .i64 g.root] 43 (0, 0)) ∧ GrC W Ag cg g.kinds
set_option maxHeartbeats 4000000 in
set_option maxRecDepth 100000 in
theorem apply1_any (g : Gr) (j : GJ) (hj : j.Of g) (Ag : Option Addr) (cg bg : Nat) (x : Tr) (A : Option Addr) (c : Nat) (s : Stp) (As : Option Addr) (cs : Nat) (W : World) (hG : GBox g Ag cg bg W) (hT : TrC (fun b => b < W.heap.size) W x [.int .i64 (Tr.id x), .int .i64 (Tr.kind x), .string (Tr.text x), .slice A (Tr.kids x).length c]) (hS : StpC (fun b => b < W.heap.size) W s (#[.int .i8 (Stp.op s), .int .i64 (Stp.id s), .int .i64 (Stp.par s), .int .i64 (Stp.place s), .string (Stp.text s), .int .i64 (Stp.sub s).id, .int .i64 (Stp.sub s).kind, .string (Stp.sub s).text, .slice As (Stp.sub s).kids.length cs] : Array Value).toList) :
    Calls Try.prog 69 #[.agg #[.int .i64 (Tr.id x), .int .i64 (Tr.kind x), .string (Tr.text x), .slice A (Tr.kids x).length c], .agg #[.int .i8 (Stp.op s), .int .i64 (Stp.id s), .int .i64 (Stp.par s), .int .i64 (Stp.place s), .string (Stp.text s), .int .i64 (Stp.sub s).id, .int .i64 (Stp.sub s).kind, .string (Stp.sub s).text, .slice As (Stp.sub s).kids.length cs], .pointer (some ⟨bg, 0, none⟩)] W (ApplyPost (doJ j x s) W) := by
  obtain ⟨V, hV⟩ : ∃ V, V = ((W.alloc (.cells #[.int .i64 (Tr.id x), .int .i64 (Tr.kind x), .string (Tr.text x), .slice A (Tr.kids x).length c] 24)).alloc (.cells #[.int .i8 (Stp.op s), .int .i64 (Stp.id s), .int .i64 (Stp.par s), .int .i64 (Stp.place s), .string (Stp.text s), .int .i64 (Stp.sub s).id, .int .i64 (Stp.sub s).kind, .string (Stp.sub s).text, .slice As (Stp.sub s).kids.length cs] 27)).alloc (.cells #[.int .i64 0, .int .i64 0, .string ⟨#[]⟩, .slice none 0 0] 24) := ⟨_, rfl⟩
  have hc : Chg [] W V := by rw [hV]; exact (by with_reducible repeat (first | exact Chg.refl _ _ | apply Chg.alloc | apply Chg.drew | apply Chg.drewN | (refine Chg.setCell ?_ _ _ (by simp))))
  have b0 : V.heap[W.heap.size]? = some (.cells #[.int .i64 (Tr.id x), .int .i64 (Tr.kind x), .string (Tr.text x), .slice A (Tr.kids x).length c] 24 (0, 0)) := by rw [hV]; exact heap_old (heap_old (heap_new _ _ rfl) _) _
  have b1 : V.heap[W.heap.size + 1]? = some (.cells #[.int .i8 (Stp.op s), .int .i64 (Stp.id s), .int .i64 (Stp.par s), .int .i64 (Stp.place s), .string (Stp.text s), .int .i64 (Stp.sub s).id, .int .i64 (Stp.sub s).kind, .string (Stp.sub s).text, .slice As (Stp.sub s).kids.length cs] 27 (0, 0)) := by rw [hV]; exact heap_old (heap_new _ _ (by simp)) _
  have b2 : V.heap[W.heap.size + 1 + 1]? = some (.cells #[.int .i64 0, .int .i64 0, .string ⟨#[]⟩, .slice none 0 0] 24 (0, 0)) := by rw [hV]; exact heap_new _ _ (by simp)
  obtain ⟨g0, g1⟩ := cell2 (hc.at hG.1 (by simp))
  obtain ⟨p0, p1, p2, p3⟩ := blk4 b0
  obtain ⟨q0, q1, q2, q3, q4, q5, q6, q7, q8⟩ := cells9 b1
  have hdo := do_any g j hj Ag cg x s A c (#[.int .i8 (Stp.op s), .int .i64 (Stp.id s), .int .i64 (Stp.par s), .int .i64 (Stp.place s), .string (Stp.text s), .int .i64 (Stp.sub s).id, .int .i64 (Stp.sub s).kind, .string (Stp.sub s).text, .slice As (Stp.sub s).kids.length cs] : Array Value).toList V (hG.2.kept hc) (hT.next hc) (hS.next hc)
  have HV := Lib.hid (And.intro hV (And.intro hc (And.intro b2 hdo)))
  rw [hV] at g0 g1 p0 p1 p2 p3 q0 q1 q2 q3 q4 q5 q6 q7 q8
  clear hV hc b0 b1 b2 hdo hG hT hS hj
  go_enter Try.func69, Try.ntmps69
  go_wp2_with fail
  rw [← HV.out.1]
  clear g0 g1 p0 p1 p2 p3 q0 q1 q2 q3 q4 q5 q6 q7 q8
  have hdo := HV.out.2.2.2
  unfold ApplyPost at hdo
  cases hr : doJ j x s with
  | error n =>
    simp only [hr] at hdo
    have HR := Lib.hid (And.intro hdo hr)
    clear hdo hr
    refine HR.out.1.mono ?_
    rintro e X ⟨rfl, hX⟩
    have x2 := hX.at HV.out.2.2.1 (by simp)
    obtain ⟨r0, r1, r2, r3⟩ := blk4 x2
    have f0 := blkF x2 0
    have f1 := blkF x2 1
    have f2 := blkF x2 2
    have f3 := blkF x2 3
    have HX := Lib.hid (And.intro hX x2)
    clear hX x2
    go_wp2_with (skip; fail)
    refine bodyPost_ret (v := .tuple #[.agg #[.int .i64 0, .int .i64 0, .string ⟨#[]⟩, .slice none 0 0], .int .i64 n]) (results_row_tmp rfl _ _ (W.heap.size + 1 + 1) _ _ _ _ _ rfl rfl (set4 HX.out.2) Try.underlying24 rfl szNode) rfl ?_
    unfold ApplyPost
    rw [HR.out.2]
    exact ⟨rfl, (HV.out.2.1.trans HX.out.1).andThen (chg4 _ _ _ _ _ _) (by simp; omega)⟩
  | ok y =>
    simp only [hr] at hdo
    have HR := Lib.hid (And.intro hdo hr)
    clear hdo hr
    refine HR.out.1.mono ?_
    rintro e X ⟨Ay, cy, rfl, hTy, hX⟩
    have x2 := hX.at HV.out.2.2.1 (by simp)
    obtain ⟨r0, r1, r2, r3⟩ := blk4 x2
    have f0 := blkF x2 0
    have f1 := blkF x2 1
    have f2 := blkF x2 2
    have f3 := blkF x2 3
    have hl2 := lt_of_block HV.out.2.2.1
    have HX := Lib.hid (And.intro hX (And.intro x2 hTy))
    clear hX x2 hTy
    go_wp2_with (skip; fail)
    refine bodyPost_ret (v := .tuple #[.agg #[.int .i64 (Tr.id y), .int .i64 (Tr.kind y), .string (Tr.text y), .slice Ay (Tr.kids y).length cy], .int .i64 0]) (results_row_tmp rfl _ _ (W.heap.size + 1 + 1) _ _ _ _ _ rfl rfl (set4 HX.out.2.1) Try.underlying24 rfl szNode) rfl ?_
    have hc4 := chg4 X (W.heap.size + 1 + 1) (.int .i64 y.id) (.int .i64 y.kind) (.string y.text) (.slice Ay y.kids.length cy)
    have hs4 := hc4.size
    unfold ApplyPost
    rw [HR.out.2]
    exact ⟨Ay, cy, rfl, (HX.out.2.2.kept hc4 (fun b hb => by simp; omega)).weak (fun b hb => ⟨by omega, by omega⟩), (HV.out.2.1.trans HX.out.1).andThen hc4 (by simp; omega)⟩
def applyL (j : GJ) (t : Tr) (l : List Stp) : Tr × Nat × Int :=
  if checkB l then (if (foldF (doJ j) t l 0).2.2 = 0 then foldF (doJ j) t l 0 else (t, (foldF (doJ j) t l 0).2.1, (foldF (doJ j) t l 0).2.2)) else (t, 0, 3)
def ApplyL (r : Tr × Nat × Int) (w : World) (e : Ending) (w' : World) : Prop :=
  ∃ A c, e = .returned (.tuple #[.agg #[.int .i64 (Tr.id r.1), .int .i64 (Tr.kind r.1), .string (Tr.text r.1), .slice A (Tr.kids r.1).length c], .int .i64 r.2.1, .int .i64 r.2.2]) ∧ TrC (fun b => b < w'.heap.size) w' r.1 [.int .i64 (Tr.id r.1), .int .i64 (Tr.kind r.1), .string (Tr.text r.1), .slice A (Tr.kids r.1).length c] ∧ Chg [] w w'
def ApplyN (r : Tr × Nat × Int) (w : World) (e : Ending) (w' : World) : Prop :=
  ∃ A c, e = .returned (.tuple #[.agg #[.int .i64 (Tr.id r.1), .int .i64 (Tr.kind r.1), .string (Tr.text r.1), .slice A (Tr.kids r.1).length c], .int .i64 r.2.1, .int .i64 r.2.2]) ∧ TrC (fun b => w.heap.size ≤ b ∧ b < w'.heap.size) w' r.1 [.int .i64 (Tr.id r.1), .int .i64 (Tr.kind r.1), .string (Tr.text r.1), .slice A (Tr.kids r.1).length c] ∧ Chg [] w w'
set_option maxHeartbeats 4000000 in
set_option maxRecDepth 100000 in
theorem capply_new (g : Gr) (j : GJ) (hj : j.Of g) (Ag : Option Addr) (cg : Nat) (t : Tr) (A : Option Addr) (c : Nat) (ss : List Stp) (B : Option Addr) (d : Nat) (w : World) (hG : GrC w Ag cg g.kinds) (hT : TrC (fun b => b < w.heap.size) w t [.int .i64 (Tr.id t), .int .i64 (Tr.kind t), .string (Tr.text t), .slice A (Tr.kids t).length c]) (hS : StpsC (fun b => b < w.heap.size) w B ss) (hl : ss.length ≤ 9223372036854775807) (hn : t.nodes ≤ 100000) :
    Calls Try.prog 31 #[.agg #[.slice Ag g.kinds.length cg, .int .i64 g.root], .agg #[.int .i64 (Tr.id t), .int .i64 (Tr.kind t), .string (Tr.text t), .slice A (Tr.kids t).length c], .slice B ss.length d] w (ApplyN (applyL j t ss) w) := by
  obtain ⟨W, hW⟩ : ∃ W, W = ((w.alloc (.cells #[.slice Ag g.kinds.length cg, .int .i64 g.root] 43)).alloc (.cells #[.int .i64 (Tr.id t), .int .i64 (Tr.kind t), .string (Tr.text t), .slice A (Tr.kids t).length c] 24)).alloc (.cells #[.int .i64 0, .int .i64 0, .string ⟨#[]⟩, .slice none 0 0] 24) := ⟨_, rfl⟩
  have hcW : Chg [] w W := by rw [hW]; exact (by with_reducible repeat (first | exact Chg.refl _ _ | apply Chg.alloc | apply Chg.drew | apply Chg.drewN | (refine Chg.setCell ?_ _ _ (by simp))))
  have b0 : W.heap[w.heap.size]? = some (.cells #[.slice Ag g.kinds.length cg, .int .i64 g.root] 43 (0, 0)) := by rw [hW]; exact heap_old (heap_old (heap_new _ _ rfl) _) _
  have b1 : W.heap[w.heap.size + 1]? = some (.cells #[.int .i64 (Tr.id t), .int .i64 (Tr.kind t), .string (Tr.text t), .slice A (Tr.kids t).length c] 24 (0, 0)) := by rw [hW]; exact heap_old (heap_new _ _ (by simp)) _
  have b2 : W.heap[w.heap.size + 1 + 1]? = some (.cells #[.int .i64 0, .int .i64 0, .string ⟨#[]⟩, .slice none 0 0] 24 (0, 0)) := by rw [hW]; exact heap_new _ _ (by simp)
  have hck := check_any ss B d W (hS.next hcW) hl
  have HW := Lib.hid (And.intro hW (And.intro hcW (And.intro b0 (And.intro b1 (And.intro b2 (And.intro hck (And.intro hG (And.intro hT (And.intro hS (And.intro hj hn))))))))))
  clear hW hcW b0 b1 b2 hck hG hT hS hj hn
  go_enter Try.func31, Try.ntmps31
  go_wp2_with fail
  rw [← HW.out.1]
  refine HW.out.2.2.2.2.2.1.mono ?_
  rintro e X ⟨rfl, rfl⟩
  have hown := cown_any t A c W ((HW.out.2.2.2.2.2.2.2.1.kept HW.out.2.1 (by simp)).weak (fun _ _ _ => trivial)) HW.out.2.2.2.2.2.2.2.2.2.2
  have HO := Lib.hid hown
  obtain ⟨p0, p1, p2, p3⟩ := blk4 HW.out.2.2.2.1
  clear hown
  by_cases hch : checkB ss = true
  · have he : checkE ss = 0 := by unfold checkE; rw [hch]; rfl
    rw [he]
    have HA := Lib.hid (show applyL j t ss = if (foldF (doJ j) t ss 0).2.2 = 0 then foldF (doJ j) t ss 0 else (t, (foldF (doJ j) t ss 0).2.1, (foldF (doJ j) t ss 0).2.2) by unfold applyL; rw [hch]; rfl)
    clear hch he
    go_wp2_with fail
    refine HO.out.mono ?_
    rintro e X ⟨A1, c1, rfl, hT1, hX⟩
    have hwX := HW.out.2.1.trans hX
    have hf := fold_any 69 #[.pointer (some ⟨w.heap.size, 0, none⟩)] (enters_of Try.func69 (by kernel_rfl) rfl) (doJ j) [] (fun _ _ => True) (fun b => W.heap.size ≤ b ∧ b < X.heap.size) (fun _ _ V => Chg [] X V) ss B d t A1 c1 X hl (by simp) ((HW.out.2.2.2.2.2.2.2.2.1.next hwX).weak (fun b hb _ => ⟨hb, by simp⟩)) (fun b hb => hb.2) (fun _ _ _ _ _ _ => trivial) (fun _ _ => trivial) hT1.toC
      (fun i x V V' h hc => h.andThen hc (by simp)) (Chg.refl _ _)
      (fun i x A c s As cs V hcV hsV hJV hs hTx hSx => (apply1_any g j HW.out.2.2.2.2.2.2.2.2.2.1 Ag cg w.heap.size x A c s As cs V ⟨(hX.trans hJV).at HW.out.2.2.1 (by simp), HW.out.2.2.2.2.2.2.1.kept (hwX.trans hJV)⟩ (hTx.weak (fun b hb _ => hb.1)) (hSx.weak (fun b hb _ => Nat.lt_of_lt_of_le hb.1 hcV.size))).mono fun e V' he => by
        unfold ApplyPost at he
        unfold FoldOne
        cases hr : doJ j x s with
        | error n =>
          rw [hr] at he
          obtain ⟨rfl, hc⟩ := he
          exact ⟨_, rfl, doJ_ne hr, hc, ⟨⟨0, 0, ⟨#[]⟩, []⟩, none, 0, rfl⟩, hJV.trans hc⟩
        | ok y =>
          rw [hr] at he
          obtain ⟨Ay, cy, rfl, hTy, hc⟩ := he
          exact ⟨_, rfl, Kp.of_chg hc (by simp), ⟨Ay, cy, rfl, hTy.toC.weak (fun b hb _ => ⟨hb.1, hb.2, trivial⟩)⟩, hJV.trans hc⟩)
    have x1 := hX.at HW.out.2.2.2.1 (by simp)
    have x2 := hX.at HW.out.2.2.2.2.1 (by simp)
    have HX := Lib.hid (And.intro hwX (And.intro hf (And.intro x1 x2)))
    clear hX hT1 hf x1 x2 p0 p1 p2 p3 hwX
    go_wp2_with fail
    refine HX.out.2.1.mono ?_
    rintro e Y ⟨Af, cf, rfl, hTf, hXY, hcY⟩
    obtain ⟨r, hr⟩ : ∃ r, r = foldF (doJ j) t ss 0 := ⟨_, rfl⟩
    rw [← hr] at hTf ⊢
    obtain ⟨xf, nf, ef⟩ := r
    have y1 := hXY.at HX.out.2.2.1 (by simp)
    have y2 := hXY.at HX.out.2.2.2 (by simp)
    obtain ⟨r0, r1, r2, r3⟩ := blk4 y2
    have f0 := blkF y2 0
    have f1 := blkF y2 1
    have f2 := blkF y2 2
    have f3 := blkF y2 3
    have hc4 := chg4 Y (w.heap.size + 1 + 1) (.int .i64 xf.id) (.int .i64 xf.kind) (.string xf.text) (.slice Af xf.kids.length cf)
    have z1 := hc4.at y1 (by simp)
    obtain ⟨p0, p1, p2, p3⟩ := blk4 z1
    have z2 := set4 (v0 := .int .i64 xf.id) (v1 := .int .i64 xf.kind) (v2 := .string xf.text) (v3 := .slice Af xf.kids.length cf) y2
    obtain ⟨s0, s1, s2, s3⟩ := blk4 z2
    have g0 := blkF z2 0
    have g1 := blkF z2 1
    have g2 := blkF z2 2
    have g3 := blkF z2 3
    have hls : w.heap.size + 1 + 1 < W.heap.size := lt_of_block HW.out.2.2.2.2.1
    have HY := Lib.hid (And.intro (HX.out.1.trans hXY) (And.intro hTf (And.intro hr (And.intro hc4 (And.intro z1 z2)))))
    clear hXY hcY hTf hr y1 y2 hc4 z1 z2
    by_cases hz : ef = 0
    · subst hz
      have HE := Lib.hid (show applyL j t ss = (xf, nf, 0) by rw [HA.out, ← HY.out.2.2.1]; simp)
      go_wp2_with (skip; fail)
      refine bodyPost_ret (v := .tuple #[.agg #[.int .i64 (Tr.id xf), .int .i64 (Tr.kind xf), .string (Tr.text xf), .slice Af (Tr.kids xf).length cf], .int .i64 nf, .int .i64 0]) (results_row_tmp2 rfl _ _ (w.heap.size + 1 + 1) _ _ _ _ _ _ rfl rfl rfl (set4 HY.out.2.2.2.2.2) Try.underlying24 rfl szNode) rfl ?_
      rw [HE.out]
      have h5 := HY.out.2.2.2.1.trans (chg4 _ (w.heap.size + 1 + 1) (.int .i64 xf.id) (.int .i64 xf.kind) (.string xf.text) (.slice Af xf.kids.length cf))
      have hs5 := h5.size
      have hXl := lt_of_block HX.out.2.2.2
      exact ⟨Af, cf, rfl, (HY.out.2.1.kept h5 (fun b hb => by simp; omega)).weak (fun b hb _ => ⟨by omega, by omega⟩), HY.out.1.andThen h5 (by simp; omega)⟩
    · have e0 : (ef == 0) = false := by simpa using hz
      have e0' : (ef != 0) = true := by simpa using hz
      have HE := Lib.hid (show applyL j t ss = (t, nf, ef) by rw [HA.out, ← HY.out.2.2.1]; simp [hz])
      clear hz
      obtain ⟨Z, hZ⟩ : ∃ Z, Z = (((Y.setCell ⟨w.heap.size + 1 + 1, 0, none⟩ (.int .i64 xf.id)).setCell ⟨w.heap.size + 1 + 1, 1, none⟩ (.int .i64 xf.kind)).setCell ⟨w.heap.size + 1 + 1, 2, none⟩ (.string xf.text)).setCell ⟨w.heap.size + 1 + 1, 3, none⟩ (.slice Af xf.kids.length cf) := ⟨_, rfl⟩
      have hYZ := HY.out.2.2.2.1
      have hz2 := HY.out.2.2.2.2.2
      rw [← hZ] at hYZ hz2
      have hwZ : Chg [] w Z := HY.out.1.andThen hYZ (by simp; omega)
      have hown := cown_any t A c Z ((HW.out.2.2.2.2.2.2.2.1.kept hwZ (by simp)).weak (fun _ _ _ => trivial)) HW.out.2.2.2.2.2.2.2.2.2.2
      have HZ := Lib.hid (And.intro hZ (And.intro hwZ (And.intro hown hz2)))
      clear hYZ hz2 hZ hwZ hown
      go_wp2_with fail
      rw [← HZ.out.1]
      clear p0 p1 p2 p3 s0 s1 s2 s3 g0 g1 g2 g3 r0 r1 r2 r3 f0 f1 f2 f3
      refine HZ.out.2.2.1.mono ?_
      rintro e V ⟨A2, c2, rfl, hT2, hV⟩
      have v2 := hV.at HZ.out.2.2.2 (by simp)
      obtain ⟨r0, r1, r2, r3⟩ := blk4 v2
      have f0 := blkF v2 0
      have f1 := blkF v2 1
      have f2 := blkF v2 2
      have f3 := blkF v2 3
      have hl3 := lt_of_block HZ.out.2.2.2
      have HV := Lib.hid (And.intro hV (And.intro v2 hT2))
      clear hV v2 hT2
      go_wp2_with (skip; fail)
      refine bodyPost_ret (v := .tuple #[.agg #[.int .i64 (Tr.id t), .int .i64 (Tr.kind t), .string (Tr.text t), .slice A2 (Tr.kids t).length c2], .int .i64 nf, .int .i64 ef]) (results_row_tmp2 rfl _ _ (w.heap.size + 1 + 1) _ _ _ _ _ _ rfl rfl rfl (set4 HV.out.2.1) Try.underlying24 rfl szNode) rfl ?_
      have hc4 := chg4 V (w.heap.size + 1 + 1) (.int .i64 t.id) (.int .i64 t.kind) (.string t.text) (.slice A2 t.kids.length c2)
      have hs4 := hc4.size
      rw [HE.out]
      exact ⟨A2, c2, rfl, (HV.out.2.2.toC.kept hc4 (fun b hb => by simp; omega)).weak (fun b hb _ => ⟨by omega, by omega⟩), (HZ.out.2.1.trans HV.out.1).andThen hc4 (by simp; omega)⟩
  · have he : checkE ss = 3 := by unfold checkE; rw [if_neg hch]
    rw [he]
    have HA := Lib.hid (show applyL j t ss = (t, 0, 3) by unfold applyL; rw [if_neg hch])
    clear hch he
    go_wp2_with fail
    refine HO.out.mono ?_
    rintro e X ⟨A1, c1, rfl, hT1, hX⟩
    have x2 := hX.at HW.out.2.2.2.2.1 (by simp)
    obtain ⟨r0, r1, r2, r3⟩ := blk4 x2
    have f0 := blkF x2 0
    have f1 := blkF x2 1
    have f2 := blkF x2 2
    have f3 := blkF x2 3
    have hl2 := lt_of_block HW.out.2.2.2.2.1
    have HX := Lib.hid (And.intro hX (And.intro x2 hT1))
    clear hX x2 hT1
    go_wp2_with (skip; fail)
    refine bodyPost_ret (v := .tuple #[.agg #[.int .i64 (Tr.id t), .int .i64 (Tr.kind t), .string (Tr.text t), .slice A1 (Tr.kids t).length c1], .int .i64 0, .int .i64 3]) (results_row_tmp2 rfl _ _ (w.heap.size + 1 + 1) _ _ _ _ _ _ rfl rfl rfl (set4 HX.out.2.1) Try.underlying24 rfl szNode) rfl ?_
    have hc4 := chg4 X (w.heap.size + 1 + 1) (.int .i64 t.id) (.int .i64 t.kind) (.string t.text) (.slice A1 t.kids.length c1)
    have hs4 := hc4.size
    rw [HA.out]
    exact ⟨A1, c1, rfl, (HX.out.2.2.toC.kept hc4 (fun b hb => by simp; omega)).weak (fun b hb _ => ⟨by omega, by omega⟩), (HW.out.2.1.trans HX.out.1).andThen hc4 (by simp; omega)⟩
theorem capply_any (g : Gr) (j : GJ) (hj : j.Of g) (Ag : Option Addr) (cg : Nat) (t : Tr) (A : Option Addr) (c : Nat) (ss : List Stp) (B : Option Addr) (d : Nat) (w : World) (hG : GrC w Ag cg g.kinds) (hT : TrC (fun b => b < w.heap.size) w t [.int .i64 (Tr.id t), .int .i64 (Tr.kind t), .string (Tr.text t), .slice A (Tr.kids t).length c]) (hS : StpsC (fun b => b < w.heap.size) w B ss) (hl : ss.length ≤ 9223372036854775807) (hn : t.nodes ≤ 100000) :
    Calls Try.prog 31 #[.agg #[.slice Ag g.kinds.length cg, .int .i64 g.root], .agg #[.int .i64 (Tr.id t), .int .i64 (Tr.kind t), .string (Tr.text t), .slice A (Tr.kids t).length c], .slice B ss.length d] w (ApplyL (applyL j t ss) w) :=
  (capply_new g j hj Ag cg t A c ss B d w hG hT hS hl hn).mono fun e w' ⟨A', c', h1, h2, h3⟩ => ⟨A', c', h1, h2.weak (fun b hb _ => hb.2), h3⟩
end Go.Proofs.Ytofjocjljbkjgaa
namespace Go.Proofs.Ytofjocjljbkjgaa
open Go.RowKit
def Kd.Small (k : Kd) : Prop := k.name.size ≤ 200 ∧ k.slots.length ≤ 20 ∧ ∀ (j : Nat) (s : Sl), k.slots[j]? = some s → s.kinds.length ≤ 40
def Gr.Small (g : Gr) : Prop := g.kinds.length ≤ 40 ∧ ∀ (i : Nat) (k : Kd), g.kinds[i]? = some k → k.Small
set_option maxHeartbeats 16000000 in
set_option maxRecDepth 100000 in
theorem great5_any (g : Gr) (A : Option Addr) (c : Nat) (w : World) (hG : GrC w A c g.kinds) :
    Calls Try.prog 21 #[.agg #[.slice A g.kinds.length c, .int .i64 g.root]] w (BoolIs (¬ g.Small) w) := by
  obtain ⟨W1, hW1⟩ : ∃ W1, W1 = w.alloc (.cells #[.slice A g.kinds.length c, .int .i64 g.root] 43) := ⟨_, rfl⟩
  have hch : Chg [] w W1 := by rw [hW1]; exact (by with_reducible repeat (first | exact Chg.refl _ _ | apply Chg.alloc | apply Chg.drew | apply Chg.drewN | (refine Chg.setCell ?_ _ _ (by simp))))
  have hg1 : W1.heap[w.heap.size]? = some (.cells #[.slice A g.kinds.length c, .int .i64 g.root] 43 (0, 0)) := by rw [hW1]; exact heap_new _ _ rfl
  have hgl : g.kinds.length ≤ 9223372036854775807 := by have := hG.cap; have := hG.big; omega
  have HC := Lib.hid (And.intro hch (And.intro hg1 (And.intro hW1 (hG.kept hch))))
  obtain ⟨a0, a1⟩ := cell2 hg1
  rw [hW1] at a0 a1
  clear hG hch hg1 hW1
  go_enter Try.func21, Try.ntmps21
  by_cases h40 : 40 < g.kinds.length
  · have d1 : decide (40 < (g.kinds.length : Int)) = true := decide_eq_true (by omega)
    have d1' : decide (40 < g.kinds.length) = true := decide_eq_true h40
    have HN := Lib.hid (show ¬ g.Small from fun h => by have := h.1; omega)
    go_wp2_with (skip; fail)
    go_ret
    exact ⟨true, rfl, by simp [HN.out], (by with_reducible repeat (first | exact Chg.refl _ _ | apply Chg.alloc | apply Chg.drew | apply Chg.drewN | (refine Chg.setCell ?_ _ _ (by simp))))⟩
  have d1 : decide (40 < (g.kinds.length : Int)) = false := decide_eq_false (by omega)
  have d1' : decide (40 < g.kinds.length) = false := decide_eq_false h40
  go_wp2_with (skip; fail)
  clear d1 d1' a0 a1
  rw [← HC.out.2.2.1]
  go_loopw [12] (fun iv wr => ∃ i : Nat, i ≤ g.kinds.length ∧ iv = .int .i64 i ∧ Hid (Chg [] W1 wr ∧ ∀ (j : Nat) (k : Kd), j < i → g.kinds[j]? = some k → k.Small)) (fun iv _ => g.kinds.length - (intOf iv).toNat)
  case atStart => exact ⟨0, Nat.zero_le _, rfl, Lib.hid ⟨Chg.refl _ _, fun j k hj => by omega⟩⟩
  case round =>
    obtain ⟨i, hi, rfl, H⟩ := hrel
    obtain ⟨V, hV⟩ : ∃ V, V = wr := ⟨_, rfl⟩
    subst hV
    obtain ⟨a0, a1⟩ := cell2 (H.out.1.at HC.out.2.1 (by simp))
    by_cases hlt : i < g.kinds.length
    · obtain ⟨gk, ok, hA, _, hat⟩ := (HC.out.2.2.2.kept H.out.1).row.at hlt
      obtain ⟨k, hk⟩ : ∃ k, k = g.kinds[i] := ⟨_, rfl⟩
      rw [← hk] at hat
      have hke : g.kinds[i]? = some k := by rw [hk]; exact List.getElem?_eq_getElem hlt
      obtain ⟨As, cs, hr, hnm, hsl, hrs⟩ := hat.range
      subst hA
      have e0 : V.cell? ⟨gk, ok + i * 3, none⟩ = some (.string k.name) := hr 0 _ rfl
      have e2 : V.cell? ⟨gk, ok + i * 3 + 2, none⟩ = some (.slice As k.slots.length cs) := hr 2 _ rfl
      have HK := Lib.hid (And.intro hke (And.intro hrs (And.intro e2 HC.out.2.1)))
      clear hk hat hke hr hrs
      by_cases h200 : 200 < k.name.size
      · have d1 : decide (200 < (k.name.size : Int)) = true := decide_eq_true (by omega)
        have d1' : decide (200 < k.name.size) = true := decide_eq_true h200
        have HN := Lib.hid (show ¬ g.Small from fun h => by have := (h.2 i k HK.out.1).1; omega)
        go_wp2_with (skip; fail)
        go_ret
        exact ⟨true, rfl, by simp [HN.out], HC.out.1.trans H.out.1⟩
      have d1 : decide (200 < (k.name.size : Int)) = false := decide_eq_false (by omega)
      have d1' : decide (200 < k.name.size) = false := decide_eq_false h200
      by_cases h20 : 20 < k.slots.length
      · have d2 : decide (20 < (k.slots.length : Int)) = true := decide_eq_true (by omega)
        have d2' : decide (20 < k.slots.length) = true := decide_eq_true h20
        have HN := Lib.hid (show ¬ g.Small from fun h => by have := (h.2 i k HK.out.1).2.1; omega)
        go_wp2_with (skip; fail)
        go_ret
        exact ⟨true, rfl, by simp [HN.out], HC.out.1.trans H.out.1⟩
      have d2 : decide (20 < (k.slots.length : Int)) = false := decide_eq_false (by omega)
      have d2' : decide (20 < k.slots.length) = false := decide_eq_false h20
      go_wp2_with (skip; fail)
      clear d1 d1' d2 d2' e0
      go_loopw [40] (fun iv wq => ∃ j : Nat, j ≤ k.slots.length ∧ iv = .int .i64 j ∧ Hid (Chg [] V wq ∧ ∀ (l : Nat) (s : Sl), l < j → k.slots[l]? = some s → s.kinds.length ≤ 40)) (fun iv _ => k.slots.length - (intOf iv).toNat)
      case atStart => exact ⟨0, Nat.zero_le _, rfl, Lib.hid ⟨Chg.refl _ _, fun j k hj => by omega⟩⟩
      case round =>
        obtain ⟨j, hj, rfl, HJ⟩ := hrel
        obtain ⟨U, hU⟩ : ∃ U, U = wr := ⟨_, rfl⟩
        subst hU
        clear a0 a1 e2
        obtain ⟨a0, a1⟩ := cell2 (HJ.out.1.at (H.out.1.at HC.out.2.1 (by simp)) (by simp))
        have e2 := HJ.out.1.cell HK.out.2.2.1 (by simp)
        by_cases hjl : j < k.slots.length
        · obtain ⟨gs, os, hA, _, hat⟩ := (HK.out.2.1.imp HJ.out.1.size fun _ _ _ => SlAt.kept HJ.out.1).at hjl
          obtain ⟨s, hs⟩ : ∃ s, s = k.slots[j] := ⟨_, rfl⟩
          rw [← hs] at hat
          have hse : k.slots[j]? = some s := by rw [hs]; exact List.getElem?_eq_getElem hjl
          obtain ⟨Ai, ci, hri, hci, hcm, hrw⟩ := hat.range
          subst hA
          have f0 : U.cell? ⟨gs, os + j * 3, none⟩ = some (.slice Ai s.kinds.length ci) := hri 0 _ rfl
          have HS := Lib.hid hse
          have hsl2 : s.kinds.length ≤ 9223372036854775807 := by omega
          clear hs hat hri hrw hse
          by_cases h3 : 40 < s.kinds.length
          · have d1 : decide (40 < (s.kinds.length : Int)) = true := decide_eq_true (by omega)
            have d1' : decide (40 < s.kinds.length) = true := decide_eq_true h3
            have HN := Lib.hid (show ¬ g.Small from fun h => by have := (h.2 i k HK.out.1).2.2 j s HS.out; omega)
            go_wp2_with (skip; fail)
            go_ret
            exact ⟨true, rfl, by simp [HN.out], (HC.out.1.trans H.out.1).trans HJ.out.1⟩
          have d1 : decide (40 < (s.kinds.length : Int)) = false := decide_eq_false (by omega)
          have d1' : decide (40 < s.kinds.length) = false := decide_eq_false h3
          go_wp2_with (skip; fail)
          go_roundw
          case rel =>
            refine ⟨j + 1, by omega, by go_num, Lib.hid ⟨HJ.out.1, fun l s' hl hs' => ?_⟩⟩
            by_cases e : l = j
            · subst e; rw [HS.out] at hs'; cases hs'; omega
            · exact HJ.out.2 l s' (by omega) hs'
          case measure => simp [intOf]; omega
        · obtain rfl : j = k.slots.length := by omega
          have HKS : Hid (k.Small) := Lib.hid ⟨by omega, by omega, fun l s hs => HJ.out.2 l s (List.getElem?_eq_some_iff.1 hs).1 hs⟩
          go_wp2_with (skip; fail)
          go_wp2_with (skip; fail)
          go_roundw
          case rel =>
            refine ⟨i + 1, by omega, by go_num, Lib.hid ⟨H.out.1.trans HJ.out.1, fun l k' hl hk' => ?_⟩⟩
            by_cases e : l = i
            · subst e; rw [HK.out.1] at hk'; cases hk'; exact HKS.out
            · exact H.out.2 l k' (by omega) hk'
          case measure => simp [intOf]; omega
    · obtain rfl : i = g.kinds.length := by omega
      have HN := Lib.hid (show g.Small from ⟨by omega, fun j k hk => H.out.2 j k (List.getElem?_eq_some_iff.1 hk).1 hk⟩)
      go_wp2_with (skip; fail)
      go_wp2_with (skip; fail)
      go_ret
      exact ⟨false, rfl, by simp [HN.out], HC.out.1.trans H.out.1⟩
end Go.Proofs.Ytofjocjljbkjgaa
namespace Go.Proofs.Ytofjocjljbkjgaa
open Go.RowKit
def nodesS (l : List Stp) : Nat := (l.map fun s => s.sub.nodes).sum
theorem nodesS_take (l : List Stp) (k : Nat) (h : k < l.length) : nodesS (l.take (k + 1)) = nodesS (l.take k) + (l[k]).sub.nodes := by
  unfold nodesS; rw [take_snoc' l k h, List.map_append, List.sum_append]; simp
def SmallS (ss : List Stp) : Prop := ss.length ≤ 70 ∧ (∀ s ∈ ss, s.sub.nodes ≤ 250) ∧ nodesS ss ≤ 300
def GreatSt (ss : List Stp) (w : World) (e : Ending) (w' : World) : Prop := ∃ r : Bool, e = .returned (.bool r) ∧ (r = false → SmallS ss) ∧ Chg [] w w'
set_option maxHeartbeats 4000000 in
set_option maxRecDepth 100000 in
theorem greatS_any (ss : List Stp) (B : Option Addr) (d : Nat) (w : World) (hS : StpsC (fun b => b < w.heap.size) w B ss) (hl : ss.length ≤ 9223372036854775807) : Calls Try.prog 22 #[.slice B ss.length d] w (GreatSt ss w) := by
  have HH := Lib.hid hS
  clear hS
  go_enter Try.func22, Try.ntmps22
  by_cases h70 : 70 < ss.length
  · have d1 : decide (70 < (ss.length : Int)) = true := decide_eq_true (by omega)
    have d1' : decide (70 < ss.length) = true := decide_eq_true h70
    clear h70
    go_wp2_with (skip; fail)
    go_ret
    exact ⟨true, rfl, (fun h => by cases h), Chg.refl _ _⟩
  have d1 : decide (70 < (ss.length : Int)) = false := decide_eq_false (by omega)
  have d1' : decide (70 < ss.length) = false := decide_eq_false h70
  go_wp2_with (skip; fail)
  clear d1 d1'
  go_loopw [3, 4, 11] (fun nv tv iv wr => ∃ (k : Nat) (T : Int), k ≤ ss.length ∧ iv = .int .i64 k ∧ tv = .int .i64 T ∧ 0 ≤ T ∧ T ≤ 20000 ∧ nv = .int .i64 (nodesS (ss.take k)) ∧ nodesS (ss.take k) ≤ 300 ∧ Hid (Chg [] w wr ∧ ∀ s ∈ ss.take k, s.sub.nodes ≤ 250)) (fun _ _ iv _ => ss.length - (intOf iv).toNat)
  case atStart => exact ⟨0, 0, Nat.zero_le _, rfl, rfl, by omega, by omega, rfl, by simp [nodesS], Lib.hid ⟨Chg.refl _ _, by simp⟩⟩
  case round =>
    obtain ⟨k, T, hk, rfl, rfl, hT0, hT1, rfl, hN, H⟩ := hrel
    obtain ⟨V, hV⟩ : ∃ V, V = wr := ⟨_, rfl⟩
    subst hV
    by_cases hlt : k < ss.length
    · obtain ⟨g, o, A, c, rfl, _, hr, hTr, htx, _⟩ := (HH.out.next H.out.1).at hlt
      obtain ⟨s, hs⟩ : ∃ s, s = ss[k] := ⟨_, rfl⟩
      rw [← hs] at hr hTr htx
      have hsum := nodesS_take ss k hlt
      rw [← hs] at hsum
      have hmem : ss.take (k + 1) = ss.take k ++ [s] := by rw [take_snoc' ss k hlt, hs]
      have r4 : V.cell? ⟨g, o + k * 9 + 4, none⟩ = some (.string s.text) := hr 4 _ rfl
      have hr5 : V.rangeAt g (o + k * 9 + 5) [.int .i64 (Tr.id (Stp.sub s)), .int .i64 (Tr.kind (Stp.sub s)), .string (Tr.text (Stp.sub s)), .slice A (Tr.kids (Stp.sub s)).length c] := range_drop hr 5
      have hgr := great_t s.sub A c V hTr
      have HC := Lib.hid (And.intro hgr (And.intro hr5 (And.intro hTr (And.intro hsum hmem))))
      clear hgr hr5 hTr hsum hmem hr hs
      go_wp2_with (first
        | (refine wpList_load_mid rfl 24 (.tmp 17) rfl g (o + k * 9 + 5) (by kernel_rfl) _ _ HC.out.2.1 Try.underlying24 rfl (by kernel_rfl) ?_
           ((try dsimp only); (try simp only [Act.put, List.setIfInBounds_toArray, List.set_cons_zero, List.set_cons_succ])))
        | (skip; fail))
      refine HC.out.1.mono ?_
      rintro e X ⟨r, rfl, hr, hX⟩
      have HX := Lib.hid (And.intro hr hX)
      have r4 := hX.cell r4 (by simp)
      clear hr hX
      cases r with
      | true =>
        go_wp2_with (skip; fail)
        go_ret
        exact ⟨true, rfl, (fun h => by cases h), H.out.1.trans HX.out.2⟩
      | false =>
        have HN := Lib.hid (HX.out.1 rfl)
        by_cases hb : 20000 - T < (s.text.size : Int)
        · have hbb : decide (20000 - T < (s.text.size : Int)) = true := by simpa using hb
          go_wp2_with (skip; fail)
          go_ret
          exact ⟨true, rfl, (fun h => by cases h), H.out.1.trans HX.out.2⟩
        · have hbb : decide (20000 - T < (s.text.size : Int)) = false := by simpa using hb
          have hwk := walkT_any X.heap.size 251 (by omega) s.sub A c X (HC.out.2.2.1.next HX.out.2) (Nat.le_refl _)
          have hr5 := HX.out.2.range HC.out.2.1 (by simp)
          have HW := Lib.hid (And.intro hwk hr5)
          clear hwk hr5
          go_wp2_with (first
            | (refine wpList_load_mid rfl 24 (.tmp 43) rfl g (o + k * 9 + 5) (by kernel_rfl) _ _ HW.out.2 Try.underlying24 rfl (by kernel_rfl) ?_
               ((try dsimp only); (try simp only [Act.put, List.setIfInBounds_toArray, List.set_cons_zero, List.set_cons_succ])))
            | (skip; fail))
          refine HW.out.1.mono ?_
          rintro e Y ⟨v, rfl, hR, hY⟩
          obtain ⟨A', c', rfl⟩ := hR.slice
          have hlen : ((s.sub.walk 1).take 251).length = s.sub.nodes := by rw [List.length_take, Tr.walk_length]; have := HN.out; omega
          rw [hlen]
          have hn := HN.out
          have HY := Lib.hid hY
          have hsum := HC.out.2.2.2.1
          clear hR hlen hY
          by_cases h3 : 300 < nodesS (ss.take k) + s.sub.nodes
          · have d1 : decide (300 < (nodesS (ss.take k) : Int) + (s.sub.nodes : Int)) = true := decide_eq_true (by omega)
            have d2 : decide (300 < nodesS (ss.take k) + s.sub.nodes) = true := decide_eq_true h3
            clear hsum
            go_wp2_with (skip; fail)
            go_ret
            exact ⟨true, rfl, (fun h => by cases h), (H.out.1.trans HX.out.2).trans HY.out⟩
          · have d1 : decide (300 < (nodesS (ss.take k) : Int) + (s.sub.nodes : Int)) = false := decide_eq_false (by omega)
            have d2 : decide (300 < nodesS (ss.take k) + s.sub.nodes) = false := decide_eq_false h3
            clear hsum
            go_wp2_with (skip; fail)
            go_roundw
            case rel =>
              refine ⟨k + 1, T + s.text.size, by omega, by go_num, rfl, by omega, by omega, by rw [HC.out.2.2.2.1]; go_num, by rw [HC.out.2.2.2.1]; omega, Lib.hid ⟨(H.out.1.trans HX.out.2).trans HY.out, fun x hx => ?_⟩⟩
              rw [HC.out.2.2.2.2] at hx
              rcases List.mem_append.1 hx with hx | hx
              · exact H.out.2 x hx
              · simp at hx; subst hx; exact HN.out
            case measure => simp [intOf]; omega
    · obtain rfl : k = ss.length := by omega
      have hall := H.out.2
      rw [List.take_of_length_le (Nat.le_refl _)] at hall hN
      have HA := Lib.hid (show SmallS ss from ⟨by omega, hall, hN⟩)
      clear hall
      go_wp2_with (skip; fail)
      go_ret
      exact ⟨false, rfl, fun _ => HA.out, H.out.1⟩
end Go.Proofs.Ytofjocjljbkjgaa
namespace Go.Proofs.Ytofjocjljbkjgaa
open Go.RowKit
theorem sz0 : (⟨#[]⟩ : ByteArray).size ≤ 9223372036854775807 := by decide
def leafT (i : Int) : Tr := ⟨i, 0, ⟨#[]⟩, []⟩
def smallT : Tr := ⟨1, 0, ⟨#[]⟩, [leafT 2, ⟨3, 0, ⟨#[]⟩, [leafT 4]⟩]⟩
theorem w1 : applyMove smallT 2 3 1 (leafT 0) = .ok ⟨1, 0, ⟨#[]⟩, [⟨3, 0, ⟨#[]⟩, [leafT 4, leafT 2]⟩]⟩ := by rfl
theorem w2 : applyMove smallT 3 4 0 (leafT 0) = .error 91 := by rfl
theorem w3 : applyMove smallT 2 1 1 (leafT 0) = .ok ⟨1, 0, ⟨#[]⟩, [⟨3, 0, ⟨#[]⟩, [leafT 4]⟩, leafT 2]⟩ := by rfl
end Go.Proofs.Ytofjocjljbkjgaa
namespace Go.Proofs.Ytofjocjljbkjgaa
open Go.RowKit
structure Box3 (g : Gr) (Ag : Option Addr) (cg : Nat) (t : Tr) (A : Option Addr) (c : Nat) (s : Stp) (As : Option Addr) (cs : Nat) (w W : World) : Prop where
  g : W.heap[w.heap.size]? = some (.cells #[.slice Ag g.kinds.length cg, .int .i64 g.root] 43 (0, 0))
  t : W.heap[w.heap.size + 1]? = some (.cells #[.int .i64 (Tr.id t), .int .i64 (Tr.kind t), .string (Tr.text t), .slice A (Tr.kids t).length c] 24 (0, 0))
  s : W.heap[w.heap.size + 1 + 1]? = some (.cells #[.int .i8 (Stp.op s), .int .i64 (Stp.id s), .int .i64 (Stp.par s), .int .i64 (Stp.place s), .string (Stp.text s), .int .i64 (Stp.sub s).id, .int .i64 (Stp.sub s).kind, .string (Stp.sub s).text, .slice As (Stp.sub s).kids.length cs] 27 (0, 0))
  chg : Chg [] w W
theorem Box3.kept {g : Gr} {Ag : Option Addr} {cg : Nat} {t : Tr} {A : Option Addr} {c : Nat} {s : Stp} {As : Option Addr} {cs : Nat} {w W W' : World} (h : Box3 g Ag cg t A c s As cs w W) (hc : Chg [] W W') : Box3 g Ag cg t A c s As cs w W' :=
  ⟨hc.at h.g (by simp), hc.at h.t (by simp), hc.at h.s (by simp), h.chg.trans hc⟩
theorem infoStep : (Try.prog.info? 27).map (fun i => (i.zero, i.size, i.bytes)) = some (some (.agg #[.int .i8 0, .int .i64 0, .int .i64 0, .int .i64 0, .string ⟨#[]⟩, .int .i64 0, .int .i64 0, .string ⟨#[]⟩, .slice none 0 0]), 9, 104) := by kernel_rfl
theorem doJ_ok {j : GJ} {t x : Tr} {s : Stp} (h : doJ j t s = .ok x) : j.ok = true ∧ j.fit x = true ∧ applyT t s = .ok x := by
  unfold doJ at h
  split at h
  · cases h
  · rename_i y e
    split at h
    · rename_i h1
      split at h
      · rename_i h2
        injection h with h
        subst h
        exact ⟨h1, h2, e⟩
      · cases h
    · cases h
def MapN (B : Nat) (w : World) (b : Nat) (f : Int → Option Tr) : Prop := ∃ m, MapI w b m ∧ ∀ n, IsNode B w (m n) (f n)
theorem MapN.kept {B : Nat} {w w' : World} {b : Nat} {f : Int → Option Tr} (h : MapN B w b f) (hc : Chg [] w w') : MapN B w' b f := by
  obtain ⟨m, h1, h2⟩ := h; exact ⟨m, h1.kept hc (by simp), fun n => (h2 n).kept hc (by simp)⟩
def NodeM (w : World) (m : Int → Option Value) (f : Int → Option Tr) : Prop := ∃ B, ∀ n, IsNode B w (m n) (f n)
theorem NodeM.at {w : World} {m : Int → Option Value} {f : Int → Option Tr} (h : NodeM w m f) {n : Int} {v : Value} (hv : m n = some v) : ∃ y A c, f n = some y ∧ v = .agg #[.int .i64 (Tr.id y), .int .i64 (Tr.kind y), .string (Tr.text y), .slice A (Tr.kids y).length c] := by
  obtain ⟨B, h⟩ := h
  have h1 := h n
  unfold IsNode at h1
  split at h1
  · rw [hv] at h1; cases h1
  · rename_i y e
    obtain ⟨A, c, h2, _⟩ := h1
    rw [hv] at h2; cases h2
    exact ⟨y, A, c, e, rfl⟩
end Go.Proofs.Ytofjocjljbkjgaa
namespace Go.Proofs.Ytofjocjljbkjgaa
open Go.RowKit
def invL : Tr → List Stp → List Stp
  | _, [] => []
  | t, s :: l => match applyT t s with
    | .ok y => invT t s :: invL y l
    | .error _ => []
structure RowP9 (w : World) (ok : Nat → Prop) (base : Nat) (v : Value) (ss : List Stp) : Prop where
  ex : ∃ css, RowR w 9 27 base v css ∧ css.length = ss.length ∧ (∀ b, v.ownBlock = some b → ok b) ∧ ∀ (k : Nat) s cs, ss[k]? = some s → css[k]? = some cs → StpC (fun b => ok b ∧ base ≤ b ∧ b < w.heap.size ∧ v.ownBlock ≠ some b) w s cs
theorem RowP9.nil (w : World) (ok : Nat → Prop) (base : Nat) : RowP9 w ok base (.slice none 0 0) [] := ⟨[], .nil _ _ _ _, rfl, fun b hb => (by simp [Value.ownBlock] at hb), fun k s cs h => by simp at h⟩
theorem RowP9.own {w : World} {ok : Nat → Prop} {base : Nat} {v : Value} {ss : List Stp} (h : RowP9 w ok base v ss) : ∀ b, v.ownBlock = some b → base ≤ b ∧ b < w.heap.size := by
  obtain ⟨css, h1, _⟩ := h.ex; exact h1.own
theorem RowP9.slice {w : World} {ok : Nat → Prop} {base : Nat} {v : Value} {ss : List Stp} (h : RowP9 w ok base v ss) : ∃ A c, v = .slice A ss.length c := by
  obtain ⟨css, h1, h2, _⟩ := h.ex; rw [← h2]; exact h1.slice
theorem RowP9.weak {w : World} {ok ok' : Nat → Prop} {base : Nat} {v : Value} {ss : List Stp} (h : RowP9 w ok base v ss) (hk : ∀ b, ok b → base ≤ b → b < w.heap.size → ok' b) : RowP9 w ok' base v ss := by
  obtain ⟨css, h1, h2, h0, h3⟩ := h.ex
  exact ⟨css, h1, h2, fun b hb => hk b (h0 b hb) (h1.own b hb).1 (h1.own b hb).2, fun k s cs hs hcs => (h3 k s cs hs hcs).weak (fun b hb _ => ⟨hk b hb.1 hb.2.1 hb.2.2.1, hb.2⟩)⟩
theorem RowP9.kept {w w' : World} {ok : Nat → Prop} {base : Nat} {v : Value} {ss : List Stp} {l : List Nat} (h : RowP9 w ok base v ss) (hc : Chg l w w') (hl : ∀ b ∈ l, ok b → b < base) : RowP9 w' ok base v ss := by
  obtain ⟨css, h1, h2, h0, h3⟩ := h.ex
  refine ⟨css, h1.kept hc (fun b hb hm => by have := h1.own b hb; have := hl b hm (h0 b hb); omega), h2, h0, fun k s cs hs hcs => ?_⟩
  exact ((h3 k s cs hs hcs).kept hc (fun b hb hm => by have := hl b hm hb.1; omega)).weak (fun b hb _ => ⟨hb.1, hb.2.1, Nat.lt_of_lt_of_le hb.2.2.1 hc.size, hb.2.2.2⟩)
theorem RowP9.push {w w1 w' : World} {ok : Nat → Prop} {base : Nat} {v v' : Value} {ss : List Stp} {s : Stp} {cs : List Value} {css : List (List Value)} (h1 : RowR w 9 27 base v css) (h2 : css.length = ss.length) (h0 : ∀ b, v.ownBlock = some b → ok b) (h3 : ∀ (k : Nat) s cs, ss[k]? = some s → css[k]? = some cs → StpC (fun b => ok b ∧ base ≤ b ∧ b < w.heap.size ∧ v.ownBlock ≠ some b) w s cs) (hc0 : Chg [] w w1) (hb : base ≤ w.heap.size) (ho : w'.ownsRow base 27 9 v' (css.length + 1) (css.flatten ++ cs))
    (hc : Chg v.ownBlock.toList w1 w') (hat : v'.ownBlock = v.ownBlock ∨ v'.ownBlock = some w1.heap.size) (hok : ok w1.heap.size) (hs : StpC (fun b => ok b ∧ w.heap.size ≤ b ∧ b < w1.heap.size) w1 s cs) : RowP9 w' ok base v' (ss ++ [s]) := by
  have h1' := h1.kept hc0 (by simp)
  refine ⟨css ++ [cs], h1'.push ho hs.nine, by simp [h2], fun b hb2 => ?_, fun k s2 cs2 hs2 hcs2 => ?_⟩
  · rcases hat with e | e
    · rw [e] at hb2; exact h0 b hb2
    · rw [e] at hb2; injection hb2 with hb2; rw [← hb2]; exact hok
  have hsz := hc.size
  have hsz0 := hc0.size
  rcases Nat.lt_or_ge k ss.length with hk | hk
  · rw [List.getElem?_append_left hk] at hs2
    rw [List.getElem?_append_left (by omega)] at hcs2
    refine (((h3 k s2 cs2 hs2 hcs2).kept hc0 (by simp)).kept hc (fun b hb hm => hb.2.2.2 (by simpa using hm))).weak (fun b hb _ => ⟨hb.1, hb.2.1, by omega, ?_⟩)
    rcases hat with e | e
    · rw [e]; exact hb.2.2.2
    · rw [e]; intro he; injection he; omega
  · have hk2 : k = ss.length := by have := (List.getElem?_eq_some_iff.1 hs2).1; simp at this; omega
    subst hk2
    rw [List.getElem?_append_right (Nat.le_refl _), Nat.sub_self] at hs2
    rw [List.getElem?_append_right (by omega), show ss.length - css.length = 0 by omega] at hcs2
    simp at hs2 hcs2
    subst hs2 hcs2
    refine (hs.kept hc (fun b hb hm => ?_)).weak (fun b hb _ => ⟨hb.1, by omega, by omega, ?_⟩)
    · have := h1.own b (by simpa using hm); omega
    · rcases hat with e | e
      · rw [e]; intro he; have := h1.own b he; omega
      · rw [e]; intro he; injection he; omega
theorem wpList_push_step {ops : Array Oper} {rest : List Oper} {o : Oper} {a : Act} {w w1 : World} {Q : Exit → Act → World → Prop} (hgd : o.guard = none) (s x : Operand) (ho : o.op = .call { callee := .builtin .append, args := #[s, x], argTypes := #[46, 46] }) (ok : Nat → Prop) (base : Nat) (v : Value) (ss : List Stp) (hs : a.eval s = v) (hv : RowP9 w ok base v ss) (hc0 : Chg [] w w1) (hb : base ≤ w.heap.size)
    (g : Nat) (st : Stp) (cs : List Value) (hx : a.eval x = .slice (some ⟨g, 0, none⟩) 1 1) (hg : w1.heap[g]? = some (.cells cs.toArray 27 (0, 0))) (hok : ok w1.heap.size) (hst : StpC (fun b => ok b ∧ w.heap.size ≤ b ∧ b < w1.heap.size) w1 st cs) (hl : ss.length ≤ 1000000)
    (h : ∀ v' w', RowP9 w' ok base v' (ss ++ [st]) → Chg v.ownBlock.toList w1 w' → wpList Try.prog ops Q rest (a.put o.dst v') w') : wpList Try.prog ops Q (o :: rest) a w1 := by
  obtain ⟨ip, hi, hz0, hz1, hz2⟩ := info_parts infoStep
  obtain ⟨css, h1, h2, h0, h3⟩ := hv.ex
  have h1' := h1.kept hc0 (by simp)
  refine wpList_append_own_at _ hgd s x 46 ho base 27 ip _ 9 104 Try.underlying46 hi hz0 hz1 hz2 rfl (by omega) v css.length _ hs h1'.row ⟨g, 0, none⟩ 1 1 cs hx (by rw [hst.nine]) (fun j u hu => by rw [Addr.add_mid]; exact range_all hg j u (by simpa using hu)) hst.one (by unfold maxLen; omega) (by omega) (Nat.le_trans hb hc0.size) ?_
  intro v' X hown hgr _ hat
  have hc : Chg v.ownBlock.toList w1 X := Chg.grown (Chg.refl _ _) hgr (by intro k hk; rw [hk]; simp)
  exact h v' X (RowP9.push h1 h2 h0 h3 hc0 hb hown hc hat hok hst) hc
end Go.Proofs.Ytofjocjljbkjgaa
namespace Go.Proofs.Ytofjocjljbkjgaa
open Go.RowKit
theorem trC_sub {ok : Nat → Prop} {w : World} : ∀ (p : List Nat) (t x : Tr) (cs : List Value), TrC ok w t cs → Tr.at? p t = some x → ∃ cs', TrC ok w x cs'
  | [], t, x, cs, h, e => by simp only [Tr.at?, Option.some.injEq] at e; subst e; exact ⟨cs, h⟩
  | i :: p, t, x, cs, h, e => by
    obtain ⟨A, c, _, _, _, _, hk⟩ := h.opens
    simp only [Tr.at?] at e
    cases hi : t.kids[i]? with
    | none => rw [hi] at e; cases e
    | some k =>
      rw [hi] at e
      obtain ⟨g, o, cs2, _, _, _, h2⟩ := hk i k hi
      exact trC_sub p k x cs2 h2 e
theorem subT_text {ok : Nat → Prop} {w : World} {t : Tr} {cs : List Value} (h : TrC ok w t cs) (id : Int) : ((t.subT id).getD zeroT).text.size ≤ 9223372036854775807 := by
  cases hx : t.subT id with
  | none => exact Nat.zero_le _
  | some x =>
    unfold Tr.subT at hx
    cases hp : t.path id with
    | none => rw [hp] at hx; cases hx
    | some p =>
      rw [hp] at hx
      obtain ⟨cs', h2⟩ := trC_sub p t x cs h hx
      obtain ⟨A, c, _, _, _, ht, _⟩ := h2.opens
      exact ht
theorem invT_fit {ok : Nat → Prop} {w : World} {t : Tr} {cs : List Value} (h : TrC ok w t cs) (s : Stp) : (invT t s).text.size ≤ 9223372036854775807 ∧ -128 ≤ (invT t s).op ∧ (invT t s).op ≤ 127 := by
  unfold invT
  split
  · exact ⟨Nat.zero_le _, by show (-128 : Int) ≤ 2; omega, by show (2 : Int) ≤ 127; omega⟩
  split
  · exact ⟨Nat.zero_le _, by show (-128 : Int) ≤ 1; omega, by show (1 : Int) ≤ 127; omega⟩
  split
  · exact ⟨Nat.zero_le _, by show (-128 : Int) ≤ 3; omega, by show (3 : Int) ≤ 127; omega⟩
  · exact ⟨subT_text h s.id, by show (-128 : Int) ≤ 4; omega, by show (4 : Int) ≤ 127; omega⟩
structure IvW (w : World) (t : Tr) (A : Option Addr) (c : Nat) (s : Stp) (As : Option Addr) (cs : Nat) (W : World) : Prop where
  b0 : W.heap[w.heap.size]? = some (.cells #[.int .i64 (Tr.id t), .int .i64 (Tr.kind t), .string (Tr.text t), .slice A (Tr.kids t).length c] 24 (0, 0))
  b1 : W.heap[w.heap.size + 1]? = some (.cells #[.int .i8 (Stp.op s), .int .i64 (Stp.id s), .int .i64 (Stp.par s), .int .i64 (Stp.place s), .string (Stp.text s), .int .i64 (Stp.sub s).id, .int .i64 (Stp.sub s).kind, .string (Stp.sub s).text, .slice As (Stp.sub s).kids.length cs] 27 (0, 0))
  b2 : W.heap[w.heap.size + 2]? = some (.cells #[.int .i64 0, .int .i64 0, .string ⟨#[]⟩, .slice none 0 0] 24 (0, 0))
  chg : Chg [] w W
theorem IvW.kept {w : World} {t : Tr} {A : Option Addr} {c : Nat} {s : Stp} {As : Option Addr} {cs : Nat} {W W' : World} (h : IvW w t A c s As cs W) (hc : Chg [] W W') : IvW w t A c s As cs W' :=
  ⟨hc.at h.b0 (by simp), hc.at h.b1 (by simp), hc.at h.b2 (by simp), h.chg.trans hc⟩
def RBox (w0 xb : Nat) (ss : List Stp) (W : World) : Prop := ∃ v, W.heap[xb]? = some (.cells #[v] 46 (0, 0)) ∧ RowP9 W (fun _ => True) w0 v ss
def SepR (xb : Nat) (W : World) (b : Nat) : Prop := b ≠ xb ∧ ∀ v, W.heap[xb]? = some (.cells #[v] 46 (0, 0)) → v.ownBlock ≠ some b
theorem SepR.of {xb b : Nat} {v : Value} {W : World} (h : W.heap[xb]? = some (.cells #[v] 46 (0, 0))) (h1 : b ≠ xb) (h2 : v.ownBlock ≠ some b) : SepR xb W b :=
  ⟨h1, fun u hu => by rw [h] at hu; simp only [Option.some.injEq, Obj.cells.injEq, Array.mk.injEq, List.cons.injEq, and_true] at hu; rw [← hu]; exact h2⟩
theorem SepR.get {xb b : Nat} {v : Value} {W : World} (h : W.heap[xb]? = some (.cells #[v] 46 (0, 0))) (hs : SepR xb W b) : b ≠ xb ∧ v.ownBlock ≠ some b := ⟨hs.1, hs.2 v h⟩
def InvOne (t : Tr) (s : Stp) (w0 xb : Nat) (L : List Stp) (w : World) (e : Ending) (w' : World) : Prop := match applyT t s with
  | .error n => ∃ A c, e = .returned (.tuple #[.agg #[.int .i64 (Tr.id t), .int .i64 (Tr.kind t), .string (Tr.text t), .slice A (Tr.kids t).length c], .int .i64 n]) ∧ Chg [] w w'
  | .ok y => ∃ A c, e = .returned (.tuple #[.agg #[.int .i64 (Tr.id y), .int .i64 (Tr.kind y), .string (Tr.text y), .slice A (Tr.kids y).length c], .int .i64 0]) ∧ TrC (fun b => w.heap.size ≤ b ∧ b < w'.heap.size ∧ SepR xb w' b) w' y [.int .i64 (Tr.id y), .int .i64 (Tr.kind y), .string (Tr.text y), .slice A (Tr.kids y).length c] ∧ RBox w0 xb (L ++ [invT t s]) w' ∧ Kp w0 [xb] w w'
set_option maxHeartbeats 4000000 in
set_option maxRecDepth 100000 in
theorem invert1_any (w0 xb : Nat) (L : List Stp) (t : Tr) (A : Option Addr) (c : Nat) (s : Stp) (As : Option Addr) (cs : Nat) (w : World) (hx : xb < w0) (hw0 : w0 ≤ w.heap.size) (hL : L.length ≤ 1000000) (hB : RBox w0 xb L w) (hT : TrC (fun b => b < w.heap.size ∧ SepR xb w b) w t [.int .i64 (Tr.id t), .int .i64 (Tr.kind t), .string (Tr.text t), .slice A (Tr.kids t).length c]) (hS : StpC (fun b => b < w0 ∧ b ≠ xb) w s (#[.int .i8 (Stp.op s), .int .i64 (Stp.id s), .int .i64 (Stp.par s), .int .i64 (Stp.place s), .string (Stp.text s), .int .i64 (Stp.sub s).id, .int .i64 (Stp.sub s).kind, .string (Stp.sub s).text, .slice As (Stp.sub s).kids.length cs] : Array Value).toList) :
    Calls Try.prog 70 #[.agg #[.int .i64 (Tr.id t), .int .i64 (Tr.kind t), .string (Tr.text t), .slice A (Tr.kids t).length c], .agg #[.int .i8 (Stp.op s), .int .i64 (Stp.id s), .int .i64 (Stp.par s), .int .i64 (Stp.place s), .string (Stp.text s), .int .i64 (Stp.sub s).id, .int .i64 (Stp.sub s).kind, .string (Stp.sub s).text, .slice As (Stp.sub s).kids.length cs], .pointer (some ⟨xb, 0, none⟩)] w (InvOne t s w0 xb L w) := by
  obtain ⟨W, hW⟩ : ∃ W, W = ((w.alloc (.cells #[.int .i64 (Tr.id t), .int .i64 (Tr.kind t), .string (Tr.text t), .slice A (Tr.kids t).length c] 24)).alloc (.cells #[.int .i8 (Stp.op s), .int .i64 (Stp.id s), .int .i64 (Stp.par s), .int .i64 (Stp.place s), .string (Stp.text s), .int .i64 (Stp.sub s).id, .int .i64 (Stp.sub s).kind, .string (Stp.sub s).text, .slice As (Stp.sub s).kids.length cs] 27)).alloc (.cells #[.int .i64 0, .int .i64 0, .string ⟨#[]⟩, .slice none 0 0] 24) := ⟨_, rfl⟩
  have hU : IvW w t A c s As cs W := ⟨by rw [hW]; exact heap_old (heap_old (heap_new _ _ rfl) _) _, by rw [hW]; exact heap_old (heap_new _ _ (by simp)) _, by rw [hW]; exact heap_new _ _ (by simp), by rw [hW]; exact (by with_reducible repeat (first | exact Chg.refl _ _ | apply Chg.alloc | apply Chg.drew | apply Chg.drewN | (refine Chg.setCell ?_ _ _ (by simp))))⟩
  have hcall := uinvert_any t A c s As cs W ((hT.weak (fun b hb _ => hb.1)).next hU.chg) ((hS.weak (ok' := fun b => b < w.heap.size) (fun b hb _ => by omega)).next hU.chg)
  obtain ⟨p0, p1, p2, p3⟩ := blk4 hU.b0
  obtain ⟨q0, q1, q2, q3, q4, q5, q6, q7, q8⟩ := cells9 hU.b1
  have HW := Lib.hid (And.intro hW (And.intro hU (And.intro hcall (And.intro hT (And.intro hS hB)))))
  rw [hW] at p0 p1 p2 p3 q0 q1 q2 q3 q4 q5 q6 q7 q8
  clear hW hU hcall hT hS hB
  go_enter Try.func70, Try.ntmps70
  go_wp2_with fail
  rw [← HW.out.1]
  clear p0 p1 p2 p3 q0 q1 q2 q3 q4 q5 q6 q7 q8
  have hdo := HW.out.2.2.1
  unfold UndoPost at hdo
  cases hr : applyT t s with
  | error n =>
    simp only [hr] at hdo
    have e0 : (n == 0) = false := by simpa using applyT_ne hr
    have e0' : (n != 0) = true := by simpa using applyT_ne hr
    have HR := Lib.hid hr
    clear hr
    refine hdo.mono ?_
    clear hdo
    rintro e X ⟨rfl, hX⟩
    have hs := HW.out.2.1.kept (hX.alloc (.cells #[.int .i8 0, .int .i64 0, .int .i64 0, .int .i64 0, .string ⟨#[]⟩, .int .i64 0, .int .i64 0, .string ⟨#[]⟩, .slice none 0 0] 27))
    obtain ⟨p0, p1, p2, p3⟩ := blk4 hs.b0
    obtain ⟨r0, r1, r2, r3⟩ := blk4 hs.b2
    have f0 := blkF hs.b2 0
    have f1 := blkF hs.b2 1
    have f2 := blkF hs.b2 2
    have f3 := blkF hs.b2 3
    have HX := Lib.hid hs
    clear hX hs
    go_wp2_with (skip; fail)
    refine bodyPost_ret (v := .tuple #[.agg #[.int .i64 (Tr.id t), .int .i64 (Tr.kind t), .string (Tr.text t), .slice A (Tr.kids t).length c], .int .i64 n]) (results_row_tmp rfl _ _ (w.heap.size + 1 + 1) _ _ _ _ _ rfl rfl (set4 HX.out.b2) Try.underlying24 rfl szNode) rfl ?_
    unfold InvOne
    rw [HR.out]
    exact ⟨A, c, rfl, HX.out.chg.andThen (chg4 _ _ _ _ _ _) (by simp; omega)⟩
  | ok y =>
    simp only [hr] at hdo
    have HR := Lib.hid hr
    clear hr
    refine hdo.mono ?_
    clear hdo
    rintro e X ⟨A', c', rfl, hTi, hX⟩
    obtain ⟨V, hV⟩ : ∃ V, V = X.alloc (.cells #[.int .i8 (Stp.op (invT t s)), .int .i64 (Stp.id (invT t s)), .int .i64 (Stp.par (invT t s)), .int .i64 (Stp.place (invT t s)), .string (Stp.text (invT t s)), .int .i64 (Stp.sub (invT t s)).id, .int .i64 (Stp.sub (invT t s)).kind, .string (Stp.sub (invT t s)).text, .slice A' (Stp.sub (invT t s)).kids.length c'] 27) := ⟨_, rfl⟩
    have hXV : Chg [] X V := by rw [hV]; exact (by with_reducible repeat (first | exact Chg.refl _ _ | apply Chg.alloc | apply Chg.drew | apply Chg.drewN | (refine Chg.setCell ?_ _ _ (by simp))))
    have hs := HW.out.2.1.kept (hX.trans hXV)
    obtain ⟨v, hbx, hrow⟩ := HW.out.2.2.2.2.2
    have hbV := hs.chg.at hbx (by simp)
    have m0 := cellOne hbV
    have HX0 := Lib.hid hbx
    have HV := Lib.hid (And.intro hs (And.intro hV (And.intro hTi hrow)))
    rw [hV] at m0
    have hVs : V.heap.size = X.heap.size + 1 := by rw [hV]; simp
    have hXw : w.heap.size ≤ X.heap.size := by have := HW.out.2.1.chg.size; have := hX.size; omega
    have hWw : w.heap.size ≤ W.heap.size := HW.out.2.1.chg.size
    have hst : StpC (fun b => b ≠ w.heap.size + 2 ∧ w.heap.size ≤ b ∧ b < (V.alloc (.cells #[.int .i8 (Stp.op (invT t s)), .int .i64 (Stp.id (invT t s)), .int .i64 (Stp.par (invT t s)), .int .i64 (Stp.place (invT t s)), .string (Stp.text (invT t s)), .int .i64 (Stp.sub (invT t s)).id, .int .i64 (Stp.sub (invT t s)).kind, .string (Stp.sub (invT t s)).text, .slice A' (Stp.sub (invT t s)).kids.length c'] 27)).heap.size) (V.alloc (.cells #[.int .i8 (Stp.op (invT t s)), .int .i64 (Stp.id (invT t s)), .int .i64 (Stp.par (invT t s)), .int .i64 (Stp.place (invT t s)), .string (Stp.text (invT t s)), .int .i64 (Stp.sub (invT t s)).id, .int .i64 (Stp.sub (invT t s)).kind, .string (Stp.sub (invT t s)).text, .slice A' (Stp.sub (invT t s)).kids.length c'] 27)) (invT t s) (#[.int .i8 (Stp.op (invT t s)), .int .i64 (Stp.id (invT t s)), .int .i64 (Stp.par (invT t s)), .int .i64 (Stp.place (invT t s)), .string (Stp.text (invT t s)), .int .i64 (Stp.sub (invT t s)).id, .int .i64 (Stp.sub (invT t s)).kind, .string (Stp.sub (invT t s)).text, .slice A' (Stp.sub (invT t s)).kids.length c'] : Array Value).toList := by
      obtain ⟨h1, h2, h3⟩ := invT_fit HW.out.2.2.2.1 s
      have hW3 := lt_of_block HW.out.2.1.b2
      refine ⟨A', c', rfl, (hTi.kept (hXV.alloc _) (by simp)).weak (fun b hb _ => ⟨by omega, by omega, by have := hb.2; simp; omega⟩), h1, h2, h3⟩
    clear hs hV hTi hX hXV hbx hrow hbV
    have HVs := Lib.hid hVs
    have hVB : Chg [] V (V.alloc (.cells #[.int .i8 (Stp.op (invT t s)), .int .i64 (Stp.id (invT t s)), .int .i64 (Stp.par (invT t s)), .int .i64 (Stp.place (invT t s)), .string (Stp.text (invT t s)), .int .i64 (Stp.sub (invT t s)).id, .int .i64 (Stp.sub (invT t s)).kind, .string (Stp.sub (invT t s)).text, .slice A' (Stp.sub (invT t s)).kids.length c'] 27)) := (by with_reducible repeat (first | exact Chg.refl _ _ | apply Chg.alloc | apply Chg.drew | apply Chg.drewN | (refine Chg.setCell ?_ _ _ (by simp))))
    have HB := Lib.hid (And.intro hVB hst)
    clear hVs hVB hst hXw hWw
    go_wp2_with (first
      | (rw [← HV.out.2.1]
         refine wpList_push_step rfl (.tmp 19) (.tmp 21) rfl (fun b => b ≠ w.heap.size + 2) w0 v L rfl (HV.out.2.2.2.weak (fun b _ _ hb => by omega)) (HV.out.1.chg.trans HB.out.1) hw0 V.heap.size (invT t s) (#[.int .i8 (Stp.op (invT t s)), .int .i64 (Stp.id (invT t s)), .int .i64 (Stp.par (invT t s)), .int .i64 (Stp.place (invT t s)), .string (Stp.text (invT t s)), .int .i64 (Stp.sub (invT t s)).id, .int .i64 (Stp.sub (invT t s)).kind, .string (Stp.sub (invT t s)).text, .slice A' (Stp.sub (invT t s)).kids.length c'] : Array Value).toList (by rw [HVs.out]; rfl) (heap_new _ _ rfl) (by have := lt_of_block HV.out.1.b2; simp; omega) HB.out.2 hL ?_
         intro v2 Y hrow2 hY
         obtain ⟨A2, c2, hv2⟩ := hrow2.slice
         rw [List.length_append, List.length_singleton] at hv2
         subst hv2
         have hown := HV.out.2.2.2.own
         have hbY := hY.at (HB.out.1.at (HV.out.1.chg.at HX0.out (by simp)) (by simp)) (fun hm => by have := hown xb (by simpa using hm); omega)
         have y0 := cellOne hbY
         have y1 := blkF hbY 0
         obtain ⟨Z, hZ⟩ : ∃ Z, Z = Y.setCell ⟨xb, 0, none⟩ (.slice A2 (L.length + 1) c2) := ⟨_, rfl⟩
         have hYZ : Chg [xb] Y Z := by rw [hZ]; exact (Chg.refl _ _).setCell _ _ (by simp)
         have hbZ : Z.heap[xb]? = some (.cells #[.slice A2 (L.length + 1) c2] 46 (0, 0)) := by rw [hZ]; exact heap_setCell_same _ _ 0 _ _ _ hbY
         have hVY : ∀ (b : Nat) o, V.heap[b]? = some o → b ≠ xb → v.ownBlock ≠ some b → Z.heap[b]? = some o := fun b o hb h1 h2 => hYZ.at (hY.at (HB.out.1.at hb (by simp)) (fun hm => h2 (by simpa using hm))) (by simpa using h1)
         have hz0 := hVY _ _ HV.out.1.b0 (by omega) (fun he => by have := hown _ he; omega)
         have hz1 := hVY _ _ HV.out.1.b1 (by omega) (fun he => by have := hown _ he; omega)
         have hz2 := hVY _ _ HV.out.1.b2 (by omega) (fun he => by have := hown _ he; omega)
         obtain ⟨p0, p1, p2, p3⟩ := blk4 hz0
         obtain ⟨q0, q1, q2, q3, q4, q5, q6, q7, q8⟩ := cells9 hz1
         have HY := Lib.hid (And.intro hrow2 (And.intro hY (And.intro hYZ (And.intro hbZ (And.intro hz2 hZ)))))
         rw [hZ] at p0 p1 p2 p3 q0 q1 q2 q3 q4 q5 q6 q7 q8
         clear hrow2 hY hown hbY hYZ hbZ hVY hz0 hz1 hz2 hZ
         ((try dsimp only); (try simp only [Act.put, List.setIfInBounds_toArray, List.set_cons_zero, List.set_cons_succ])))
      | (skip; fail))
    rw [← HY.out.2.2.2.2.2]
    clear p0 p1 p2 p3 q0 q1 q2 q3 q4 q5 q6 q7 q8 y0 y1
    have hwV : w.heap.size ≤ V.heap.size := HV.out.1.chg.size
    have hown := HV.out.2.2.2.own
    have hVZ : Chg (xb :: v.ownBlock.toList) V Z := (HB.out.1.mono (by simp)).trans ((HY.out.2.1.mono (fun i hi => .inl (List.mem_cons_of_mem _ hi))).trans (HY.out.2.2.1.mono (by simp)))
    have hwZ : Chg (xb :: v.ownBlock.toList) w Z := (HV.out.1.chg.mono (by simp)).trans hVZ
    have hTZ : TrC (fun b => b < Z.heap.size) Z t [.int .i64 (Tr.id t), .int .i64 (Tr.kind t), .string (Tr.text t), .slice A (Tr.kids t).length c] := (HW.out.2.2.2.1.kept hwZ (fun b hb => by
      have h1 := SepR.get HX0.out hb.2
      simp only [List.mem_cons, Option.mem_toList, Option.mem_def, not_or]
      exact h1)).weak (fun b hb _ => Nat.lt_of_lt_of_le hb.1 hwZ.size)
    have hSZ : StpC (fun b => b < Z.heap.size) Z s (#[.int .i8 (Stp.op s), .int .i64 (Stp.id s), .int .i64 (Stp.par s), .int .i64 (Stp.place s), .string (Stp.text s), .int .i64 (Stp.sub s).id, .int .i64 (Stp.sub s).kind, .string (Stp.sub s).text, .slice As (Stp.sub s).kids.length cs] : Array Value).toList := (HW.out.2.2.2.2.1.kept hwZ (fun b hb => by
      simp only [List.mem_cons, Option.mem_toList, Option.mem_def, not_or]
      exact ⟨hb.2, fun he => by have := hown b he; omega⟩)).weak (fun b hb _ => by have := hwZ.size; omega)
    have hap := apply_any t s A c (#[.int .i8 (Stp.op s), .int .i64 (Stp.id s), .int .i64 (Stp.par s), .int .i64 (Stp.place s), .string (Stp.text s), .int .i64 (Stp.sub s).id, .int .i64 (Stp.sub s).kind, .string (Stp.sub s).text, .slice As (Stp.sub s).kids.length cs] : Array Value).toList Z hTZ hSZ
    rw [HR.out] at hap
    have HP := Lib.hid (And.intro hwZ (And.intro hwV hap))
    clear hwV hown hVZ hwZ hTZ hSZ hap
    refine HP.out.2.2.mono ?_
    rintro e U ⟨Ay, cy, rfl, hTy, hU⟩
    have u2 := hU.at HY.out.2.2.2.2.1 (by simp)
    obtain ⟨r0, r1, r2, r3⟩ := blk4 u2
    have f0 := blkF u2 0
    have f1 := blkF u2 1
    have f2 := blkF u2 2
    have f3 := blkF u2 3
    have HU := Lib.hid (And.intro hU (And.intro hTy u2))
    clear hU hTy u2
    go_wp2_with (skip; fail)
    refine bodyPost_ret (v := .tuple #[.agg #[.int .i64 (Tr.id y), .int .i64 (Tr.kind y), .string (Tr.text y), .slice Ay (Tr.kids y).length cy], .int .i64 0]) (results_row_tmp rfl _ _ (w.heap.size + 1 + 1) _ _ _ _ _ rfl rfl (set4 HU.out.2.2) Try.underlying24 rfl szNode) rfl ?_
    have hc4 := chg4 U (w.heap.size + 1 + 1) (.int .i64 y.id) (.int .i64 y.kind) (.string y.text) (.slice Ay y.kids.length cy)
    have hs4 := hc4.size
    have hUs := HU.out.1.size
    have hZs := HP.out.1.size
    have hown2 := HY.out.1.own
    have hown := HV.out.2.2.2.own
    have hVs : V.heap.size ≤ Y.heap.size := by have := HY.out.2.1.size; have := HB.out.1.size; omega
    have hYZs : Z.heap.size = Y.heap.size := by rw [HY.out.2.2.2.2.2]; simp [World.setCell]
    have hbF := hc4.at (HU.out.1.at HY.out.2.2.2.1 (by simp)) (by simp; omega)
    have hrowF := ((HY.out.1.kept (l := [xb]) HY.out.2.2.1 (by simp; omega)).kept (l := []) HU.out.1 (by simp)).kept hc4 (by simp)
    unfold InvOne
    rw [HR.out]
    refine ⟨Ay, cy, rfl, ?_, ⟨_, hbF, ?_⟩, ?_⟩
    · exact (HU.out.2.1.toC.kept hc4 (fun b hb => by simp; have := lt_of_block HY.out.2.2.2.2.1; omega)).weak (fun b hb _ => ⟨by omega, by omega, SepR.of hbF (by omega) (fun he => by have := hown2 b he; omega)⟩)
    · exact hrowF.weak (fun _ _ _ _ => trivial)
    · exact Kp.of_chg ((HP.out.1.trans (HU.out.1.mono (by simp))).andThen hc4 (by simp; omega)) (fun k hk => by
        simp only [List.mem_cons, Option.mem_toList, Option.mem_def] at hk
        rcases hk with hk | hk
        · exact .inr (by simp [hk])
        · exact .inl (hown k hk).1)
end Go.Proofs.Ytofjocjljbkjgaa
namespace Go.Proofs.Ytofjocjljbkjgaa
open Go.RowKit
section
variable {P : Program} {ops : Array Oper} {rest : List Oper} {o : Oper} {a : Act} {w : World} {Q : Exit → Act → World → Prop}
theorem wpList_store_at (hgd : o.guard = none) (T : TypeId) (x y : Operand) (ho : o.op = .store T x y) (g k : Nat) (hx : a.eval x = .pointer (some ⟨g, k, none⟩)) (cells : Array Value) (hy : a.eval y = .agg cells)
    (cur : Array Value) (t : TypeId) (hg : w.heap[g]? = some (.cells cur t (0, 0))) (hi : (P.info? T).map (·.size) = some cells.size) (hfit : k + cells.size ≤ cur.size) (h1 : ∀ u ∈ cells.toList, u.oneCell' = true)
    (h : wpList P ops Q rest (a.put o.dst undef) (w.setRow g (cur.toList.take k ++ cells.toList ++ cur.toList.drop (k + cells.size)).toArray)) : wpList P ops Q (o :: rest) a w := by
  refine wpList_runs hgd ?_ h
  have := run_storeCells_at (P := P) g k t cells.toList 0 cur w hg (by simpa using hfit) h1
  cases hq : P.info? T with
  | none => simp [hq] at hi
  | some i =>
    have hs : cells.size = i.size := by simp [hq] at hi; omega
    simp only [Nat.add_zero, Array.length_toList] at this
    simp [execOp, ho, hx, hy, Instr.storeAt, Instr.sureAddr, storeVar, sizeOf, typeInfo, hq, Value.cells, hs, Result.andThen]
    rw [hs] at this
    rw [this]
    simp
end
theorem take_splice {α : Type} (L cs : List α) (p n T : Nat) (hp : p + n ≤ T) (hT : T ≤ L.length) (hl : cs.length = n) : (L.take p ++ cs ++ L.drop (p + n)).take T = L.take p ++ cs ++ (L.take T).drop (p + n) := by
  have h1 : (L.take p ++ cs).length = p + n := by simp; omega
  rw [List.take_append, List.take_of_length_le (by omega), h1, List.drop_take]
theorem RowR.setAt {w : World} {n base g c i m : Nat} {T : TypeId} {C : Array Value} {css : List (List Value)} {cs : List Value} (h : RowR w n T base (.slice (some ⟨g, 0, none⟩) m c) css) (hm : css.length = m) (hi : i < css.length) (hl : cs.length = n) (hg : w.heap[g]? = some (.cells C T (0, 0))) :
    RowR (w.setRow g (C.toList.take (i * n) ++ cs ++ C.toList.drop (i * n + n)).toArray) n T base (.slice (some ⟨g, 0, none⟩) m c) (css.set i cs) := by
  subst hm
  obtain ⟨g', c', C', e, hb, hg', h1, h2, h3, h4, _⟩ := h.block (by omega)
  injection e with e1 _ e3
  injection e1 with e1
  injection e1 with e1 _ _
  subst e1 e3
  rw [hg] at hg'
  injection hg' with hg'
  injection hg' with hg'
  subst hg'
  have hlen : ∀ x ∈ css.set i cs, x.length = n := fun x hx => by
    rcases List.mem_or_eq_of_mem_set hx with hm | rfl
    · exact h.len x hm
    · exact hl
  have hin : i * n + n ≤ css.length * n := by
    have : (i + 1) * n ≤ css.length * n := Nat.mul_le_mul_right _ (by omega)
    rwa [Nat.add_mul, Nat.one_mul] at this
  have hcn : css.length * n ≤ c * n := Nat.mul_le_mul_right _ h1
  have hCl : C.toList.length = c * n := by simpa using h3
  refine ⟨⟨by rw [flatN _ hlen], .inr ⟨g, c, _, by simp, hb, setRow_heap _ _ _ _ _ _ hg, by simpa using h1, h2, ?_, ?_⟩⟩, hlen⟩
  · simp only [List.size_toArray, List.length_append, List.length_take, List.length_drop, hCl, hl]; omega
  · have et : (css.take i).flatten.length = i * n := by
      rw [flatN _ (fun x hx => h.len x (List.mem_of_mem_take hx)), List.length_take, Nat.min_eq_left (by omega)]
    have e1 : C.toList.take (i * n) = (css.take i).flatten := by
      have e2 : C.toList.take (i * n) = (C.toList.take (css.length * n)).take (i * n) := by rw [List.take_take, Nat.min_eq_left (by omega)]
      rw [e2, h4]
      conv => lhs; rw [← List.take_append_drop i css]
      rw [List.flatten_append, ← et, List.take_left]
    have e3 : (C.toList.take (css.length * n)).drop (i * n + n) = (css.drop (i + 1)).flatten := by
      rw [h4]
      conv => lhs; rw [← List.take_append_drop (i + 1) css]
      have : (css.take (i + 1)).flatten.length = i * n + n := by
        rw [flatN _ (fun x hx => h.len x (List.mem_of_mem_take hx)), List.length_take, Nat.min_eq_left (by omega), Nat.add_mul, Nat.one_mul]
      rw [List.flatten_append, ← this, List.drop_left]
    rw [List.length_set, List.set_eq_take_append_cons_drop, if_pos hi, List.flatten_append, List.flatten_cons, ← e3]
    rw [take_splice _ _ _ _ _ hin (by omega) hl, e1, List.append_assoc]
def putAt (C : Array Value) (i : Nat) (cs : List Value) : Array Value := (C.toList.take (i * 9) ++ cs ++ C.toList.drop (i * 9 + 9)).toArray
theorem putAt_size {C : Array Value} {i : Nat} {cs : List Value} (hl : cs.length = 9) (hC : i * 9 + 9 ≤ C.size) : (putAt C i cs).size = C.size := by
  unfold putAt
  simp only [List.size_toArray, List.length_append, List.length_take, List.length_drop, Array.length_toList, hl]; omega
theorem wpList_put_step {ops : Array Oper} {rest : List Oper} {o : Oper} {a : Act} {w : World} {Q : Exit → Act → World → Prop} (hgd : o.guard = none) (x y : Operand) (ho : o.op = .store 27 x y) (g i : Nat) (hx : a.eval x = .pointer (some ⟨g, i * 9, none⟩)) (cs : List Value) (hy : a.eval y = .agg cs.toArray)
    (cur : Array Value) (hg : w.heap[g]? = some (.cells cur 27 (0, 0))) (h9 : cs.length = 9) (hfit : i * 9 + 9 ≤ cur.size) (h1 : ∀ u ∈ cs, u.oneCell' = true)
    (h : wpList Try.prog ops Q rest (a.put o.dst undef) (w.setRow g (putAt cur i cs))) : wpList Try.prog ops Q (o :: rest) a w := by
  refine wpList_store_at hgd 27 x y ho g (i * 9) hx cs.toArray hy cur 27 hg (by rw [List.size_toArray, h9]; exact szST9) (by rw [List.size_toArray, h9]; exact hfit) h1 ?_
  rw [show (cur.toList.take (i * 9) ++ cs.toArray.toList ++ cur.toList.drop (i * 9 + cs.toArray.size)).toArray = putAt cur i cs from by unfold putAt; simp [h9]]
  exact h
theorem RowP9.low {w : World} {ok : Nat → Prop} {base base' : Nat} {v : Value} {ss : List Stp} (h : RowP9 w ok base v ss) (hb : base' ≤ base) : RowP9 w ok base' v ss := by
  obtain ⟨css, h1, h2, h0, h3⟩ := h.ex
  exact ⟨css, h1.weak hb, h2, h0, fun k s cs hs hcs => (h3 k s cs hs hcs).weak (fun b hb2 _ => ⟨hb2.1, by omega, hb2.2.2⟩)⟩
theorem RowP9.swap {w : World} {ok : Nat → Prop} {base i j m : Nat} {A : Option Addr} {c : Nat} {L : List Stp} (h : RowP9 w ok base (.slice A m c) L) (hi : i < L.length) (hj : j < L.length) :
    ∃ g C ci cj, A = some ⟨g, 0, none⟩ ∧ base ≤ g ∧ m = L.length ∧ w.heap[g]? = some (.cells C 27 (0, 0)) ∧ (∀ k, k < L.length → k * 9 + 9 ≤ C.size) ∧ ci.length = 9 ∧ cj.length = 9 ∧ (∀ u ∈ ci, u.oneCell' = true) ∧ (∀ u ∈ cj, u.oneCell' = true) ∧ w.rangeAt g (i * 9) ci ∧ w.rangeAt g (j * 9) cj ∧
      RowP9 ((w.setRow g (putAt C i cj)).setRow g (putAt (putAt C i cj) j ci)) ok base (.slice A m c) ((L.set i L[j]).set j L[i]) := by
  obtain ⟨css, h1, h2, h0, h3⟩ := h.ex
  obtain ⟨g, c', C, e, hb, hg, hcl, hcm, hCs, htk, hr⟩ := h1.block (by omega)
  injection e with e1 e2 e3
  subst e1 e2 e3
  have hi' : i < css.length := by omega
  have hj' : j < css.length := by omega
  have hSi := h3 i _ _ (List.getElem?_eq_getElem hi) (List.getElem?_eq_getElem hi')
  have hSj := h3 j _ _ (List.getElem?_eq_getElem hj) (List.getElem?_eq_getElem hj')
  have hsz : ∀ k, k < L.length → k * 9 + 9 ≤ C.size := fun k hk => by rw [hCs]; omega
  refine ⟨g, C, css[i], css[j], rfl, hb, h2, hg, hsz, hSi.nine, hSj.nine, hSi.one, hSj.one, hr i hi', hr j hj', ?_⟩
  have hg1 : (w.setRow g (putAt C i css[j])).heap[g]? = some (.cells (putAt C i css[j]) 27 (0, 0)) := setRow_heap _ _ _ _ _ _ hg
  have r1 := RowR.setAt h1 rfl hi' hSj.nine hg
  have r2 := RowR.setAt (i := j) (cs := css[i]) r1 (by simp) (by simpa using hj') hSi.nine hg1
  have hch : Chg [g] w ((w.setRow g (putAt C i css[j])).setRow g (putAt (putAt C i css[j]) j css[i])) := (setRow_chg w g _).trans (setRow_chg _ g _)
  refine ⟨(css.set i css[j]).set j css[i], r2, by simp [h2], h0, fun k s cs hs hcs => ?_⟩
  have hat : ∃ k' : Nat, L[k']? = some s ∧ css[k']? = some cs := by
    rw [List.getElem?_set] at hs hcs
    simp only [List.length_set] at hs hcs
    by_cases hkj : j = k
    · rw [if_pos hkj, if_pos (by omega)] at hs hcs
      cases hs; cases hcs
      exact ⟨i, List.getElem?_eq_getElem hi, List.getElem?_eq_getElem hi'⟩
    · rw [if_neg hkj, List.getElem?_set] at hs hcs
      by_cases hki : i = k
      · rw [if_pos hki, if_pos (by omega)] at hs hcs
        cases hs; cases hcs
        exact ⟨j, List.getElem?_eq_getElem hj, List.getElem?_eq_getElem hj'⟩
      · rw [if_neg hki] at hs hcs
        exact ⟨k, hs, hcs⟩
  obtain ⟨k', q1, q2⟩ := hat
  refine ((h3 k' s cs q1 q2).kept hch (fun b hb hm => ?_)).weak (fun b hb _ => ⟨hb.1, hb.2.1, Nat.lt_of_lt_of_le hb.2.2.1 hch.size, hb.2.2.2⟩)
  simp only [List.mem_singleton] at hm
  exact hb.2.2.2 (by rw [hm]; rfl)
def Mir {α : Type} (L cur : List α) (k : Nat) : Prop := cur.length = L.length ∧ ∀ p, p < L.length → cur[p]? = if k ≤ p ∧ p + k < L.length then L[L.length - 1 - p]? else L[p]?
theorem Mir.start {α : Type} (L : List α) : Mir L L (L.length / 2) := ⟨rfl, fun p hp => by
  split
  · rw [show L.length - 1 - p = p by omega]
  · rfl⟩
theorem Mir.next {α : Type} {L cur : List α} {i r : Nat} (h : Mir L cur (i + 1)) (hi : i + 1 ≤ L.length / 2) (hr : r = L.length - 1 - i) (hil : i < cur.length) (hrl : r < cur.length) : Mir L ((cur.set i cur[r]).set r cur[i]) i := by
  obtain ⟨h1, h2⟩ := h
  subst hr
  refine ⟨by simp [h1], fun p hp => ?_⟩
  have ei := h2 i (by omega)
  have ej := h2 (L.length - 1 - i) (by omega)
  rw [if_neg (by omega), List.getElem?_eq_getElem (by omega)] at ei
  rw [if_neg (by omega), List.getElem?_eq_getElem (by omega)] at ej
  by_cases hj : p = L.length - 1 - i
  · subst hj
    rw [List.getElem?_set_self (by simp; omega), if_pos (by omega), ei]
    congr 1; omega
  · rw [List.getElem?_set_ne (by omega)]
    by_cases hpi : p = i
    · subst hpi
      rw [List.getElem?_set_self (by omega), if_pos (by omega), ej]
    · rw [List.getElem?_set_ne (by omega), h2 p hp]
      by_cases hc : i + 1 ≤ p ∧ p + (i + 1) < L.length
      · rw [if_pos hc, if_pos (by omega)]
      · rw [if_neg hc, if_neg (by omega)]
theorem Mir.done {α : Type} {L cur : List α} (h : Mir L cur 0) : cur = L.reverse := by
  apply List.ext_getElem?
  intro p
  by_cases hp : p < L.length
  · rw [h.2 p hp, if_pos (by omega), List.getElem?_reverse hp]
  · rw [List.getElem?_eq_none (by have := h.1; omega), List.getElem?_eq_none (by simp; omega)]
theorem foldF_len {f : Tr → Stp → Except Int Tr} (hf : ∀ x s n, f x s = .error n → n ≠ 0) : ∀ (l : List Stp) (t : Tr) (i : Nat), (foldF f t l i).2.2 = 0 → (foldF f t l i).2.1 = i + l.length
  | [], t, i, _ => rfl
  | s :: l, t, i, h => by
    unfold foldF at h ⊢
    cases hx : f t s with
    | error n => rw [hx] at h; exact absurd h (hf t s n hx)
    | ok y => rw [hx] at h; simp only [] at h ⊢; rw [foldF_len hf l y (i + 1) h, List.length_cons]; omega
end Go.Proofs.Ytofjocjljbkjgaa
namespace Go.Proofs.Ytofjocjljbkjgaa
open Go.RowKit
def put4 (C : Array Value) (o : Nat) (cs : List Value) : Array Value := (C.toList.take o ++ cs ++ C.toList.drop (o + 4)).toArray
theorem wpList_put_node {ops : Array Oper} {rest : List Oper} {o : Oper} {a : Act} {w : World} {Q : Exit → Act → World → Prop} (hgd : o.guard = none) (x y : Operand) (ho : o.op = .store 24 x y) (g k : Nat) (hx : a.eval x = .pointer (some ⟨g, k, none⟩)) (cs : List Value) (hy : a.eval y = .agg cs.toArray)
    (cur : Array Value) (hg : w.heap[g]? = some (.cells cur 24 (0, 0))) (h4 : cs.length = 4) (hfit : k + 4 ≤ cur.size) (h1 : ∀ u ∈ cs, u.oneCell' = true)
    (h : wpList Try.prog ops Q rest (a.put o.dst undef) (w.setRow g (put4 cur k cs))) : wpList Try.prog ops Q (o :: rest) a w := by
  refine wpList_store_at hgd 24 x y ho g k hx cs.toArray hy cur 24 hg (by rw [List.size_toArray, h4]; exact szNode) (by rw [List.size_toArray, h4]; exact hfit) h1 ?_
  rw [show (cur.toList.take k ++ cs.toArray.toList ++ cur.toList.drop (k + cs.toArray.size)).toArray = put4 cur k cs from by unfold put4; simp [h4]]
  exact h
end Go.Proofs.Ytofjocjljbkjgaa
namespace Go.Proofs.Ytofjocjljbkjgaa
open Go.RowKit
section
variable {P : Program} {ops : Array Oper} {Q : Exit → Act → World → Prop} {md : Region.Mode} {S : World → Prop} {eff brk : Nat → Bool}
theorem M_two_brk {i j : Nat} {oi oj : Oper} {fuel : Nat} {listed : Array Bool} {a : Act} {w : World} (hi0 : ops.toList[i]? = some oi) (hj0 : ops.toList[j]? = some oj) (hr : Region.ready md ops listed = [i, j]) (hei : eff i = true) (hej : eff j = true) (hbi : brk i = true) (hbj : brk j = true)
    (h : wpList P ops (EffQ Q (fun a' w' => wpAnyM P md ops Q S eff brk fuel (listed.setIfInBounds i true) a' w')) [oi] a w)
    (k : wpList P ops (EffQ Q (fun a' w' => wpAnyM P md ops Q S eff brk fuel (listed.setIfInBounds j true) a' w')) [oj] a w) : wpAnyM P md ops Q S eff brk (fuel + 1) listed a w := by
  have key : ∀ (x : Nat) (ox : Oper), ops[x]? = some ox → eff x = true → brk x = true → wpList P ops (EffQ Q (fun a' w' => wpAnyM P md ops Q S eff brk fuel (listed.setIfInBounds x true) a' w')) [ox] a w →
      wpOp P ops Q x (fun a' w' => (eff x = false → w' = w) ∧ (brk x = false → S w → S w') ∧ wpAnyM P md ops Q S eff brk fuel (listed.setIfInBounds x true) a' w') a w := by
    intro x ox hx he hb h
    refine wpOp_mono (K := fun a' w' => wpAnyM P md ops Q S eff brk fuel (listed.setIfInBounds x true) a' w') (fun a' w' h => ⟨fun h0 => (by rw [he] at h0; cases h0), fun h0 => (by rw [hb] at h0; cases h0), h⟩) ?_
    unfold wpOp
    simp only [hx]
    unfold wpList at h
    split
    · rename_i hw
      rw [if_pos hw] at h
      rcases h with h | ⟨h1, a', w', h2⟩
      · exact .inl (wp_of_EffQ (Oper.wp_mono (fun a w h => h) h))
      · exact .inr ⟨h1, a', w', h2⟩
    · rename_i hw
      rw [if_neg hw] at h
      exact h
  refine ⟨fun h0 => (by rw [h0] at hr; cases hr), fun x hx => ?_⟩
  rw [hr] at hx
  rcases List.mem_cons.1 hx with rfl | hx
  · exact key _ _ (by simpa using hi0) hei hbi h
  · obtain rfl := List.mem_singleton.1 hx
    exact key _ _ (by simpa using hj0) hej hbj k
end
theorem RowN.last {w : World} {ok : Nat → Prop} {base c : Nat} {A : Option Addr} {ks : List Tr} {z y : Tr} {cs : List Value} (h : RowN w ok base (.slice A (ks.length + 1) c) (ks ++ [z])) (hy : TrC (fun b => ok b ∧ b < w.heap.size ∧ ∀ g, A = some ⟨g, 0, none⟩ → g ≠ b) w y cs) :
    ∃ g C, A = some ⟨g, 0, none⟩ ∧ base ≤ g ∧ w.heap[g]? = some (.cells C 24 (0, 0)) ∧ ks.length * 4 + 4 ≤ C.size ∧ RowN (w.setRow g (put4 C (ks.length * 4) cs)) ok base (.slice A (ks.length + 1) c) (ks ++ [y]) := by
  obtain ⟨css, h1, h2, h3⟩ := h.ex
  have hcl : css.length = ks.length + 1 := by rw [h2]; simp
  obtain ⟨g, c', C, e, hb, hg, hle, _, hCs, _, _⟩ := h1.block (by omega)
  injection e with e1 e2 e3
  subst e1 e3
  have hsz : ks.length * 4 + 4 ≤ C.size := by rw [hCs]; omega
  refine ⟨g, C, rfl, hb, hg, hsz, ?_⟩
  have hi : ks.length < css.length := by omega
  have r1 := RowR.setAt (i := ks.length) (cs := cs) h1 hcl hi hy.four hg
  have hch : Chg [g] w (w.setRow g (put4 C (ks.length * 4) cs)) := setRow_chg w g _
  refine ⟨css.set ks.length cs, r1, by simp [hcl], fun k t cs2 ht hcs2 => ?_⟩
  have hlt := (List.getElem?_eq_some_iff.1 ht).1
  simp only [List.length_append, List.length_singleton] at hlt
  have hmv : ∀ (t : Tr) (cs : List Value), TrC (fun b => ok b ∧ b < w.heap.size ∧ (Value.slice (some ⟨g, 0, none⟩) (ks.length + 1) c).ownBlock ≠ some b) w t cs → TrC (fun b => ok b ∧ b < (w.setRow g (put4 C (ks.length * 4) cs2)).heap.size ∧ (Value.slice (some ⟨g, 0, none⟩) (ks.length + 1) c).ownBlock ≠ some b) (w.setRow g (put4 C (ks.length * 4) cs2)) t cs := fun t cs h => by
    have hch2 : Chg [g] w (w.setRow g (put4 C (ks.length * 4) cs2)) := setRow_chg w g _
    exact (h.kept hch2 (fun b hb hm => hb.2.2 (by simp only [List.mem_singleton] at hm; rw [hm]; rfl))).weak (fun b hb _ => ⟨hb.1, Nat.lt_of_lt_of_le hb.2.1 hch2.size, hb.2.2⟩)
  by_cases hk : k = ks.length
  · subst hk
    rw [List.getElem?_append_right (Nat.le_refl _), Nat.sub_self] at ht
    rw [List.getElem?_set_self (by omega)] at hcs2
    simp at ht hcs2
    subst ht hcs2
    exact hmv _ _ (hy.weak (fun b hb _ => ⟨hb.1, hb.2.1, fun e => hb.2.2 g rfl (by simpa [Value.ownBlock] using e)⟩))
  · rw [List.getElem?_set_ne (by omega)] at hcs2
    have h4 := h3 k t cs2 (by rw [List.getElem?_append_left (by omega)] at ht ⊢; exact ht) hcs2
    refine (h4.kept hch (fun b hb hm => hb.2.2 (by simp only [List.mem_singleton] at hm; rw [hm]; rfl))).weak (fun b hb _ => ⟨hb.1, Nat.lt_of_lt_of_le hb.2.1 hch.size, hb.2.2⟩)
end Go.Proofs.Ytofjocjljbkjgaa
namespace Go.Proofs.Ytofjocjljbkjgaa
open Go.RowKit
def NRow (base ab : Nat) (ks : List Tr) (W : World) : Prop := ∃ v, W.heap[ab]? = some (.cells #[v] 22 (0, 0)) ∧ RowN W (fun b => base ≤ b) base v ks
def SepN (ab : Nat) (W : World) (b : Nat) : Prop := b ≠ ab ∧ ∀ v, W.heap[ab]? = some (.cells #[v] 22 (0, 0)) → v.ownBlock ≠ some b
theorem SepN.of {ab b : Nat} {v : Value} {W : World} (h : W.heap[ab]? = some (.cells #[v] 22 (0, 0))) (h1 : b ≠ ab) (h2 : v.ownBlock ≠ some b) : SepN ab W b :=
  ⟨h1, fun u hu => by rw [h] at hu; simp only [Option.some.injEq, Obj.cells.injEq, Array.mk.injEq, List.cons.injEq, and_true] at hu; rw [← hu]; exact h2⟩
def EachOne (res : Except Int Tr) (base ab : Nat) (L : List Tr) (w : World) (e : Ending) (w' : World) : Prop := match res with
  | .error n => e = .returned (.tuple #[.agg #[.int .i64 0, .int .i64 0, .string ⟨#[]⟩, .slice none 0 0], .int .i64 n]) ∧ Chg [] w w'
  | .ok y => ∃ A c, e = .returned (.tuple #[.agg #[.int .i64 (Tr.id y), .int .i64 (Tr.kind y), .string (Tr.text y), .slice A (Tr.kids y).length c], .int .i64 0]) ∧ TrC (fun b => w.heap.size ≤ b ∧ b < w'.heap.size ∧ SepN ab w' b) w' y [.int .i64 (Tr.id y), .int .i64 (Tr.kind y), .string (Tr.text y), .slice A (Tr.kids y).length c] ∧ NRow base ab (L ++ [y]) w' ∧ Kp base [ab] w w'
structure EcB (w : World) (x : Tr) (A : Option Addr) (c : Nat) (s : Stp) (As : Option Addr) (cs : Nat) (W : World) : Prop where
  b0 : W.heap[w.heap.size]? = some (.cells #[.int .i64 (Tr.id x), .int .i64 (Tr.kind x), .string (Tr.text x), .slice A (Tr.kids x).length c] 24 (0, 0))
  b1 : W.heap[w.heap.size + 1]? = some (.cells #[.int .i8 (Stp.op s), .int .i64 (Stp.id s), .int .i64 (Stp.par s), .int .i64 (Stp.place s), .string (Stp.text s), .int .i64 (Stp.sub s).id, .int .i64 (Stp.sub s).kind, .string (Stp.sub s).text, .slice As (Stp.sub s).kids.length cs] 27 (0, 0))
  b2 : W.heap[w.heap.size + 2]? = some (.cells #[.int .i64 0, .int .i64 0, .string ⟨#[]⟩, .slice none 0 0] 24 (0, 0))
  chg : Chg [] w W
theorem EcB.kept {w : World} {x : Tr} {A : Option Addr} {c : Nat} {s : Stp} {As : Option Addr} {cs : Nat} {W W' : World} (h : EcB w x A c s As cs W) (hc : Chg [] W W') : EcB w x A c s As cs W' :=
  ⟨hc.at h.b0 (by simp), hc.at h.b1 (by simp), hc.at h.b2 (by simp), h.chg.trans hc⟩
set_option maxHeartbeats 4000000 in
set_option maxRecDepth 100000 in
theorem each1_any (g : Gr) (j : GJ) (hj : j.Of g) (Ag : Option Addr) (cg bg base ab : Nat) (L : List Tr) (x : Tr) (A : Option Addr) (c : Nat) (s : Stp) (As : Option Addr) (cs : Nat) (w : World) (hG : GBox g Ag cg bg w) (hab : ab < base) (hbw : base ≤ w.heap.size) (hL : L.length ≤ 100000) (hR : NRow base ab L w) (hT : TrC (fun b => b < w.heap.size ∧ SepN ab w b) w x [.int .i64 (Tr.id x), .int .i64 (Tr.kind x), .string (Tr.text x), .slice A (Tr.kids x).length c]) (hS : StpC (fun b => b < base ∧ b ≠ ab) w s (#[.int .i8 (Stp.op s), .int .i64 (Stp.id s), .int .i64 (Stp.par s), .int .i64 (Stp.place s), .string (Stp.text s), .int .i64 (Stp.sub s).id, .int .i64 (Stp.sub s).kind, .string (Stp.sub s).text, .slice As (Stp.sub s).kids.length cs] : Array Value).toList) :
    Calls Try.prog 76 #[.agg #[.int .i64 (Tr.id x), .int .i64 (Tr.kind x), .string (Tr.text x), .slice A (Tr.kids x).length c], .agg #[.int .i8 (Stp.op s), .int .i64 (Stp.id s), .int .i64 (Stp.par s), .int .i64 (Stp.place s), .string (Stp.text s), .int .i64 (Stp.sub s).id, .int .i64 (Stp.sub s).kind, .string (Stp.sub s).text, .slice As (Stp.sub s).kids.length cs], .pointer (some ⟨bg, 0, none⟩), .pointer (some ⟨ab, 0, none⟩)] w (EachOne (doJ j x s) base ab L w) := by
  obtain ⟨ip, hi, hz0, hz1, hz2⟩ := info_parts infoNode
  have HI := Lib.hid (And.intro hi (And.intro hz0 (And.intro hz1 hz2)))
  obtain ⟨W, hW⟩ : ∃ W, W = ((w.alloc (.cells #[.int .i64 (Tr.id x), .int .i64 (Tr.kind x), .string (Tr.text x), .slice A (Tr.kids x).length c] 24)).alloc (.cells #[.int .i8 (Stp.op s), .int .i64 (Stp.id s), .int .i64 (Stp.par s), .int .i64 (Stp.place s), .string (Stp.text s), .int .i64 (Stp.sub s).id, .int .i64 (Stp.sub s).kind, .string (Stp.sub s).text, .slice As (Stp.sub s).kids.length cs] 27)).alloc (.cells #[.int .i64 0, .int .i64 0, .string ⟨#[]⟩, .slice none 0 0] 24) := ⟨_, rfl⟩
  have hU : EcB w x A c s As cs W := by rw [hW]; exact ⟨heap_old (heap_old (heap_new _ _ rfl) _) _, heap_old (heap_new _ _ (by simp)) _, heap_new _ _ (by simp), (by with_reducible repeat (first | exact Chg.refl _ _ | apply Chg.alloc | apply Chg.drew | apply Chg.drewN | (refine Chg.setCell ?_ _ _ (by simp))))⟩
  obtain ⟨g0, g1⟩ := cell2 (hU.chg.at hG.1 (by simp))
  obtain ⟨p0, p1, p2, p3⟩ := blk4 hU.b0
  obtain ⟨q0, q1, q2, q3, q4, q5, q6, q7, q8⟩ := cells9 hU.b1
  have hdo := do_any g j hj Ag cg x s A c (#[.int .i8 (Stp.op s), .int .i64 (Stp.id s), .int .i64 (Stp.par s), .int .i64 (Stp.place s), .string (Stp.text s), .int .i64 (Stp.sub s).id, .int .i64 (Stp.sub s).kind, .string (Stp.sub s).text, .slice As (Stp.sub s).kids.length cs] : Array Value).toList W (hG.2.kept hU.chg) ((hT.weak (fun b hb _ => hb.1)).next hU.chg) ((hS.weak (ok' := fun b => b < w.heap.size) (fun b hb _ => by omega)).next hU.chg)
  have HW := Lib.hid (And.intro hW (And.intro hU (And.intro hdo (And.intro hR (And.intro hT hS)))))
  rw [hW] at g0 g1 p0 p1 p2 p3 q0 q1 q2 q3 q4 q5 q6 q7 q8
  have hl2 := lt_of_block hU.b2
  clear hW hU hdo hG hT hS hj hR hi hz0 hz1 hz2
  go_enter Try.func76, Try.ntmps76
  go_wp2_with fail
  rw [← HW.out.1]
  clear g0 g1 p0 p1 p2 p3 q0 q1 q2 q3 q4 q5 q6 q7 q8
  have hdo := HW.out.2.2.1
  unfold ApplyPost at hdo
  cases hr : doJ j x s with
  | error n =>
    simp only [hr] at hdo
    have e0 : (n == 0) = false := by simpa using doJ_ne hr
    have e0' : (n != 0) = true := by simpa using doJ_ne hr
    have HR := Lib.hid hr
    clear hr
    refine hdo.mono ?_
    clear hdo
    rintro e X ⟨rfl, hX⟩
    have hs := HW.out.2.1.kept (hX.alloc (.cells #[.int .i64 0, .int .i64 0, .string ⟨#[]⟩, .slice none 0 0] 24))
    obtain ⟨r0, r1, r2, r3⟩ := blk4 hs.b2
    have f0 := blkF hs.b2 0
    have f1 := blkF hs.b2 1
    have f2 := blkF hs.b2 2
    have f3 := blkF hs.b2 3
    have HX := Lib.hid hs
    clear hX hs
    go_wp2_with (skip; fail)
    refine bodyPost_ret (v := .tuple #[.agg #[.int .i64 0, .int .i64 0, .string ⟨#[]⟩, .slice none 0 0], .int .i64 n]) (results_row_tmp rfl _ _ (w.heap.size + 1 + 1) _ _ _ _ _ rfl rfl (set4 HX.out.b2) Try.underlying24 rfl szNode) rfl ?_
    unfold EachOne
    rw [HR.out]
    exact ⟨rfl, HX.out.chg.andThen (chg4 _ _ _ _ _ _) (by simp; omega)⟩
  | ok y =>
    simp only [hr] at hdo
    have HR := Lib.hid hr
    clear hr
    refine hdo.mono ?_
    clear hdo
    rintro e X ⟨Ay, cy, rfl, hTy, hX⟩
    obtain ⟨Y, hY⟩ : ∃ Y, Y = X.alloc (.cells #[.int .i64 (Tr.id y), .int .i64 (Tr.kind y), .string (Tr.text y), .slice Ay (Tr.kids y).length cy] 24) := ⟨_, rfl⟩
    have hXY : Chg [] X Y := by rw [hY]; exact (by with_reducible repeat (first | exact Chg.refl _ _ | apply Chg.alloc | apply Chg.drew | apply Chg.drewN | (refine Chg.setCell ?_ _ _ (by simp))))
    have hs := HW.out.2.1.kept (hX.trans hXY)
    have b8 : Y.heap[X.heap.size]? = some (.cells #[.int .i64 (Tr.id y), .int .i64 (Tr.kind y), .string (Tr.text y), .slice Ay (Tr.kids y).length cy] 24 (0, 0)) := by rw [hY]; exact heap_new _ _ rfl
    obtain ⟨v, hbx, hrow⟩ := HW.out.2.2.2.1
    obtain ⟨b8n, hb8n⟩ : ∃ b, b = X.heap.size := ⟨_, rfl⟩
    rw [← hb8n] at b8
    have HV := Lib.hid (And.intro hY (And.intro hs (And.intro b8 (And.intro hbx (And.intro hrow (And.intro ((hTy.toC.kept hXY (by simp)).weak (ok' := fun b => W.heap.size ≤ b ∧ b < Y.heap.size ∧ b ≠ b8n) (fun b hb _ => ⟨hb.1, by have := hXY.size; omega, by omega⟩)) (And.intro (show W.heap.size ≤ b8n by rw [hb8n]; exact hX.size) hb8n)))))))
    clear hTy hX hXY hs b8 hbx hrow hY hb8n
    go_wp2_with (skip; fail)
    rw [← HV.out.1, ← HV.out.2.2.2.2.2.2.2]
    obtain ⟨Av, cv, hv⟩ := HV.out.2.2.2.2.1.slice
    subst hv
    refine wp_region_M (fun W => W.cell? ⟨ab, 0, none⟩ = some (.slice Av L.length cv) ∧ W.rangeAt b8n 0 [.int .i64 (Tr.id y), .int .i64 (Tr.kind y), .string (Tr.text y), .slice Ay (Tr.kids y).length cy]) (fun k => [3, 4, 6, 7].contains k) (fun k => [6, 7].contains k) (by kernel_rfl) ?_
    obtain ⟨Q, hQ⟩ : ∃ Q, Q = Y.drew := ⟨_, rfl⟩
    rw [← hQ]
    have hYQ : Chg [] Y Q := by rw [hQ]; exact (Chg.refl _ _).drew
    clear hQ
    have hbQ := (HV.out.2.1.chg.trans hYQ).at HV.out.2.2.2.1 (by simp)
    have h8Q := hYQ.at HV.out.2.2.1 (by simp)
    have hS : Q.cell? ⟨ab, 0, none⟩ = some (.slice Av L.length cv) ∧ Q.rangeAt b8n 0 [.int .i64 (Tr.id y), .int .i64 (Tr.kind y), .string (Tr.text y), .slice Ay (Tr.kids y).length cy] := ⟨cellOne hbQ, range_all h8Q⟩
    have HQ := Lib.hid (And.intro hYQ (And.intro hbQ h8Q))
    clear hYQ hbQ h8Q
    ((try dsimp only); (try simp only [Act.put, List.setIfInBounds_toArray, List.set_cons_zero, List.set_cons_succ]))
    refine M_semi (i := 0) (v := ?_) rfl (by kernel_rfl) (by kernel_rfl) (by kernel_rfl) (by kernel_rfl) (fun _ _ _ h => h) (by rfl) hS ?hy ?_
    case hy => (intro w' hS; have h2 := hS.1; clear hS; go_simp; with_reducible rfl)
    ((try dsimp only); (try simp only [Act.put, List.setIfInBounds_toArray, List.set_cons_zero, List.set_cons_succ]))
    refine M_semi (i := 1) rfl (by kernel_rfl) (by kernel_rfl) (by kernel_rfl) (by kernel_rfl) (fun _ _ _ h => h) (by rfl) hS (fun W hS => exec_load_mid 24 (.tmp 8) rfl b8n 0 rfl _ _ hS.2 Try.underlying24 rfl szNode) ?_; ((try dsimp only); (try simp only [Act.put, List.setIfInBounds_toArray, List.set_cons_zero, List.set_cons_succ]))
    refine M_pure (i := 2) (v := ?_) rfl (by kernel_rfl) (by kernel_rfl) (by kernel_rfl) (fun _ _ _ h => h) (by rfl) ?hy ?_; (case hy => (intro w; go_simp; with_reducible rfl)); ((try dsimp only); (try simp only [Act.put, List.setIfInBounds_toArray, List.set_cons_zero, List.set_cons_succ]))
    refine M_eff (i := 3) rfl (by kernel_rfl) (by rfl) ?_
    refine wpList_slice_one rfl 22 24 (.const (.agg #[.int .i64 0, .int .i64 0, .string ⟨#[]⟩, .slice none 0 0])) rfl Try.underlying22 ip _ HI.out.1 HI.out.2.1 (by rw [HI.out.2.2.1]; rfl) (by rw [HI.out.2.2.1]; omega) (by rw [HI.out.2.2.1]; omega) (.agg #[.int .i64 0, .int .i64 0, .string ⟨#[]⟩, .slice none 0 0]) rfl (by rw [HI.out.2.2.1]; rfl) ?_
    obtain ⟨Q1, hQ1⟩ : ∃ Q1, Q1 = Q.alloc (.cells (Value.agg #[.int .i64 0, .int .i64 0, .string ⟨#[]⟩, .slice none 0 0]).cells 24) := ⟨_, rfl⟩
    have hQQ1 : Chg [] Q Q1 := by rw [hQ1]; exact (by with_reducible repeat (first | exact Chg.refl _ _ | apply Chg.alloc | apply Chg.drew | apply Chg.drewN | (refine Chg.setCell ?_ _ _ (by simp))))
    have hz1 : Q1.heap[Q.heap.size]? = some (.cells #[.int .i64 0, .int .i64 0, .string ⟨#[]⟩, .slice none 0 0] 24 (0, 0)) := by rw [hQ1]; exact heap_new _ _ rfl
    have hsz1 : Q1.heap.size = Q.heap.size + 1 := by rw [hQ1]; simp
    rw [← hQ1]
    obtain ⟨gz, hgz⟩ : ∃ gz, gz = Q.heap.size := ⟨_, rfl⟩
    rw [← hgz]
    rw [← hgz] at hz1 hsz1
    have hS1 : Q1.cell? ⟨ab, 0, none⟩ = some (.slice Av L.length cv) ∧ Q1.rangeAt b8n 0 [.int .i64 (Tr.id y), .int .i64 (Tr.kind y), .string (Tr.text y), .slice Ay (Tr.kids y).length cy] := ⟨hQQ1.cell hS.1 (by simp), range_all (hQQ1.at HQ.out.2.2 (by simp))⟩
    have H1 := Lib.hid (And.intro (HQ.out.1.trans hQQ1) (And.intro hz1 (And.intro hsz1 (show gz = Q.heap.size from hgz))))
    clear hQQ1 hz1 hsz1 hQ1 hgz hS
    refine wpList_nil ⟨hS1, ?_⟩
    ((try dsimp only); (try simp only [Act.put, List.setIfInBounds_toArray, List.set_cons_zero, List.set_cons_succ]))
    refine M_eff (i := 4) rfl (by kernel_rfl) (by rfl) ?_
    have hown : ∀ b, (Value.slice Av L.length cv).ownBlock = some b → base ≤ b ∧ b < w.heap.size := HV.out.2.2.2.2.1.own
    refine wpList_append_nodes rfl (.tmp 19) (.tmp 22) rfl (fun b => base ≤ b ∧ b ≠ w.heap.size + 2) base (.slice Av L.length cv) L rfl (HV.out.2.2.2.2.1.weak (fun b hb hl => ⟨hb, by omega⟩)) (HV.out.2.1.chg.trans H1.out.1) (by simp) hbw (some ⟨gz, 0, none⟩) 1 1 [zeroT] rfl rfl (SrcN.one (cs := (#[.int .i64 0, .int .i64 0, .string ⟨#[]⟩, .slice none 0 0] : Array Value).toList) H1.out.2.1 (zeroC _ _)) (by omega) (by simp) ?_
    intro v2 Z hR2 hc2 hat2
    have hbZ := hc2.at (H1.out.1.at (HV.out.2.1.chg.at HV.out.2.2.2.1 (by simp)) (by simp)) (fun h => by have := (hown ab (by simpa using h)).1; omega)
    have hb8w : w.heap.size ≤ b8n := Nat.le_trans HW.out.2.1.chg.size HV.out.2.2.2.2.2.2.1
    have h8Z := hc2.at (H1.out.1.at HV.out.2.2.1 (by simp)) (fun h => by have := (hown b8n (by simpa using h)).2; omega)
    have hTy := (HV.out.2.2.2.2.2.1.kept H1.out.1 (by simp)).kept hc2 (fun b hb hm => by have := (hown b (by simpa using hm)).2; have := HW.out.2.1.chg.size; have := hb.1; omega)
    have hYs := H1.out.1.size
    have hWs := HW.out.2.1.chg.size
    have hZs := hc2.size
    have hwY := HV.out.2.1.chg.size
    obtain ⟨A2, c2, e2⟩ := hR2.slice
    rw [List.length_append, List.length_singleton] at e2
    subst e2
    have hno : ∀ g, A2 = some ⟨g, 0, none⟩ → base ≤ g ∧ (g < w.heap.size ∨ g = Q1.heap.size) := fun g e => by
      rcases hat2 with h | h
      · rw [e] at h
        have := hown g (by rw [← h]; rfl)
        exact ⟨this.1, .inl this.2⟩
      · rw [e] at h
        simp only [Value.ownBlock, Option.some.injEq] at h
        exact ⟨by omega, .inr h⟩
    have hTz := (hTy.weak (ok' := fun b => (base ≤ b ∧ b ≠ w.heap.size + 2) ∧ b < Z.heap.size ∧ ∀ g, A2 = some ⟨g, 0, none⟩ → g ≠ b) (fun b hb _ => ⟨⟨by have := hb.1; omega, by have := hb.1; omega⟩, by have := hb.2.1; omega, fun g e h => by have h8 := hb.1; have h9 := hb.2.1; rcases (hno g e).2 with h1 | h1 <;> omega⟩))
    obtain ⟨g, C, hA2, hg, hgC, hsC, hlast⟩ := hR2.last hTz
    have HTz := Lib.hid hTz
    clear hTz
    obtain ⟨p, hp⟩ : ∃ p, p = L.length * 4 := ⟨_, rfl⟩
    have hSZ : Z.cell? ⟨ab, 0, none⟩ = some (.slice Av L.length cv) ∧ Z.rangeAt b8n 0 [.int .i64 (Tr.id y), .int .i64 (Tr.kind y), .string (Tr.text y), .slice Ay (Tr.kids y).length cy] := ⟨cellOne hbZ, range_all h8Z⟩
    have hno2 := hno g hA2
    subst hA2
    have HR2 := Lib.hid hR2
    have HZ := Lib.hid (And.intro hbZ (And.intro h8Z (And.intro (hc2.at (H1.out.1.at HV.out.2.1.b2 (by simp)) (fun h => by have := (hown (w.heap.size + 2) (by simpa using h)).2; omega)) (And.intro hTy (And.intro (And.intro hg hgC) (And.intro hsC (And.intro hlast (And.intro hno2 (And.intro hc2 (And.intro hown (And.intro (And.intro hYs (And.intro hWs hZs)) hb8w)))))))))))
    clear hbZ h8Z hTy hg hgC hsC hlast hno2 hc2 hown hYs hWs hZs hwY hb8w hno hat2 hR2 hS1 hp
    refine wpList_nil ⟨hSZ, ?_⟩
    ((try dsimp only); (try simp only [Act.put, List.setIfInBounds_toArray, List.set_cons_zero, List.set_cons_succ]))
    refine M_pure (i := 5) (v := .pointer (some ⟨g, L.length * 4, none⟩)) rfl (by kernel_rfl) (by kernel_rfl) (by kernel_rfl) (fun _ _ _ h => h) (by rfl) ?hy ?_
    case hy => (intro w'; go_simp; intro h9; omega)
    ((try dsimp only); (try simp only [Act.put, List.setIfInBounds_toArray, List.set_cons_zero, List.set_cons_succ]))
    have hxZ := HZ.out.2.2.2.2.2.2.2.1
    refine M_two_brk (i := 6) (j := 7) rfl rfl (by kernel_rfl) (by rfl) (by rfl) (by rfl) (by rfl) ?_ ?_
    · refine wpList_put_node rfl (.tmp 24) (.tmp 20) rfl g (L.length * 4) rfl [.int .i64 (Tr.id y), .int .i64 (Tr.kind y), .string (Tr.text y), .slice Ay (Tr.kids y).length cy] rfl C HZ.out.2.2.2.2.1.2 rfl HZ.out.2.2.2.2.2.1 (by simp [Value.oneCell']) ?_
      have hA := setRow_chg Z g (put4 C (L.length * 4) [.int .i64 (Tr.id y), .int .i64 (Tr.kind y), .string (Tr.text y), .slice Ay (Tr.kids y).length cy])
      have hbA := hA.at HZ.out.1 (by simp; omega)
      obtain ⟨A1, hA1⟩ : ∃ A1, A1 = Z.setRow g (put4 C (L.length * 4) [.int .i64 (Tr.id y), .int .i64 (Tr.kind y), .string (Tr.text y), .slice Ay (Tr.kids y).length cy]) := ⟨_, rfl⟩
      have hlA := HZ.out.2.2.2.2.2.2.1
      rw [← hA1] at hA hbA hlA ⊢
      have cA := cellOne hbA
      have fA := blkF hbA 0
      have HA := Lib.hid (And.intro hA (And.intro hbA hlA))
      clear hA hbA hlA hA1
      refine wpList_nil ?_
      show wpAnyM _ _ _ _ _ _ _ _ _ _ _
      ((try dsimp only); (try simp only [Act.put, List.setIfInBounds_toArray, List.set_cons_zero, List.set_cons_succ]))
      refine M_brk (i := 7) rfl (by kernel_rfl) (by rfl) (by rfl) ?_
      go_wp2_with fail
      refine M_world (fun U => U.heap[ab]? = some (.cells #[.slice (some ⟨g, 0, none⟩) (L.length + 1) c2] 22 (0, 0)) ∧ RowN U (fun b => base ≤ b ∧ b ≠ w.heap.size + 2) base (.slice (some ⟨g, 0, none⟩) (L.length + 1) c2) (L ++ [y]) ∧ Chg [ab, g] Z U) ⟨heap_setCell_same _ _ _ _ _ _ HA.out.2.1, HA.out.2.2.kept (l := [ab]) (Chg.setCell (Chg.refl [ab] A1) _ _ (by simp)) (by simp [Value.ownBlock]; omega), Chg.setCell (HA.out.1.mono (by simp)) _ _ (by simp)⟩ ?_
      clear cA fA
      rintro U hU
      refine M_done (by kernel_rfl) ?_ _
      have hYs := HZ.out.2.2.2.2.2.2.2.2.2.2.1.1
      have hWs := HZ.out.2.2.2.2.2.2.2.2.2.2.1.2.1
      have hZs := HZ.out.2.2.2.2.2.2.2.2.2.2.1.2.2
      have hb8w := HZ.out.2.2.2.2.2.2.2.2.2.2.2
      have hl8 := lt_of_block HV.out.2.2.1
      have hW8 := HV.out.2.2.2.2.2.2.1
      have h8U := hU.2.2.at HZ.out.2.1 (by simp; omega)
      have h2U := hU.2.2.at HZ.out.2.2.1 (by simp; omega)
      obtain ⟨r0, r1, r2, r3⟩ := blk4 h2U
      have f0 := blkF h2U 0
      have f1 := blkF h2U 1
      have f2 := blkF h2U 2
      have f3 := blkF h2U 3
      obtain ⟨t0, t1, t2, t3⟩ := blk4 h8U
      have HU := Lib.hid (And.intro hU (And.intro h8U h2U))
      clear hU h8U h2U
      go_wp2_with (skip; fail)
      refine bodyPost_ret (v := .tuple #[.agg #[.int .i64 (Tr.id y), .int .i64 (Tr.kind y), .string (Tr.text y), .slice Ay (Tr.kids y).length cy], .int .i64 0]) (results_row_tmp rfl _ _ (w.heap.size + 1 + 1) _ _ _ _ _ rfl rfl (set4 HU.out.2.2) Try.underlying24 rfl szNode) rfl ?_
      unfold EachOne
      rw [HR.out]
      have hc4 := chg4 U (w.heap.size + 1 + 1) (.int .i64 y.id) (.int .i64 y.kind) (.string y.text) (.slice Ay y.kids.length cy)
      have hs4 := hc4.size
      have hUs := HU.out.1.2.2.size
      have hown := HZ.out.2.2.2.2.2.2.2.2.2.1
      have hbF := hc4.at HU.out.1.1 (by simp; omega)
      have hrowF := HU.out.1.2.1.kept hc4 (by simp [Value.ownBlock]; omega)
      refine ⟨Ay, cy, rfl, ?_, ⟨_, hbF, hrowF.weak (fun b hb _ => hb.1)⟩, ?_⟩
      · exact ((HZ.out.2.2.2.1.kept HU.out.1.2.2 (fun b hb => by have := hb.1; have := hb.2.1; simp; omega)).kept hc4 (fun b hb => by have := hb.1; simp; omega)).weak (fun b hb _ => ⟨by have := hb.1; omega, by have := hb.2.1; omega, SepN.of hbF (by have := hb.1; omega) (fun he => by simp only [Value.ownBlock, Option.some.injEq] at he; have := hb.1; have := hb.2.1; omega)⟩)
      · exact Kp.of_chg (((((HV.out.2.1.chg.mono (l' := (Value.slice Av L.length cv).ownBlock.toList ++ [ab, g]) (by simp)).trans (H1.out.1.mono (by simp))).trans (HZ.out.2.2.2.2.2.2.2.2.1.mono (fun b hb => .inl (List.mem_append.2 (.inl hb))))).trans (HU.out.1.2.2.mono (fun b hb => .inl (List.mem_append.2 (.inr hb))))).andThen hc4 (by simp; omega)) (fun k hk => by
          rcases List.mem_append.1 hk with hk | hk
          · exact .inl (hown k (by simpa using hk)).1
          · simp only [List.mem_cons, List.not_mem_nil, or_false] at hk
            rcases hk with hk | hk
            · exact .inr (by simp [hk])
            · exact .inl (by omega))
    · have cA := cellOne HZ.out.1
      have fA := blkF HZ.out.1 0
      go_wp2_with fail
      have hB := Chg.setCell (Chg.refl [ab] Z) ⟨ab, 0, none⟩ (.slice (some ⟨g, 0, none⟩) (L.length + 1) c2) (by simp)
      have hbB := heap_setCell_same Z ab 0 _ _ (.slice (some ⟨g, 0, none⟩) (L.length + 1) c2) HZ.out.1
      obtain ⟨B1, hB1⟩ : ∃ B1, B1 = Z.setCell ⟨ab, 0, none⟩ (.slice (some ⟨g, 0, none⟩) (L.length + 1) c2) := ⟨_, rfl⟩
      rw [← hB1] at hB hbB ⊢
      have hgB := hB.at HZ.out.2.2.2.2.1.2 (by simp; omega)
      have HB := Lib.hid (And.intro hB (And.intro hbB hgB))
      clear hB hbB hgB hB1 cA fA
      show wpAnyM _ _ _ _ _ _ _ _ _ _ _
      ((try dsimp only); (try simp only [Act.put, List.setIfInBounds_toArray, List.set_cons_zero, List.set_cons_succ]))
      refine M_brk (i := 6) rfl (by kernel_rfl) (by rfl) (by rfl) ?_
      refine wpList_put_node rfl (.tmp 24) (.tmp 20) rfl g (L.length * 4) rfl [.int .i64 (Tr.id y), .int .i64 (Tr.kind y), .string (Tr.text y), .slice Ay (Tr.kids y).length cy] rfl C HB.out.2.2 rfl HZ.out.2.2.2.2.2.1 (by simp [Value.oneCell']) ?_
      have hA := setRow_chg B1 g (put4 C (L.length * 4) [.int .i64 (Tr.id y), .int .i64 (Tr.kind y), .string (Tr.text y), .slice Ay (Tr.kids y).length cy])
      have hbA := hA.at HB.out.2.1 (by simp; omega)
      have hlA := HZ.out.2.2.2.2.2.2.1
      refine wpList_nil ?_
      show wpAnyM _ _ _ _ _ _ _ _ _ _ _
      refine M_world (fun U => U.heap[ab]? = some (.cells #[.slice (some ⟨g, 0, none⟩) (L.length + 1) c2] 22 (0, 0)) ∧ RowN U (fun b => base ≤ b ∧ b ≠ w.heap.size + 2) base (.slice (some ⟨g, 0, none⟩) (L.length + 1) c2) (L ++ [y]) ∧ Chg [ab, g] Z U) ⟨hbA, ?_, (HB.out.1.mono (by simp)).trans (hA.mono (by simp))⟩ ?_
      · obtain ⟨g', C', e1, _, e2, _, e3⟩ := (HR2.out.kept (l := [ab]) HB.out.1 (by simp [Value.ownBlock]; omega)).last ((HTz.out.kept HB.out.1 (fun b hb => by have := hb.1.1; simp; omega)).weak (fun b hb _ => ⟨hb.1, Nat.lt_of_lt_of_le hb.2.1 HB.out.1.size, hb.2.2⟩))
        simp only [Option.some.injEq, Addr.mk.injEq, and_true] at e1
        subst e1
        rw [HB.out.2.2] at e2
        simp only [Option.some.injEq, Obj.cells.injEq, and_true] at e2
        subst e2
        exact e3
      clear hA hbA hlA
      rintro U hU
      refine M_done (by kernel_rfl) ?_ _
      have hYs := HZ.out.2.2.2.2.2.2.2.2.2.2.1.1
      have hWs := HZ.out.2.2.2.2.2.2.2.2.2.2.1.2.1
      have hZs := HZ.out.2.2.2.2.2.2.2.2.2.2.1.2.2
      have hb8w := HZ.out.2.2.2.2.2.2.2.2.2.2.2
      have hl8 := lt_of_block HV.out.2.2.1
      have hW8 := HV.out.2.2.2.2.2.2.1
      have h8U := hU.2.2.at HZ.out.2.1 (by simp; omega)
      have h2U := hU.2.2.at HZ.out.2.2.1 (by simp; omega)
      obtain ⟨r0, r1, r2, r3⟩ := blk4 h2U
      have f0 := blkF h2U 0
      have f1 := blkF h2U 1
      have f2 := blkF h2U 2
      have f3 := blkF h2U 3
      obtain ⟨t0, t1, t2, t3⟩ := blk4 h8U
      have HU := Lib.hid (And.intro hU (And.intro h8U h2U))
      clear hU h8U h2U
      go_wp2_with (skip; fail)
      refine bodyPost_ret (v := .tuple #[.agg #[.int .i64 (Tr.id y), .int .i64 (Tr.kind y), .string (Tr.text y), .slice Ay (Tr.kids y).length cy], .int .i64 0]) (results_row_tmp rfl _ _ (w.heap.size + 1 + 1) _ _ _ _ _ rfl rfl (set4 HU.out.2.2) Try.underlying24 rfl szNode) rfl ?_
      unfold EachOne
      rw [HR.out]
      have hc4 := chg4 U (w.heap.size + 1 + 1) (.int .i64 y.id) (.int .i64 y.kind) (.string y.text) (.slice Ay y.kids.length cy)
      have hs4 := hc4.size
      have hUs := HU.out.1.2.2.size
      have hown := HZ.out.2.2.2.2.2.2.2.2.2.1
      have hbF := hc4.at HU.out.1.1 (by simp; omega)
      have hrowF := HU.out.1.2.1.kept hc4 (by simp [Value.ownBlock]; omega)
      refine ⟨Ay, cy, rfl, ?_, ⟨_, hbF, hrowF.weak (fun b hb _ => hb.1)⟩, ?_⟩
      · exact ((HZ.out.2.2.2.1.kept HU.out.1.2.2 (fun b hb => by have := hb.1; have := hb.2.1; simp; omega)).kept hc4 (fun b hb => by have := hb.1; simp; omega)).weak (fun b hb _ => ⟨by have := hb.1; omega, by have := hb.2.1; omega, SepN.of hbF (by have := hb.1; omega) (fun he => by simp only [Value.ownBlock, Option.some.injEq] at he; have := hb.1; have := hb.2.1; omega)⟩)
      · exact Kp.of_chg (((((HV.out.2.1.chg.mono (l' := (Value.slice Av L.length cv).ownBlock.toList ++ [ab, g]) (by simp)).trans (H1.out.1.mono (by simp))).trans (HZ.out.2.2.2.2.2.2.2.2.1.mono (fun b hb => .inl (List.mem_append.2 (.inl hb))))).trans (HU.out.1.2.2.mono (fun b hb => .inl (List.mem_append.2 (.inr hb))))).andThen hc4 (by simp; omega)) (fun k hk => by
          rcases List.mem_append.1 hk with hk | hk
          · exact .inl (hown k (by simpa using hk)).1
          · simp only [List.mem_cons, List.not_mem_nil, or_false] at hk
            rcases hk with hk | hk
            · exact .inr (by simp [hk])
            · exact .inl (by omega))
end Go.Proofs.Ytofjocjljbkjgaa
namespace Go.Proofs.Ytofjocjljbkjgaa
open Go.RowKit
attribute [local go_sem] Oper.semAt_some
def RepE (l i : Nat) (x : Tr) (args : Array Value) (W : World) : Prop := ∃ A c base, args = #[.int .i64 i, .agg #[.int .i64 (Tr.id x), .int .i64 (Tr.kind x), .string (Tr.text x), .slice A (Tr.kids x).length c]] ∧ l < base ∧ TrC (fun b => base ≤ b ∧ b < W.heap.size) W x [.int .i64 (Tr.id x), .int .i64 (Tr.kind x), .string (Tr.text x), .slice A (Tr.kids x).length c]
def StE (Wb : World) (B0 B : Nat) (W : World) : Prop := ∀ k, B0 ≤ k → k < B → W.heap[k]? = Wb.heap[k]?
set_option maxHeartbeats 8000000 in
set_option maxRecDepth 100000 in
theorem each2_iter (B0 B : Nat) (Wb : World) (ab : Nat) (A : Option Addr) (c : Nat) (xs : List Tr) (hab0 : B0 ≤ ab) (hab : ab < B) (hbx : Wb.heap[ab]? = some (.cells #[.slice A xs.length c] 22 (0, 0))) (hK : KidsC (fun b => B0 ≤ b ∧ b < B) Wb A xs) (hn : xs.length ≤ 1000000) (hN : ∀ x ∈ xs, x.nodes ≤ 100000) : IterK Try.prog 77 #[.pointer (some ⟨ab, 0, none⟩)] RepE xs (StE Wb B0 B) := by
  intro l S J Jx W hSt hJ hJx hY h0 hl hS
  have hs := hSt 0 W h0
  have a0 := cellOne ((hs ab hab0 hab).trans hbx)
  have HH := Lib.hid (And.intro hSt (And.intro hJ (And.intro hJx (And.intro hY (And.intro h0 (And.intro hl (And.intro hS (And.intro hK hN))))))))
  clear hSt hJ hJx hY h0 hl hS hK hs hN hbx
  show Calls Try.prog 77 #[.func (.yield l) #[] #[], .pointer (some ⟨ab, 0, none⟩)] W _
  refine callsIn_wide.1 (callsIn_of_wp (n := 0) Try.func77 rfl trivial ?_)
  simp only [Try.ntmps77, List.size_toArray, List.length_cons, List.length_nil, Nat.reduceAdd, Nat.reduceSub, Array.replicate_succ, Array.replicate_zero, List.push_toArray, List.append_toArray, List.nil_append, List.cons_append]
  gi_wp2
  gi_loopw [7] (fun iv wr => ∃ k : Nat, k ≤ xs.length ∧ iv = .int .i64 k ∧ Hid (J k wr ∧ W.heap.size ≤ wr.heap.size)) (fun iv _ => xs.length - (intOf iv).toNat)
  case atStart => exact ⟨0, Nat.zero_le _, rfl, Lib.hid ⟨HH.out.2.2.2.2.1, Nat.le_refl _⟩⟩
  case round =>
    obtain ⟨k, hk, rfl, H⟩ := hrel
    obtain ⟨V, hV⟩ : ∃ V, V = wr := ⟨_, rfl⟩
    subst hV
    clear a0
    by_cases hlt : k < xs.length
    · obtain ⟨g, o, hA, hokg, cs, hr, hT⟩ := HH.out.2.2.2.2.2.2.2.1.at hlt
      subst hA
      obtain ⟨y, hye⟩ : ∃ y, y = xs[k] := ⟨_, rfl⟩
      have hyn : y.nodes ≤ 100000 := HH.out.2.2.2.2.2.2.2.2 y (by rw [hye]; exact List.getElem_mem hlt)
      have hxk : xs[k]? = some y := by rw [hye]; exact List.getElem?_eq_getElem hlt
      rw [← hye] at hT
      obtain ⟨Ak, ck, hcsk, _⟩ := hT.opens
      subst hcsk
      have hst := HH.out.1 k V H.out.1
      have hr' : V.rangeAt g (o + k * 4) [.int .i64 (Tr.id y), .int .i64 (Tr.kind y), .string (Tr.text y), .slice Ak (Tr.kids y).length ck] := fun j v hv => (World.cell?_of_block (w := Wb) (hst g hokg.1 hokg.2)).trans (hr j v hv)
      have hTV : TrC (fun b => b < B) V y [.int .i64 (Tr.id y), .int .i64 (Tr.kind y), .string (Tr.text y), .slice Ak (Tr.kids y).length ck] := hT.move fun g hg _ => ⟨hst g hg.1 hg.2, hg.2⟩
      obtain ⟨Z, hZ⟩ : ∃ Z, Z = V.alloc (.cells #[.int .i64 (Tr.id y), .int .i64 (Tr.kind y), .string (Tr.text y), .slice Ak (Tr.kids y).length ck] 24) := ⟨_, rfl⟩
      have hcZ : Chg [] V Z := by rw [hZ]; exact (by with_reducible repeat (first | exact Chg.refl _ _ | apply Chg.alloc | apply Chg.drew | apply Chg.drewN | (refine Chg.setCell ?_ _ _ (by simp))))
      have hnb : Z.heap[V.heap.size]? = some (.cells #[.int .i64 (Tr.id y), .int .i64 (Tr.kind y), .string (Tr.text y), .slice Ak (Tr.kids y).length ck] 24 (0, 0)) := by rw [hZ]; exact heap_new _ _ rfl
      obtain ⟨v0, v1, v2, v3⟩ := blk4 hnb
      have hown := cown_any y Ak ck Z ((hTV.kept hcZ (by simp)).weak (fun _ _ _ => trivial)) hyn
      have q0 : V.cell? ⟨g, o + k * 4, none⟩ = some (.int .i64 y.id) := hr' 0 _ rfl
      have q1 : V.cell? ⟨g, o + k * 4 + 1, none⟩ = some (.int .i64 y.kind) := hr' 1 _ rfl
      have q2 : V.cell? ⟨g, o + k * 4 + 2, none⟩ = some (.string y.text) := hr' 2 _ rfl
      have q3 : V.cell? ⟨g, o + k * 4 + 3, none⟩ = some (.slice Ak y.kids.length ck) := hr' 3 _ rfl
      have HZ := Lib.hid (And.intro hcZ (And.intro hown (And.intro hZ (And.intro hxk hr'))))
      rw [hZ] at v0 v1 v2 v3
      clear hcZ hown hZ hxk hr' hnb hTV hst hT hr hye hyn
      gi_wp2
      refine ⟨trivial, rfl, ?_⟩
      gi_at_call 67
      rw [← HZ.out.2.2.1]
      refine (callsIn_wide.2 HZ.out.2.1).mono ?_
      clear q0 q1 q2 q3 v0 v1 v2 v3
      rintro e Y ⟨A2, c2, rfl, hV2, hcY⟩
      have hcVY := HZ.out.1.trans hcY
      have hl := HH.out.2.2.2.2.2.1
      have hSS := HH.out.2.2.2.2.2.2.1
      obtain ⟨fn, tmps, assign, body, hy, hR⟩ := HH.out.2.2.2.1 k y #[.int .i64 k, .agg #[.int .i64 (Tr.id y), .int .i64 (Tr.kind y), .string (Tr.text y), .slice A2 (Tr.kids y).length c2]] Y (HH.out.2.1 _ _ _ H.out.1 (.of_chg hcVY)) (by have := hcVY.size; have := H.out.2; omega) HZ.out.2.2.2.1 ⟨A2, c2, Z.heap.size, rfl, by have := HZ.out.1.size; have := H.out.2; omega, hV2.toC⟩
      have HY := Lib.hid (And.intro hR hcVY.size)
      clear hR hcVY hcY hV2 hl hSS
      gi_wp2
      refine ⟨rfl, ?_⟩
      refine HY.out.1.mono ?_
      clear hy
      rintro e X ⟨(⟨rfl, hj⟩ | ⟨rfl, hjx⟩), hab3⟩
      · have H4 := Lib.hid (And.intro hj hab3.1)
        clear hj hab3
        gi_wp2
        exact ⟨⟨k + 1, by omega, by go_num, Lib.hid ⟨H4.out.1, by have := H4.out.2; have := HY.out.2; have := H.out.2; omega⟩⟩, by simp [intOf]; omega⟩
      · have H4 := Lib.hid (And.intro hjx hab3.1)
        clear hjx hab3
        gi_wp2
        refine bodyPost_ret (v := .tuple #[]) (results_none rfl _ _ _) rfl ?_
        exact ⟨⟨_, rfl⟩, .inr H4.out.1, by have := H4.out.2; have := HY.out.2; have := H.out.2; omega⟩
    · obtain rfl : k = xs.length := by omega
      gi_wp2
      go_end0
      exact ⟨⟨_, rfl⟩, .inl H.out.1, H.out.2⟩
end Go.Proofs.Ytofjocjljbkjgaa
namespace Go.Proofs.Ytofjocjljbkjgaa
open Go.RowKit
def treesF (f : Tr → Stp → Except Int Tr) : Tr → List Stp → List Tr
  | _, [] => []
  | x, s :: l => match f x s with
    | .error _ => []
    | .ok y => y :: treesF f y l
def EachJ (f : Tr → Stp → Except Int Tr) (w0 xb : Nat) (t : Tr) (ss : List Stp) (i : Nat) (x : Tr) (W : World) : Prop := ∃ L, NRow w0 xb L W ∧ L.length = i ∧ L ++ treesF f x (ss.drop i) = treesF f t ss
theorem NRow.kept {w0 xb : Nat} {L : List Tr} {W W' : World} {l : List Nat} (h : NRow w0 xb L W) (hc : Chg l W W') (h1 : xb ∉ l) (h2 : ∀ b ∈ l, b < w0) : NRow w0 xb L W' := by
  obtain ⟨v, hb, hr⟩ := h
  exact ⟨v, hc.at hb h1, hr.kept hc (fun b hb => ⟨fun e => by have := (hr.own b e).1; have := h2 b hb; omega, fun h => by have := h2 b hb; omega⟩)⟩
theorem sepN_kept {xb n : Nat} (hx : xb < n) : SepK n (SepN xb) := fun W W' b hn hs hc => ⟨hs.1, fun v hv => hs.2 v (by rw [← hc.block xb (by omega) (by simp; omega)]; exact hv)⟩
theorem each_fold (g : Gr) (j : GJ) (hj : j.Of g) (Ag : Option Addr) (cg bg xb : Nat) (t : Tr) (A : Option Addr) (c : Nat) (ss : List Stp) (B : Option Addr) (d : Nat) (O : Nat → Prop) (w0 w : World) (hxb : w.heap[xb]? = some (.cells #[.slice none 0 0] 22 (0, 0))) (hl : ss.length ≤ 60) (hG : GBox g Ag cg bg w0) (h0 : Chg [] w0 w) (hb0 : w0.heap.size ≤ xb)
    (hO : ∀ b, O b → b < w.heap.size ∧ b ≠ xb) (hT : TrC O w t [.int .i64 (Tr.id t), .int .i64 (Tr.kind t), .string (Tr.text t), .slice A (Tr.kids t).length c]) (hS : StpsC (fun b => b < w.heap.size ∧ b ≠ xb) w B ss) :
    Calls Try.prog 68 #[.agg #[.int .i64 (Tr.id t), .int .i64 (Tr.kind t), .string (Tr.text t), .slice A (Tr.kids t).length c], .slice B ss.length d, .func (.func 76) #[] #[.pointer (some ⟨bg, 0, none⟩), .pointer (some ⟨xb, 0, none⟩)]] w (FoldPost w [xb] O (EachJ (doJ j) (w.heap.size + 2) xb t ss) (foldF (doJ j) t ss 0)) := by
  have hxl := lt_of_block hxb
  refine fold_any 76 #[.pointer (some ⟨bg, 0, none⟩), .pointer (some ⟨xb, 0, none⟩)] (enters_of Try.func76 (by kernel_rfl) rfl) (doJ j) [xb] (SepN xb) O (EachJ (doJ j) (w.heap.size + 2) xb t ss) ss B d t A c w (by omega) (by simp; omega) (hS.weak (fun b hb _ => ⟨hb.1, by simpa using hb.2⟩)) (fun b hb => (hO b hb).1) (sepN_kept hxl) (fun b hb => SepN.of hxb (hO b hb).2 (by simp [Value.ownBlock])) hT ?_ ?_ ?_
  · rintro i x W W' ⟨L, h1, h2, h3⟩ hc
    exact ⟨L, h1.kept hc (by simp; omega) (by simp), h2, h3⟩
  · exact ⟨[], ⟨_, hxb, RowN.nil _ _ _⟩, rfl, rfl⟩
  · rintro i x Ax cx s As cs W hcW hsW ⟨L, h1, h2, h3⟩ hs hTx hSx
    have hil := (List.getElem?_eq_some_iff.1 hs).1
    have hdr : ss.drop i = s :: ss.drop (i + 1) := by rw [List.drop_eq_getElem_cons hil, (List.getElem?_eq_some_iff.1 hs).2]
    have hG2 : Chg [] w0 W := h0.andThen hcW (by simp; omega)
    refine (each1_any g j hj Ag cg bg (w.heap.size + 2) xb L x Ax cx s As cs W ⟨hG2.at hG.1 (by simp), hG.2.kept hG2⟩ (by omega) hsW (by omega) h1 hTx (hSx.weak (fun b hb _ => ⟨by omega, by simpa using hb.2⟩))).mono fun e W' he => ?_
    unfold EachOne at he
    unfold FoldOne
    cases hr : doJ j x s with
    | error n =>
      rw [hr] at he
      obtain ⟨rfl, hc⟩ := he
      exact ⟨_, rfl, doJ_ne hr, hc, ⟨⟨0, 0, ⟨#[]⟩, []⟩, none, 0, rfl⟩, L, h1.kept hc (by simp) (by simp), h2, h3⟩
    | ok y =>
      rw [hr] at he
      obtain ⟨A', c', rfl, hT', hB', hK⟩ := he
      refine ⟨_, rfl, hK, ⟨A', c', rfl, hT'⟩, L ++ [y], hB', by simp [h2], ?_⟩
      rw [hdr] at h3
      rw [← h3, List.append_assoc]
      simp only [treesF, hr, List.singleton_append]
theorem foldF_trees (f : Tr → Stp → Except Int Tr) : ∀ (ss : List Stp) (x : Tr) (i : Nat), (foldF f x ss i).2.1 = i + (treesF f x ss).length
  | [], x, i => rfl
  | s :: l, x, i => by
    unfold foldF treesF
    cases hr : f x s with
    | error n => rfl
    | ok y => simp only [hr]; rw [foldF_trees f l y (i + 1)]; simp; omega
theorem treesF_nil (f : Tr → Stp → Except Int Tr) : ∀ (ss : List Stp) (x : Tr) (i : Nat), treesF f (foldF f x ss i).1 (ss.drop ((foldF f x ss i).2.1 - i)) = []
  | [], x, i => by simp [foldF, treesF]
  | s :: l, x, i => by
    unfold foldF
    cases hr : f x s with
    | error n => simp [treesF, hr]
    | ok y =>
      simp only [hr]
      have h1 := foldF_trees f l y (i + 1)
      have h2 := treesF_nil f l y (i + 1)
      rw [show (foldF f y l (i + 1)).2.1 - i = ((foldF f y l (i + 1)).2.1 - (i + 1)) + 1 by omega, List.drop_succ_cons]
      exact h2
theorem RowN.low {w : World} {ok : Nat → Prop} {base base' : Nat} {v : Value} {ks : List Tr} (h : RowN w ok base v ks) (hb : base' ≤ base) : RowN w ok base' v ks := by
  obtain ⟨css, h1, h2, h3⟩ := h.ex
  exact ⟨css, h1.weak hb, h2, h3⟩
def eachT (j : GJ) (t : Tr) (ss : List Stp) : List Tr := if checkB ss then treesF (doJ j) t ss else []
def EachPost (xs : List Tr) (w : World) (e : Ending) (w' : World) : Prop := ∃ ab, e = .returned (.func (.func 77) #[] #[.pointer (some ⟨ab, 0, none⟩)]) ∧ w.heap.size ≤ ab ∧ NRow w.heap.size ab xs w' ∧ Chg [] w w'
set_option maxHeartbeats 4000000 in
set_option maxRecDepth 100000 in
theorem ceach_any (g : Gr) (j : GJ) (hj : j.Of g) (Ag : Option Addr) (cg : Nat) (t : Tr) (A : Option Addr) (c : Nat) (ss : List Stp) (B : Option Addr) (d : Nat) (w : World) (hG : GrC w Ag cg g.kinds) (hT : TrC (fun b => b < w.heap.size) w t [.int .i64 (Tr.id t), .int .i64 (Tr.kind t), .string (Tr.text t), .slice A (Tr.kids t).length c]) (hS : StpsC (fun b => b < w.heap.size) w B ss) (hl : ss.length ≤ 9223372036854775807) :
    Calls Try.prog 35 #[.agg #[.slice Ag g.kinds.length cg, .int .i64 g.root], .agg #[.int .i64 (Tr.id t), .int .i64 (Tr.kind t), .string (Tr.text t), .slice A (Tr.kids t).length c], .slice B ss.length d] w (EachPost (eachT j t ss) w) := by
  obtain ⟨W0, hW0⟩ : ∃ W0, W0 = (w.alloc (.cells #[.slice Ag g.kinds.length cg, .int .i64 g.root] 43)).alloc (.cells #[.int .i64 (Tr.id t), .int .i64 (Tr.kind t), .string (Tr.text t), .slice A (Tr.kids t).length c] 24) := ⟨_, rfl⟩
  have hc0 : Chg [] w W0 := by rw [hW0]; exact (by with_reducible repeat (first | exact Chg.refl _ _ | apply Chg.alloc | apply Chg.drew | apply Chg.drewN | (refine Chg.setCell ?_ _ _ (by simp))))
  have g0 : W0.heap[w.heap.size]? = some (.cells #[.slice Ag g.kinds.length cg, .int .i64 g.root] 43 (0, 0)) := by rw [hW0]; exact heap_old (heap_new _ _ rfl) _
  have b0 : W0.heap[w.heap.size + 1]? = some (.cells #[.int .i64 (Tr.id t), .int .i64 (Tr.kind t), .string (Tr.text t), .slice A (Tr.kids t).length c] 24 (0, 0)) := by rw [hW0]; exact heap_new _ _ (by simp)
  have hs0 : W0.heap.size = w.heap.size + 2 := by rw [hW0]; simp
  obtain ⟨V, hV⟩ : ∃ V, V = W0.alloc (.cells #[.slice none 0 0] 22) := ⟨_, rfl⟩
  have hcV : Chg [] W0 V := by rw [hV]; exact (by with_reducible repeat (first | exact Chg.refl _ _ | apply Chg.alloc | apply Chg.drew | apply Chg.drewN | (refine Chg.setCell ?_ _ _ (by simp))))
  have bx : V.heap[w.heap.size + 2]? = some (.cells #[.slice none 0 0] 22 (0, 0)) := by rw [hV, ← hs0]; exact heap_new _ _ rfl
  have hck := check_any ss B d V (hS.next (hc0.trans hcV)) hl
  have HW := Lib.hid (And.intro hW0 (And.intro hV (And.intro hc0 (And.intro hcV (And.intro g0 (And.intro b0 (And.intro hs0 (And.intro bx (And.intro hck (And.intro hG (And.intro hT hS)))))))))))
  clear hW0 hV hc0 hcV g0 b0 hs0 bx hck hG hT hS
  go_enter Try.func35, Try.ntmps35
  go_wp2_with fail
  rw [← HW.out.1, ← HW.out.2.1]
  refine HW.out.2.2.2.2.2.2.2.2.1.mono ?_
  rintro e X ⟨rfl, rfl⟩
  have hwV := HW.out.2.2.1.trans HW.out.2.2.2.1
  have HwV := Lib.hid hwV
  clear hwV
  by_cases hch : checkB ss = true
  · have he : checkE ss = 0 := by unfold checkE; rw [hch]; rfl
    rw [he]
    have HC := Lib.hid hch
    have hss : ss.length ≤ 60 := by unfold checkB at hch; simp at hch; exact hch.1
    have hf := each_fold g j hj Ag cg w.heap.size (w.heap.size + 2) t A c ss B d (fun b => b < w.heap.size) W0 V HW.out.2.2.2.2.2.2.2.1 hss ⟨HW.out.2.2.2.2.1, HW.out.2.2.2.2.2.2.2.2.2.1.kept HW.out.2.2.1⟩ HW.out.2.2.2.1 (by have := HW.out.2.2.2.2.2.2.1; omega) (fun b hb => ⟨Nat.lt_of_lt_of_le hb HwV.out.size, by omega⟩) (HW.out.2.2.2.2.2.2.2.2.2.2.1.kept HwV.out (by simp)) ((HW.out.2.2.2.2.2.2.2.2.2.2.2.kept HwV.out (by simp)).weak (fun b hb _ => ⟨Nat.lt_of_lt_of_le hb HwV.out.size, by omega⟩))
    obtain ⟨p0, p1, p2, p3⟩ := blk4 (HW.out.2.2.2.1.at HW.out.2.2.2.2.2.1 (by simp))
    have HF := Lib.hid hf
    clear hf he hch hss
    go_wp2_with fail
    refine HF.out.mono ?_
    rintro e Y ⟨Af, cf, rfl, _, ⟨L, hB, hLn, hL⟩, hcY⟩
    have hLe : L = treesF (doJ j) t ss := by
      have h := treesF_nil (doJ j) ss t 0
      rw [Nat.sub_zero] at h
      rw [h, List.append_nil] at hL
      exact hL
    have HY := Lib.hid (And.intro hB (And.intro hLe hcY))
    clear hB hLn hL hLe hcY p0 p1 p2 p3
    go_wp2_with (skip; fail)
    go_ret
    unfold eachT
    rw [if_pos HC.out]
    obtain ⟨v, h1, h2⟩ := HY.out.1
    rw [HY.out.2.1] at h2
    refine ⟨w.heap.size + 2, rfl, by omega, ⟨v, h1, ?_⟩, HwV.out.andThen HY.out.2.2 (by simp)⟩
    have := HwV.out.size
    exact (h2.weak (ok' := fun b => w.heap.size ≤ b) (fun b hb _ => by omega)).low (by omega)
  · have he : checkE ss = 3 := by unfold checkE; rw [if_neg hch]
    rw [he]
    have HC := Lib.hid hch
    clear hch he
    go_wp2_with (skip; fail)
    go_ret
    unfold eachT
    rw [if_neg HC.out]
    exact ⟨w.heap.size + 2, rfl, by omega, ⟨_, HW.out.2.2.2.2.2.2.2.1, RowN.nil _ _ _⟩, HwV.out⟩
end Go.Proofs.Ytofjocjljbkjgaa
namespace Go.Proofs.Ytofjocjljbkjgaa
open Go.RowKit
attribute [local go_sem] Oper.semAt_some
structure WS (w : World) (s : Stp) (As : Option Addr) (cs bV : Nat) (L : List Int) (v : Bool) (W : World) : Prop where
  sb : W.heap[w.heap.size + 1]? = some (.cells #[.int .i8 (Stp.op s), .int .i64 (Stp.id s), .int .i64 (Stp.par s), .int .i64 (Stp.place s), .string (Stp.text s), .int .i64 (Stp.sub s).id, .int .i64 (Stp.sub s).kind, .string (Stp.sub s).text, .slice As (Stp.sub s).kids.length cs] 27 (0, 0))
  mb : W.heap[w.heap.size + 1 + 1 + 1]? = some (.cells #[.map (some (w.heap.size + 1 + 1))] 114 (0, 0))
  mp : MapI W (w.heap.size + 1 + 1) (seenM L)
  vb : W.heap[bV]? = some (.cells #[.bool v] 4 (0, 0))
  lo : w.heap.size + 1 + 1 + 1 < bV
  chg : Chg [] w W
theorem WS.kept {w : World} {s : Stp} {As : Option Addr} {cs bV : Nat} {L : List Int} {v : Bool} {W W' : World} (h : WS w s As cs bV L v W) (hc : Chg [] W W') : WS w s As cs bV L v W' :=
  ⟨hc.at h.sb (by simp), hc.at h.mb (by simp), h.mp.kept hc (by simp), hc.at h.vb (by simp), h.lo, h.chg.trans hc⟩
theorem WS.set {w : World} {s : Stp} {As : Option Addr} {cs bV : Nat} {L : List Int} {v : Bool} {W : World} (h : WS w s As cs bV L v W) (u : Bool) : WS w s As cs bV L u (W.setCell ⟨bV, 0, none⟩ (.bool u)) ∧ Chg [bV] W (W.setCell ⟨bV, 0, none⟩ (.bool u)) := by
  have hlo := h.lo
  have hc : Chg [bV] W (W.setCell ⟨bV, 0, none⟩ (.bool u)) := (Chg.refl _ _).setCell _ _ (by simp)
  exact ⟨⟨hc.at h.sb (by simp; omega), hc.at h.mb (by simp; omega), h.mp.kept hc (by simp; omega), heap_setCell_same _ _ 0 _ _ _ h.vb, hlo, h.chg.andThen hc (by simp; omega)⟩, hc⟩
theorem bodyM_ret0 {P : Program} {fn : Func} {R : Ending → World → Prop} {a : Act} {w : World} {v : Value} (hd : a.defers = []) (hr : (results fn a.tmps).run P w = .ok v w) (h : R (.returned v) w) : bodyPostM W0 0 P fn R .ret a w := by
  show LeavesInM W0 0 P fn a.tmps R a.defers .returning w
  rw [hd]
  exact ⟨_, hr, h⟩
end Go.Proofs.Ytofjocjljbkjgaa
namespace Go.Proofs.Ytofjocjljbkjgaa
open Go.RowKit
structure WA (g : Gr) (Ag : Option Addr) (cg : Nat) (w : World) (x : Tr) (A : Option Addr) (c : Nat) (W : World) : Prop where
  g : W.heap[w.heap.size]? = some (.cells #[.slice Ag g.kinds.length cg, .int .i64 g.root] 43 (0, 0))
  t : W.heap[w.heap.size + 1]? = some (.cells #[.int .i64 (Tr.id x), .int .i64 (Tr.kind x), .string (Tr.text x), .slice A (Tr.kids x).length c] 24 (0, 0))
  x : TrC (fun b => b < W.heap.size ∧ b ≠ w.heap.size + 1) W x [.int .i64 (Tr.id x), .int .i64 (Tr.kind x), .string (Tr.text x), .slice A (Tr.kids x).length c]
  chg : Chg [] w W
theorem WA.kept {g : Gr} {Ag : Option Addr} {cg : Nat} {w : World} {x : Tr} {A : Option Addr} {c : Nat} {W W' : World} (h : WA g Ag cg w x A c W) (hc : Chg [] W W') : WA g Ag cg w x A c W' :=
  ⟨hc.at h.g (by simp), hc.at h.t (by simp), (h.x.kept hc (by simp)).weak (fun b hb _ => ⟨Nat.lt_of_lt_of_le hb.1 hc.size, hb.2⟩), h.chg.trans hc⟩
end Go.Proofs.Ytofjocjljbkjgaa

namespace Go.Proofs.Ytofjocjljbkjgaa
open Go.RowKit
theorem foldF_nodes {f : Tr → Stp → Except Int Tr} {n : Nat} (hf : ∀ x s y, f x s = .ok y → y.nodes ≤ n) : ∀ (l : List Stp) (t : Tr) (i : Nat), t.nodes ≤ n → (foldF f t l i).1.nodes ≤ n
  | [], t, i, h => h
  | s :: l, t, i, h => by
    simp only [foldF]
    cases hx : f t s with
    | error e => exact h
    | ok y => exact foldF_nodes hf l y (i + 1) (hf t s y hx)
theorem insN_append : ∀ (a b : List Stp), insN (a ++ b) = insN a + insN b
  | [], b => by simp [insN]
  | s :: a, b => by simp only [List.cons_append, insN, insN_append a b, Nat.add_assoc]
theorem checkB_app {a b : List Stp} (h : checkB (a ++ b) = true) : checkB a = true ∧ checkB b = true ∧ (a ++ b).length ≤ 60 := by
  unfold checkB at h ⊢
  simp only [Bool.and_eq_true, decide_eq_true_eq, List.length_append, insN_append] at h ⊢
  exact ⟨⟨by omega, by omega⟩, ⟨by omega, by omega⟩, by omega⟩
theorem applyL_nodes {j : GJ} {t : Tr} {l : List Stp} {n : Nat} (hn : t.nodes ≤ n) (h4 : 4000 ≤ n) : (applyL j t l).1.nodes ≤ n := by
  have hd : ∀ x s y, doJ j x s = .ok y → y.nodes ≤ n := fun x s y h => Nat.le_trans (applyT_nodes (doJ_ok h).2.2) h4
  unfold applyL
  split
  · split
    · exact foldF_nodes hd l t 0 hn
    · exact hn
  · exact hn
end Go.Proofs.Ytofjocjljbkjgaa
namespace Go.Proofs.Ytofjocjljbkjgaa
open Go.RowKit
theorem fold_take {f : Tr → Stp → Except Int Tr} (hf : ∀ x s n, f x s = .error n → n ≠ 0) : ∀ (ss : List Stp) (x : Tr) (i k : Nat), (foldF f x ss i).2.2 = 0 → k ≤ ss.length → ∃ z, (x :: treesF f x ss)[k]? = some z ∧ foldF f x (ss.take k) i = (z, i + k, 0)
  | [], x, i, k, _, hk => by
    obtain rfl : k = 0 := by simpa using hk
    exact ⟨x, rfl, rfl⟩
  | s :: l, x, i, 0, _, _ => ⟨x, rfl, rfl⟩
  | s :: l, x, i, k + 1, h, hk => by
    unfold foldF at h
    cases hr : f x s with
    | error n => rw [hr] at h; exact absurd h (hf x s n hr)
    | ok y =>
      rw [hr] at h
      obtain ⟨z, h1, h2⟩ := fold_take hf l y (i + 1) k h (by simpa using hk)
      refine ⟨z, ?_, ?_⟩
      · unfold treesF
        rw [hr, List.getElem?_cons_succ]
        exact h1
      · rw [List.take_succ_cons]
        unfold foldF
        rw [hr]
        simp only []
        rw [h2]
        simp; omega
theorem fold_len {f : Tr → Stp → Except Int Tr} (hf : ∀ x s n, f x s = .error n → n ≠ 0) {ss : List Stp} {x : Tr} (h : (foldF f x ss 0).2.2 = 0) : (treesF f x ss).length = ss.length := by
  obtain ⟨z, h1, h2⟩ := fold_take hf ss x 0 ss.length h (Nat.le_refl _)
  rw [List.take_length] at h2
  have h3 := foldF_trees f ss x 0
  rw [h2] at h3
  simp at h3
  omega
theorem cut_law (j : GJ) (t : Tr) {ss : List Stp} (h : (applyL j t ss).2.2 = 0) (hn : t.nodes ≤ 4000) : checkB ss = true ∧ (treesF (doJ j) t ss).length = ss.length ∧ (∀ k, k ≤ ss.length → ∃ z, (t :: treesF (doJ j) t ss)[k]? = some z ∧ applyL j t (ss.take k) = (z, k, 0)) ∧ ∀ x ∈ treesF (doJ j) t ss, x.nodes ≤ 100000 := by
  have hc : checkB ss = true := by
    cases hc : checkB ss with
    | true => rfl
    | false => unfold applyL at h; rw [hc] at h; simp at h
  have hz : (foldF (doJ j) t ss 0).2.2 = 0 := by
    unfold applyL at h
    rw [hc] at h
    by_cases e : (foldF (doJ j) t ss 0).2.2 = 0
    · exact e
    · simp [e] at h
  have hk : ∀ k, k ≤ ss.length → ∃ z, (t :: treesF (doJ j) t ss)[k]? = some z ∧ applyL j t (ss.take k) = (z, k, 0) := fun k hk => by
    obtain ⟨z, h1, h2⟩ := fold_take (fun _ _ _ => doJ_ne) ss t 0 k hz hk
    have hck : checkB (ss.take k) = true := (checkB_app (a := ss.take k) (b := ss.drop k) (by rw [List.take_append_drop]; exact hc)).1
    refine ⟨z, h1, ?_⟩
    unfold applyL
    rw [hck, h2]
    simp
  refine ⟨hc, fold_len (fun _ _ _ => doJ_ne) hz, hk, fun x hx => ?_⟩
  obtain ⟨i, hi, rfl⟩ := List.getElem_of_mem hx
  have hl : (treesF (doJ j) t ss).length = ss.length := fold_len (fun _ _ _ => doJ_ne) hz
  obtain ⟨z, h1, h2⟩ := hk (i + 1) (by omega)
  rw [List.getElem?_cons_succ, List.getElem?_eq_getElem hi] at h1
  injection h1 with h1
  have h3 := applyL_nodes (j := j) (t := t) (l := ss.take (i + 1)) (n := 100000) (by omega) (by omega)
  rw [h2] at h3
  rw [h1]; exact h3
end Go.Proofs.Ytofjocjljbkjgaa
namespace Go.Proofs.Ytofjocjljbkjgaa
open Go.RowKit
theorem Quiet.cell {S : Nat} {w w' : World} (hq : Quiet S w w') {a : Addr} {v : Value} (h : w.cell? a = some v) : w'.cell? a = some v := by
  cases hb : w.heap[a.block]? with
  | none => simp [World.cell?, hb] at h
  | some o => cases o with
    | cells C t fr =>
      have h2 := hq.at hb rfl
      simp only [World.cell?, hb] at h
      simp only [World.cell?, h2]
      exact h
    | _ => simp [World.cell?, hb] at h
theorem TrC.quiet {S : Nat} {ok : Nat → Prop} {w w' : World} (hq : Quiet S w w') {t : Tr} {cs : List Value} (h : TrC ok w t cs) : TrC ok w' t cs := by
  induction h with
  | none t A c h0 hc ht => exact .none t A c h0 hc ht
  | some t g o c cs hl hc ht hok hr hk ih => exact .some t g o c cs hl hc ht hok (fun i hi j v hv => hq.cell (hr i hi j v hv)) ih
structure CutI (w X : World) (k b9 b13 b16 : Nat) (z : Tr) (A5 : Option Addr) (c5 : Nat) (ys : List Tr) (i : Nat) (W : World) : Prop where
  kb : W.heap[b9 + 1]? = some (.cells #[.int .i64 (k : Int)] 3 (0, 0))
  zb : W.heap[b13]? = some (.cells #[.int .i64 (Tr.id z), .int .i64 (Tr.kind z), .string (Tr.text z), .slice A5 (Tr.kids z).length c5] 24 (0, 0))
  zok : TrC (fun b => b < b16) W z [.int .i64 (Tr.id z), .int .i64 (Tr.kind z), .string (Tr.text z), .slice A5 (Tr.kids z).length c5]
  last : ∃ y A c, ys[i]? = some y ∧ W.heap[b16]? = some (.cells #[.int .i64 (Tr.id y), .int .i64 (Tr.kind y), .string (Tr.text y), .slice A (Tr.kids y).length c] 24 (0, 0)) ∧ TrC (fun b => (b < b16 ∨ b16 + 2 ≤ b) ∧ b < W.heap.size) W y [.int .i64 (Tr.id y), .int .i64 (Tr.kind y), .string (Tr.text y), .slice A (Tr.kids y).length c]
  nb : W.heap[b16 + 1]? = some (.cells #[.int .i64 (i : Int)] 3 (0, 0))
  st : StE X (b16 + 2) X.heap.size W
  chg : Chg [] w W
  size : X.heap.size ≤ W.heap.size
theorem CutI.quiet {w X : World} {k b9 b13 b16 : Nat} {z : Tr} {A5 : Option Addr} {c5 : Nat} {ys : List Tr} {i : Nat} {W W' : World} {S : Nat} (h : CutI w X k b9 b13 b16 z A5 c5 ys i W) (hq : Quiet S W W') (h1 : X.heap.size ≤ S) (h2 : w.heap.size ≤ S) : CutI w X k b9 b13 b16 z A5 c5 ys i W' := by
  obtain ⟨y, A, c, hy, hb, hT⟩ := h.last
  have hsz : W.heap.size ≤ W'.heap.size := by obtain ⟨L, h3, _⟩ := hq; exact h3.size
  refine ⟨hq.at h.kb rfl, hq.at h.zb rfl, h.zok.quiet hq, ⟨y, A, c, hy, hq.at hb rfl, (hT.quiet hq).weak (fun b hb _ => ⟨hb.1, Nat.lt_of_lt_of_le hb.2 hsz⟩)⟩, hq.at h.nb rfl, fun k hk1 hk2 => ?_, hq.chg h.chg h2, Nat.le_trans h.size hsz⟩
  obtain ⟨L, h3, h4⟩ := hq
  rw [← h.st k hk1 hk2]
  exact h3.block k (Nat.lt_of_lt_of_le hk2 h.size) (fun hm => by have := (h4 k hm).1; omega)
theorem CutI.step {w X : World} {k b9 b13 b16 : Nat} {z : Tr} {A5 : Option Addr} {c5 : Nat} {ys : List Tr} {i : Nat} {W : World} {y : Tr} {A : Option Addr} {c : Nat} (h : CutI w X k b9 b13 b16 z A5 c5 ys i W) (h9 : b9 + 1 < b16) (h13 : b13 < b16) (hw : w.heap.size ≤ b16) (hy : ys[i + 1]? = some y) (hT : TrC (fun b => b16 + 2 ≤ b ∧ b < W.heap.size) W y [.int .i64 (Tr.id y), .int .i64 (Tr.kind y), .string (Tr.text y), .slice A (Tr.kids y).length c]) :
    CutI w X k b9 b13 b16 z A5 c5 ys (i + 1) (((((W.setCell ⟨b16, 0, none⟩ (.int .i64 y.id)).setCell ⟨b16, 1, none⟩ (.int .i64 y.kind)).setCell ⟨b16, 2, none⟩ (.string y.text)).setCell ⟨b16, 3, none⟩ (.slice A y.kids.length c)).setCell ⟨b16 + 1, 0, none⟩ (.int .i64 ((i : Int) + 1))) ∧ Chg [b16, b16 + 1] W (((((W.setCell ⟨b16, 0, none⟩ (.int .i64 y.id)).setCell ⟨b16, 1, none⟩ (.int .i64 y.kind)).setCell ⟨b16, 2, none⟩ (.string y.text)).setCell ⟨b16, 3, none⟩ (.slice A y.kids.length c)).setCell ⟨b16 + 1, 0, none⟩ (.int .i64 ((i : Int) + 1))) := by
  obtain ⟨y0, A0, c0, _, hb0, _⟩ := h.last
  obtain ⟨V, hV⟩ : ∃ V, V = (((W.setCell ⟨b16, 0, none⟩ (.int .i64 y.id)).setCell ⟨b16, 1, none⟩ (.int .i64 y.kind)).setCell ⟨b16, 2, none⟩ (.string y.text)).setCell ⟨b16, 3, none⟩ (.slice A y.kids.length c) := ⟨_, rfl⟩
  have h4 : V.heap[b16]? = some (.cells #[.int .i64 (Tr.id y), .int .i64 (Tr.kind y), .string (Tr.text y), .slice A (Tr.kids y).length c] 24 (0, 0)) := by rw [hV]; exact set4 hb0
  have hc4 : Chg [b16] W V := by rw [hV]; exact chg4 _ _ _ _ _ _
  have hn4 := hc4.at h.nb (by simp)
  rw [← hV]
  have hc5 : Chg [b16 + 1] V (V.setCell ⟨b16 + 1, 0, none⟩ (.int .i64 ((i : Int) + 1))) := (Chg.refl _ _).setCell _ _ (by simp)
  have hn5 := heap_setCell_same V (b16 + 1) 0 _ _ (.int .i64 ((i : Int) + 1)) hn4
  obtain ⟨U, hU⟩ : ∃ U, U = V.setCell ⟨b16 + 1, 0, none⟩ (.int .i64 ((i : Int) + 1)) := ⟨_, rfl⟩
  rw [← hU] at hc5 hn5 ⊢
  have hc : Chg [b16, b16 + 1] W U := (hc4.mono (by simp)).trans (hc5.mono (by simp))
  have hl := lt_of_block hb0
  refine ⟨⟨hc.at h.kb (by simp; omega), hc.at h.zb (by simp; omega), h.zok.kept hc (fun b hb => by simp; omega), ⟨y, A, c, hy, hc5.at h4 (by simp), (hT.kept hc (fun b hb => by have := hb.1; simp; omega)).weak (fun b hb _ => ⟨.inr hb.1, Nat.lt_of_lt_of_le hb.2 hc.size⟩)⟩, ?_, fun k hk1 hk2 => ?_, h.chg.andThen hc (by simp; omega), Nat.le_trans h.size hc.size⟩, hc⟩
  · rw [hn5]; rfl
  · rw [← h.st k hk1 hk2]
    exact hc.block k (Nat.lt_of_lt_of_le hk2 h.size) (by simp; omega)
end Go.Proofs.Ytofjocjljbkjgaa
