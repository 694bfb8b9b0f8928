import Derived.Test.YtipijkpjmpejlaaNetC
import Derived.Test.YtipijkpjmpejlaaNetX
/- The contracts of allotmentref02.CopySteps and Copy. -/
set_option linter.unusedVariables false
set_option linter.unusedSimpArgs false
namespace Go.Proofs.Ytipijkpjmpejlaa
open Go.RowKit
/-- Steps copied so far. -/
structure Cps (w wr : World) (ss : List Stp) (k : Nat) (v : Value) (css : List (List Value)) : Prop where
  chg : Chg [] w wr
  row : RowR wr 9 148 w.heap.size v css
  len : css.length = k
  has : ∀ (i : Nat) s cs, ss[i]? = some s → css[i]? = some cs → StpC (fun g => w.heap.size ≤ g ∧ v.ownBlock ≠ some g) wr s cs
def RcsPost (ss : List Stp) (w : World) (e : Ending) (w' : World) : Prop := ∃ v css, e = .returned v ∧ Cps w w' ss ss.length v css
theorem Cps.push {w wr Y Z : World} {ss : List Stp} {k : Nat} {v v' : Value} {css : List (List Value)} {s : Stp} {cs : List Value} (h : Cps w wr ss k v css) (hs : ss[k]? = some s) (hY : Chg [] wr Y) (hcs : StpC (fun g => wr.heap.size ≤ g ∧ g < Y.heap.size) Y s cs)
    (hown : Z.ownsRow w.heap.size 148 9 v' (k + 1) (css.flatten ++ cs)) (hgr : Y.grownBy Z v.ownBlock) (hat : v'.ownBlock = v.ownBlock ∨ v'.ownBlock = some Y.heap.size) : Cps w Z ss (k + 1) v' (css ++ [cs]) := by
  have hc : Chg v.ownBlock.toList Y Z := Chg.grown (Chg.refl _ _) hgr (by intro k hk; rw [hk]; simp)
  have hv : ∀ b, v.ownBlock = some b → w.heap.size ≤ b ∧ b < wr.heap.size := h.row.own
  have hwr := h.chg.size
  have hYs := hY.size
  refine ⟨(h.chg.trans hY).andThen hc (fun i hi => .inr (hv i (by simpa using hi)).1), ?_, by simp [h.len], ?_⟩
  · have := (h.row.kept hY (by simp)).push (w' := Z) (v' := v') (cs := cs) (by rw [h.len]; exact hown) hcs.nine
    exact this
  · intro i s' cs' h1 h2
    rcases Nat.lt_trichotomy i k with hi | hi | hi
    · rw [List.getElem?_append_left (by rw [h.len]; exact hi)] at h2
      refine (((h.has i s' cs' h1 h2).weak (ok' := fun g => w.heap.size ≤ g ∧ v.ownBlock ≠ some g ∧ g < wr.heap.size) (fun g hg hlt => ⟨hg.1, hg.2, hlt⟩)).kept hY (by simp)).kept hc (fun g hg hm => hg.2.1 (by simpa using hm)) |>.weak (fun g hg _ => ⟨hg.1, fun e => ?_⟩)
      rcases hat with e2 | e2
      · rw [e2] at e; exact hg.2.1 e
      · rw [e2] at e; injection e with e; omega
    · subst hi
      rw [List.getElem?_append_right (by rw [h.len]; omega), h.len, Nat.sub_self] at h2
      rw [hs] at h1
      simp at h1 h2
      subst h1 h2
      refine (hcs.kept hc (fun g hg hm => ?_)).weak (fun g hg _ => ⟨by omega, fun e => ?_⟩)
      · have := hv g (by simpa using hm); omega
      · rcases hat with e2 | e2
        · rw [e2] at e; have := hv g e; omega
        · rw [e2] at e; injection e with e; omega
    · have := (List.getElem?_eq_some_iff.1 h2).1
      simp [h.len] at this
      omega
set_option maxHeartbeats 4000000 in
set_option maxRecDepth 100000 in
theorem rcs_any (ss : List Stp) (B : Option Addr) (d : Nat) (w : World) (hS : StepsC (fun g => g < w.heap.size) w B ss) (hl : ss.length ≤ 1000) (hn : ∀ s ∈ ss, s.sub.nodes ≤ 100000) : Calls Try.prog 123 #[.slice B ss.length d] w (RcsPost ss w) := by
  obtain ⟨ip, hi, hz0, hz1, hz2⟩ := info_parts infoStep
  have hsz : (Try.prog.info? 148).map (·.size) = some 9 := by rw [hi]; simp [hz1]
  have HI := Lib.hid (And.intro hi (And.intro hz0 (And.intro hz1 (And.intro hz2 hsz))))
  have HS := Lib.hid (And.intro hS hn)
  clear hi hz0 hz1 hz2 hS hn hsz
  go_enter Try.func123, Try.ntmps123
  go_wp2
  go_loopw [3, 4] (fun v iv wr => ∃ (k : Nat) (css : List (List Value)), k ≤ ss.length ∧ iv = .int .i64 k ∧ Hid (Cps w wr ss k v css)) (fun _ iv _ => ss.length - (intOf iv).toNat)
  case atStart => exact ⟨0, [], Nat.zero_le _, rfl, ⟨Chg.refl _ _, RowR.nil _ _ _ _, rfl, fun i s cs _ h => by simp at h⟩⟩
  case round =>
    obtain ⟨k, css, hk, rfl, H⟩ := hrel
    by_cases hlt : k < ss.length
    · rcases HS.out.1 with h | ⟨g, o, ds, hB, hg, h1, h2, h3⟩
      · rw [h] at hlt; simp at hlt
      · subst hB
        obtain ⟨A, c, hcs, hT, htx⟩ := h3 k _ _ (List.getElem?_eq_getElem hlt) (List.getElem?_eq_getElem (by omega))
        have h9 : ∀ cs ∈ ds, cs.length = 9 := all4 h1 (fun i k cs a b => (h3 i k cs a b).nine)
        have hr : wr.rangeAt g (o + k * 9) (#[.int .i8 (Stp.op (ss[k])), .int .i64 (Stp.id (ss[k])), .int .i64 (Stp.par (ss[k])), .int .i64 (Stp.place (ss[k])), .string (Stp.text (ss[k])), .int .i64 (Tr.id (Stp.sub (ss[k]))), .int .i64 (Tr.kind (Stp.sub (ss[k]))), .string (Tr.text (Stp.sub (ss[k]))), .slice A (Tr.kids (Stp.sub (ss[k]))).length c] : Array Value).toList := fun j u hu => by
          have hf := flatN_at ds k _ j u h9 (List.getElem?_eq_getElem (by omega)) (by rw [hcs]; exact hu)
          have := H.out.chg.range h2 (by simp) (k * 9 + j) u hf
          rwa [Nat.add_assoc]
        have hnk : (ss[k]).sub.nodes ≤ 100000 := HS.out.2 _ (List.getElem_mem hlt)
        have hTr := (hT.kept H.out.chg (by simp)).weak (ok' := fun _ => True) (fun _ _ _ => trivial)
        have hsk : ss[k]? = some ss[k] := List.getElem?_eq_getElem hlt
        generalize ss[k] = s at *
        obtain ⟨W1, hW1⟩ : ∃ W1, W1 = wr.alloc (.cells #[.int .i8 (Stp.op s), .int .i64 (Stp.id s), .int .i64 (Stp.par s), .int .i64 (Stp.place s), .string (Stp.text s), .int .i64 (Tr.id (Stp.sub s)), .int .i64 (Tr.kind (Stp.sub s)), .string (Tr.text (Stp.sub s)), .slice A (Tr.kids (Stp.sub s)).length c] 148) := ⟨_, rfl⟩
        have hc1 : Chg [] wr W1 := by rw [hW1]; exact (by with_reducible repeat (first | exact Chg.refl _ _ | apply Chg.alloc | apply Chg.drew | apply Chg.drewN | (refine Chg.setCell ?_ _ _ (by simp))))
        have hb1 : W1.heap[wr.heap.size]? = some (.cells #[.int .i8 (Stp.op s), .int .i64 (Stp.id s), .int .i64 (Stp.par s), .int .i64 (Stp.place s), .string (Stp.text s), .int .i64 (Tr.id (Stp.sub s)), .int .i64 (Tr.kind (Stp.sub s)), .string (Tr.text (Stp.sub s)), .slice A (Tr.kids (Stp.sub s)).length c] 148 (0, 0)) := by rw [hW1]; exact heap_new _ _ rfl
        have hcall := copy_any s.sub A c W1 (hTr.kept hc1 (by simp)) hnk
        have h1c : (#[.int .i8 (Stp.op s), .int .i64 (Stp.id s), .int .i64 (Stp.par s), .int .i64 (Stp.place s), .string (Stp.text s), .int .i64 (Tr.id (Stp.sub s)), .int .i64 (Tr.kind (Stp.sub s)), .string (Tr.text (Stp.sub s)), .slice A (Tr.kids (Stp.sub s)).length c] : Array Value).all (·.oneCell') = true := by simp [Value.oneCell']
        have hr4 : W1.rangeAt wr.heap.size 5 (#[.int .i64 (Tr.id s.sub), .int .i64 (Tr.kind s.sub), .string (Tr.text s.sub), .slice A (Tr.kids s.sub).length c] : Array Value).toList := range_of_block (cs := (#[.int .i8 (Stp.op s), .int .i64 (Stp.id s), .int .i64 (Stp.par s), .int .i64 (Stp.place s), .string (Stp.text s), .int .i64 (Tr.id (Stp.sub s)), .int .i64 (Tr.kind (Stp.sub s)), .string (Tr.text (Stp.sub s)), .slice A (Tr.kids (Stp.sub s)).length c] : Array Value).toList) hb1 5 4
        have HX := Lib.hid (And.intro hr (And.intro (Eq.symm hW1) (And.intro hc1 (And.intro hb1 (And.intro hcall (And.intro h1c (And.intro hr4 (And.intro hsk htx))))))))
        clear hr hW1 hc1 hb1 hcall h1c hr4 hsk htx hTr hcs hT h9 h2 h3 h1 hnk
        go_wp2_with (first
          | (refine wpList_load_mid rfl 148 (.tmp 14) rfl g (o + k * 9) rfl (#[.int .i8 (Stp.op s), .int .i64 (Stp.id s), .int .i64 (Stp.par s), .int .i64 (Stp.place s), .string (Stp.text s), .int .i64 (Tr.id (Stp.sub s)), .int .i64 (Tr.kind (Stp.sub s)), .string (Tr.text (Stp.sub s)), .slice A (Tr.kids (Stp.sub s)).length c] : Array Value).toList _ HX.out.1 Try.underlying148 rfl HI.out.2.2.2.2 ?_)
          | (refine wpList_store_row rfl 148 (.tmp 5) (.tmp 15) rfl wr.heap.size rfl #[.int .i8 (Stp.op s), .int .i64 (Stp.id s), .int .i64 (Stp.par s), .int .i64 (Stp.place s), .string (Stp.text s), .int .i64 (Tr.id (Stp.sub s)), .int .i64 (Tr.kind (Stp.sub s)), .string (Tr.text (Stp.sub s)), .slice A (Tr.kids (Stp.sub s)).length c] rfl _ _ (heap_new _ _ rfl) HI.out.2.2.2.2 rfl HX.out.2.2.2.2.2.1 ?_; rw [setRow_new, HX.out.2.1])
          | (refine wpList_load_mid rfl 37 (.tmp 16) rfl wr.heap.size 5 rfl (#[.int .i64 (Tr.id s.sub), .int .i64 (Tr.kind s.sub), .string (Tr.text s.sub), .slice A (Tr.kids s.sub).length c] : Array Value).toList _ HX.out.2.2.2.2.2.2.1 Try.underlying37 rfl szNode ?_)
          | fail)
        refine HX.out.2.2.2.2.1.mono ?_
        rintro e X ⟨A1, c1, rfl, hV, hXc⟩
        have hbX := hXc.at HX.out.2.2.2.1 (by simp)
        have h4one : ∀ u ∈ (#[.int .i64 (Tr.id s.sub), .int .i64 (Tr.kind s.sub), .string (Tr.text s.sub), .slice A1 (Tr.kids s.sub).length c1] : Array Value).toList, u.oneCell' = true := by simp [Value.oneCell']
        obtain ⟨Y0, hY0⟩ : ∃ Y0, Y0 = X.setRow wr.heap.size #[.int .i8 (Stp.op s), .int .i64 (Stp.id s), .int .i64 (Stp.par s), .int .i64 (Stp.place s), .string (Stp.text s), .int .i64 (Tr.id (Stp.sub s)), .int .i64 (Tr.kind (Stp.sub s)), .string (Tr.text (Stp.sub s)), .slice A1 (Tr.kids (Stp.sub s)).length c1] := ⟨_, rfl⟩
        have hY0b : Y0.heap[wr.heap.size]? = some (.cells #[.int .i8 (Stp.op s), .int .i64 (Stp.id s), .int .i64 (Stp.par s), .int .i64 (Stp.place s), .string (Stp.text s), .int .i64 (Tr.id (Stp.sub s)), .int .i64 (Tr.kind (Stp.sub s)), .string (Tr.text (Stp.sub s)), .slice A1 (Tr.kids (Stp.sub s)).length c1] 148 (0, 0)) := by rw [hY0]; exact setRow_heap _ _ _ _ _ _ hbX
        have hcY0 : Chg [wr.heap.size] X Y0 := by rw [hY0]; exact setRow_chg _ _ _
        have hcw := (HX.out.2.2.1.trans hXc).andThen hcY0 (fun i hi => .inr (by simp at hi; omega))
        have hcY : Chg [] wr (Y0.alloc (.cells (Value.agg #[.int .i8 (Stp.op s), .int .i64 (Stp.id s), .int .i64 (Stp.par s), .int .i64 (Stp.place s), .string (Stp.text s), .int .i64 (Tr.id (Stp.sub s)), .int .i64 (Tr.kind (Stp.sub s)), .string (Tr.text (Stp.sub s)), .slice A1 (Tr.kids (Stp.sub s)).length c1]).cells 148)) := hcw.alloc _
        have hs9 : StpC (fun g => wr.heap.size ≤ g ∧ g < (Y0.alloc (.cells (Value.agg #[.int .i8 (Stp.op s), .int .i64 (Stp.id s), .int .i64 (Stp.par s), .int .i64 (Stp.place s), .string (Stp.text s), .int .i64 (Tr.id (Stp.sub s)), .int .i64 (Tr.kind (Stp.sub s)), .string (Tr.text (Stp.sub s)), .slice A1 (Tr.kids (Stp.sub s)).length c1]).cells 148)).heap.size) (Y0.alloc (.cells (Value.agg #[.int .i8 (Stp.op s), .int .i64 (Stp.id s), .int .i64 (Stp.par s), .int .i64 (Stp.place s), .string (Stp.text s), .int .i64 (Tr.id (Stp.sub s)), .int .i64 (Tr.kind (Stp.sub s)), .string (Tr.text (Stp.sub s)), .slice A1 (Tr.kids (Stp.sub s)).length c1]).cells 148)) s (#[.int .i8 (Stp.op s), .int .i64 (Stp.id s), .int .i64 (Stp.par s), .int .i64 (Stp.place s), .string (Stp.text s), .int .i64 (Tr.id (Stp.sub s)), .int .i64 (Tr.kind (Stp.sub s)), .string (Tr.text (Stp.sub s)), .slice A1 (Tr.kids (Stp.sub s)).length c1] : Array Value).toList := by
          refine ⟨A1, c1, rfl, ?_, HX.out.2.2.2.2.2.2.2.2⟩
          have h1s := HX.out.2.2.1.size
          have hlt1 := lt_of_block HX.out.2.2.2.1
          refine ((hV.toC.kept hcY0 (fun g hg hm => ?_)).kept ((Chg.refl [] _).alloc _) (by simp)).weak (fun g hg hlt => ⟨by omega, hlt⟩)
          simp at hm
          omega
        have hone9 : ∀ u ∈ (#[.int .i8 (Stp.op s), .int .i64 (Stp.id s), .int .i64 (Stp.par s), .int .i64 (Stp.place s), .string (Stp.text s), .int .i64 (Tr.id (Stp.sub s)), .int .i64 (Tr.kind (Stp.sub s)), .string (Tr.text (Stp.sub s)), .slice A1 (Tr.kids (Stp.sub s)).length c1] : Array Value).toList, u.oneCell' = true := hs9.one
        have hrow := (H.out.row.kept hcY (by simp)).row
        rw [H.out.len] at hrow
        have hbase : w.heap.size ≤ (Y0.alloc (.cells (Value.agg #[.int .i8 (Stp.op s), .int .i64 (Stp.id s), .int .i64 (Stp.par s), .int .i64 (Stp.place s), .string (Stp.text s), .int .i64 (Tr.id (Stp.sub s)), .int .i64 (Tr.kind (Stp.sub s)), .string (Tr.text (Stp.sub s)), .slice A1 (Tr.kids (Stp.sub s)).length c1]).cells 148)).heap.size := (H.out.chg.trans hcY).size
        have HY := Lib.hid (And.intro hbX (And.intro h4one (And.intro (Eq.symm hY0) (And.intro hY0b (And.intro hcY (And.intro hs9 (And.intro hone9 (And.intro hrow hbase))))))))
        clear hV hXc hbX h4one hY0 hY0b hcY0 hcw hcY hs9 hone9 hrow hbase
        go_wp2_with (first
          | (refine wpList_store_at rfl 37 (.tmp 19) (.tmp 18) rfl wr.heap.size 5 rfl #[.int .i64 (Tr.id s.sub), .int .i64 (Tr.kind s.sub), .string (Tr.text s.sub), .slice A1 (Tr.kids s.sub).length c1] rfl #[.int .i8 (Stp.op s), .int .i64 (Stp.id s), .int .i64 (Stp.par s), .int .i64 (Stp.place s), .string (Stp.text s), .int .i64 (Tr.id (Stp.sub s)), .int .i64 (Tr.kind (Stp.sub s)), .string (Tr.text (Stp.sub s)), .slice A (Tr.kids (Stp.sub s)).length c] _ HY.out.1 szNode (by simp) HY.out.2.1 ?_
             rw [show ((#[.int .i8 (Stp.op s), .int .i64 (Stp.id s), .int .i64 (Stp.par s), .int .i64 (Stp.place s), .string (Stp.text s), .int .i64 (Tr.id (Stp.sub s)), .int .i64 (Tr.kind (Stp.sub s)), .string (Tr.text (Stp.sub s)), .slice A (Tr.kids (Stp.sub s)).length c] : Array Value).toList.take 5 ++ (#[.int .i64 (Tr.id s.sub), .int .i64 (Tr.kind s.sub), .string (Tr.text s.sub), .slice A1 (Tr.kids s.sub).length c1] : Array Value).toList ++ (#[.int .i8 (Stp.op s), .int .i64 (Stp.id s), .int .i64 (Stp.par s), .int .i64 (Stp.place s), .string (Stp.text s), .int .i64 (Tr.id (Stp.sub s)), .int .i64 (Tr.kind (Stp.sub s)), .string (Tr.text (Stp.sub s)), .slice A (Tr.kids (Stp.sub s)).length c] : Array Value).toList.drop (5 + (#[.int .i64 (Tr.id s.sub), .int .i64 (Tr.kind s.sub), .string (Tr.text s.sub), .slice A1 (Tr.kids s.sub).length c1] : Array Value).size)).toArray = #[.int .i8 (Stp.op s), .int .i64 (Stp.id s), .int .i64 (Stp.par s), .int .i64 (Stp.place s), .string (Stp.text s), .int .i64 (Tr.id (Stp.sub s)), .int .i64 (Tr.kind (Stp.sub s)), .string (Tr.text (Stp.sub s)), .slice A1 (Tr.kids (Stp.sub s)).length c1] from rfl, HY.out.2.2.1])
          | (refine wpList_load_mid rfl 148 (.tmp 5) rfl wr.heap.size 0 rfl (#[.int .i8 (Stp.op s), .int .i64 (Stp.id s), .int .i64 (Stp.par s), .int .i64 (Stp.place s), .string (Stp.text s), .int .i64 (Tr.id (Stp.sub s)), .int .i64 (Tr.kind (Stp.sub s)), .string (Tr.text (Stp.sub s)), .slice A1 (Tr.kids (Stp.sub s)).length c1] : Array Value).toList _ (range_all HY.out.2.2.2.1) Try.underlying148 rfl HI.out.2.2.2.2 ?_)
          | (refine wpList_slice_one rfl 34 148 (.tmp 21) rfl Try.underlying34 ip _ HI.out.1 HI.out.2.1 (by rw [HI.out.2.2.1]; rfl) (by rw [HI.out.2.2.1]; omega) (by rw [HI.out.2.2.1]; omega) _ rfl (by rw [HI.out.2.2.1]; rfl) ?_)
          | (refine wpList_append_own_at _ rfl (.tmp 20) (.tmp 22) 34 rfl w.heap.size 148 ip _ 9 104 Try.underlying34 HI.out.1 HI.out.2.1 HI.out.2.2.1 HI.out.2.2.2.1 rfl (by omega) _ k css.flatten rfl HY.out.2.2.2.2.2.2.2.1 ⟨Y0.heap.size, 0, none⟩ 1 1 (#[.int .i8 (Stp.op s), .int .i64 (Stp.id s), .int .i64 (Stp.par s), .int .i64 (Stp.place s), .string (Stp.text s), .int .i64 (Tr.id (Stp.sub s)), .int .i64 (Tr.kind (Stp.sub s)), .string (Tr.text (Stp.sub s)), .slice A1 (Tr.kids (Stp.sub s)).length c1] : Array Value).toList rfl rfl (fun j u hu => by rw [Addr.add_mid]; exact range_all (heap_new Y0 _ rfl) j u hu) HY.out.2.2.2.2.2.2.1 (by unfold maxLen; omega) (by omega) HY.out.2.2.2.2.2.2.2.2 ?_
             intro v' Z hown' hgr _ hat
             have HZ := Lib.hid (H.out.push HX.out.2.2.2.2.2.2.2.1 HY.out.2.2.2.2.1 HY.out.2.2.2.2.2.1 hown' hgr hat)
             clear hown' hgr hat)
          | fail)
        go_roundw
        case rel => exact ⟨k + 1, _, by omega, by go_num, HZ⟩
        case measure => simp [intOf]; omega
    · obtain rfl : k = ss.length := by omega
      go_wp2
      go_ret
      exact ⟨_, css, rfl, H.out⟩
theorem Cps.steps {w wr : World} {ss : List Stp} {v : Value} {css : List (List Value)} (h : Cps w wr ss ss.length v css) : ∃ B d, v = .slice B ss.length d ∧ StepsC (fun g => w.heap.size ≤ g) wr B ss ∧ ss.length ≤ d ∧ d ≤ 9223372036854775807 ∧ (B = none → d = 0) := by
  rcases h.row.row.2 with ⟨rfl, h0⟩ | ⟨g, c, C, rfl, hb, hg, h1, h2, h3, h4⟩
  · have : ss = [] := List.eq_nil_of_length_eq_zero (by rw [← h.len]; exact h0)
    subst this
    exact ⟨none, 0, rfl, .inl rfl, Nat.le_refl _, by omega, fun _ => rfl⟩
  · unfold maxLen at h2
    rw [h.len] at h1 h4
    refine ⟨_, c, by rw [h.len], .inr ⟨g, 0, css, rfl, hb, h.len, fun j u hu => ?_, fun i s cs a b => (h.has i s cs a b).weak (fun x hx _ => hx.1)⟩, h1, by omega, fun e => by cases e⟩
    rw [← h4, List.getElem?_take] at hu
    split at hu
    · simp only [World.cell?, hg]; simpa using hu
    · cases hu
theorem set11' {w : World} {b : Nat} {a0 a1 a2 a3 a4 a5 a6 a7 a8 a9 a10 a11 a12 a13 a14 a15 v : Value} {t : TypeId} (h : w.heap[b]? = some (.cells #[a0, a1, a2, a3, a4, a5, a6, a7, a8, a9, a10, a11, a12, a13, a14, a15] t (0, 0))) :
    (w.setCell ⟨b, 11, none⟩ v).heap[b]? = some (.cells #[a0, a1, a2, a3, a4, a5, a6, a7, a8, a9, a10, v, a12, a13, a14, a15] t (0, 0)) :=
  heap_setCell_same _ _ 11 _ _ _ h
set_option maxHeartbeats 4000000 in
set_option maxRecDepth 100000 in
theorem rcopy_any (m : Msg) (A : Option Addr) (c : Nat) (B : Option Addr) (d : Nat) (w : World) (hM : MsgC (fun g => g < w.heap.size) w m A c B d) (hF : m.Fit) : Calls Try.prog 108 #[.agg #[.int .i8 (Msg.kind m), .int .i64 (Msg.frm m), .int .i64 (Msg.to m), .int .i64 (Msg.boot m), .int .i64 (Msg.server m), .int .i64 (Msg.number m), .int .i64 (Msg.node m), .int .i64 (Msg.lease m), .int .i64 (Msg.epoch m), .int .i64 (Msg.version m), .int .i64 (Msg.e m), .slice B (Msg.steps m).length d, .int .i64 (Msg.tree m).id, .int .i64 (Msg.tree m).kind, .string (Msg.tree m).text, .slice A (Msg.tree m).kids.length c]] w (MsgPost m w) := by
  have hm : (Try.prog.info? 39).map (·.size) = some 16 := infoMsg
  have h1c : (#[.int .i8 (Msg.kind m), .int .i64 (Msg.frm m), .int .i64 (Msg.to m), .int .i64 (Msg.boot m), .int .i64 (Msg.server m), .int .i64 (Msg.number m), .int .i64 (Msg.node m), .int .i64 (Msg.lease m), .int .i64 (Msg.epoch m), .int .i64 (Msg.version m), .int .i64 (Msg.e m), .slice B (Msg.steps m).length d, .int .i64 (Msg.tree m).id, .int .i64 (Msg.tree m).kind, .string (Msg.tree m).text, .slice A (Msg.tree m).kids.length c] : Array Value).all (·.oneCell') = true := by simp [Value.oneCell']
  obtain ⟨W1, hW1⟩ : ∃ W1, W1 = ((w.alloc (.cells #[.int .i8 (Msg.kind m), .int .i64 (Msg.frm m), .int .i64 (Msg.to m), .int .i64 (Msg.boot m), .int .i64 (Msg.server m), .int .i64 (Msg.number m), .int .i64 (Msg.node m), .int .i64 (Msg.lease m), .int .i64 (Msg.epoch m), .int .i64 (Msg.version m), .int .i64 (Msg.e m), .slice B (Msg.steps m).length d, .int .i64 (Msg.tree m).id, .int .i64 (Msg.tree m).kind, .string (Msg.tree m).text, .slice A (Msg.tree m).kids.length c] 39)).alloc (.cells #[.int .i8 0, .int .i64 0, .int .i64 0, .int .i64 0, .int .i64 0, .int .i64 0, .int .i64 0, .int .i64 0, .int .i64 0, .int .i64 0, .int .i64 0, .slice none 0 0, .int .i64 0, .int .i64 0, .string ⟨#[]⟩, .slice none 0 0] 39)).alloc (.cells #[.int .i8 (Msg.kind m), .int .i64 (Msg.frm m), .int .i64 (Msg.to m), .int .i64 (Msg.boot m), .int .i64 (Msg.server m), .int .i64 (Msg.number m), .int .i64 (Msg.node m), .int .i64 (Msg.lease m), .int .i64 (Msg.epoch m), .int .i64 (Msg.version m), .int .i64 (Msg.e m), .slice B (Msg.steps m).length d, .int .i64 (Msg.tree m).id, .int .i64 (Msg.tree m).kind, .string (Msg.tree m).text, .slice A (Msg.tree m).kids.length c] 39) := ⟨_, rfl⟩
  have hwa : Chg [] w ((w.alloc (.cells #[.int .i8 (Msg.kind m), .int .i64 (Msg.frm m), .int .i64 (Msg.to m), .int .i64 (Msg.boot m), .int .i64 (Msg.server m), .int .i64 (Msg.number m), .int .i64 (Msg.node m), .int .i64 (Msg.lease m), .int .i64 (Msg.epoch m), .int .i64 (Msg.version m), .int .i64 (Msg.e m), .slice B (Msg.steps m).length d, .int .i64 (Msg.tree m).id, .int .i64 (Msg.tree m).kind, .string (Msg.tree m).text, .slice A (Msg.tree m).kids.length c] 39)).alloc (.cells #[.int .i8 0, .int .i64 0, .int .i64 0, .int .i64 0, .int .i64 0, .int .i64 0, .int .i64 0, .int .i64 0, .int .i64 0, .int .i64 0, .int .i64 0, .slice none 0 0, .int .i64 0, .int .i64 0, .string ⟨#[]⟩, .slice none 0 0] 39)) := (by with_reducible repeat (first | exact Chg.refl _ _ | apply Chg.alloc | apply Chg.drew | apply Chg.drewN | (refine Chg.setCell ?_ _ _ (by simp))))
  have hb0' := heap_old (heap_new w (.cells #[.int .i8 (Msg.kind m), .int .i64 (Msg.frm m), .int .i64 (Msg.to m), .int .i64 (Msg.boot m), .int .i64 (Msg.server m), .int .i64 (Msg.number m), .int .i64 (Msg.node m), .int .i64 (Msg.lease m), .int .i64 (Msg.epoch m), .int .i64 (Msg.version m), .int .i64 (Msg.e m), .slice B (Msg.steps m).length d, .int .i64 (Msg.tree m).id, .int .i64 (Msg.tree m).kind, .string (Msg.tree m).text, .slice A (Msg.tree m).kids.length c] 39 (0, 0)) rfl) (.cells #[.int .i8 0, .int .i64 0, .int .i64 0, .int .i64 0, .int .i64 0, .int .i64 0, .int .i64 0, .int .i64 0, .int .i64 0, .int .i64 0, .int .i64 0, .slice none 0 0, .int .i64 0, .int .i64 0, .string ⟨#[]⟩, .slice none 0 0] 39 (0, 0))
  have hb0 : W1.heap[w.heap.size]? = some (.cells #[.int .i8 (Msg.kind m), .int .i64 (Msg.frm m), .int .i64 (Msg.to m), .int .i64 (Msg.boot m), .int .i64 (Msg.server m), .int .i64 (Msg.number m), .int .i64 (Msg.node m), .int .i64 (Msg.lease m), .int .i64 (Msg.epoch m), .int .i64 (Msg.version m), .int .i64 (Msg.e m), .slice B (Msg.steps m).length d, .int .i64 (Msg.tree m).id, .int .i64 (Msg.tree m).kind, .string (Msg.tree m).text, .slice A (Msg.tree m).kids.length c] 39 (0, 0)) := by rw [hW1]; exact heap_old hb0' _
  have hb1 : W1.heap[w.heap.size + 1]? = some (.cells #[.int .i8 0, .int .i64 0, .int .i64 0, .int .i64 0, .int .i64 0, .int .i64 0, .int .i64 0, .int .i64 0, .int .i64 0, .int .i64 0, .int .i64 0, .slice none 0 0, .int .i64 0, .int .i64 0, .string ⟨#[]⟩, .slice none 0 0] 39 (0, 0)) := by rw [hW1]; exact heap_old (heap_new _ _ (by simp)) _
  have hb2 : W1.heap[w.heap.size + 1 + 1]? = some (.cells #[.int .i8 (Msg.kind m), .int .i64 (Msg.frm m), .int .i64 (Msg.to m), .int .i64 (Msg.boot m), .int .i64 (Msg.server m), .int .i64 (Msg.number m), .int .i64 (Msg.node m), .int .i64 (Msg.lease m), .int .i64 (Msg.epoch m), .int .i64 (Msg.version m), .int .i64 (Msg.e m), .slice B (Msg.steps m).length d, .int .i64 (Msg.tree m).id, .int .i64 (Msg.tree m).kind, .string (Msg.tree m).text, .slice A (Msg.tree m).kids.length c] 39 (0, 0)) := by rw [hW1]; exact heap_new _ _ (by simp)
  have hw1 : Chg [] w W1 := by rw [hW1]; exact hwa.alloc _
  have hrc := rcs_any m.steps B d W1 ((hM.steps.kept hw1 (by simp)).weak (fun g hg _ => by have := hw1.size; omega)) hF.steps (fun s hs => hF.subs s hs)
  have c11 : W1.cell? ⟨w.heap.size, 11, none⟩ = some (.slice B m.steps.length d) := range_all hb0 11 _ rfl
  have f11 := blkF hb2 11
  have HV := Lib.hid (And.intro hM (And.intro hF (And.intro hm (And.intro h1c (And.intro hb0' (And.intro hb0 (And.intro hb1 (And.intro hb2 (And.intro hw1 (And.intro hrc (Eq.symm hW1)))))))))))
  clear hM hF hm h1c hb0' hb0 hb1 hb2 hw1 hrc hW1 hwa
  go_enter Try.func108, Try.ntmps108
  go_wp2_with (first
    | (refine wpList_load_mid rfl 39 (.tmp 1) rfl w.heap.size 0 rfl (#[.int .i8 (Msg.kind m), .int .i64 (Msg.frm m), .int .i64 (Msg.to m), .int .i64 (Msg.boot m), .int .i64 (Msg.server m), .int .i64 (Msg.number m), .int .i64 (Msg.node m), .int .i64 (Msg.lease m), .int .i64 (Msg.epoch m), .int .i64 (Msg.version m), .int .i64 (Msg.e m), .slice B (Msg.steps m).length d, .int .i64 (Msg.tree m).id, .int .i64 (Msg.tree m).kind, .string (Msg.tree m).text, .slice A (Msg.tree m).kids.length c] : Array Value).toList _ (range_all HV.out.2.2.2.2.1) Try.underlying39 rfl HV.out.2.2.1 ?_)
    | (refine wpList_store_row rfl 39 (.tmp 3) (.tmp 4) rfl (w.heap.size + 1 + 1) rfl #[.int .i8 (Msg.kind m), .int .i64 (Msg.frm m), .int .i64 (Msg.to m), .int .i64 (Msg.boot m), .int .i64 (Msg.server m), .int .i64 (Msg.number m), .int .i64 (Msg.node m), .int .i64 (Msg.lease m), .int .i64 (Msg.epoch m), .int .i64 (Msg.version m), .int .i64 (Msg.e m), .slice B (Msg.steps m).length d, .int .i64 (Msg.tree m).id, .int .i64 (Msg.tree m).kind, .string (Msg.tree m).text, .slice A (Msg.tree m).kids.length c] rfl _ _ (heap_new _ _ (by simp)) HV.out.2.2.1 rfl HV.out.2.2.2.1 ?_; rw [show w.heap.size + 1 + 1 = ((w.alloc (.cells #[.int .i8 (Msg.kind m), .int .i64 (Msg.frm m), .int .i64 (Msg.to m), .int .i64 (Msg.boot m), .int .i64 (Msg.server m), .int .i64 (Msg.number m), .int .i64 (Msg.node m), .int .i64 (Msg.lease m), .int .i64 (Msg.epoch m), .int .i64 (Msg.version m), .int .i64 (Msg.e m), .slice B (Msg.steps m).length d, .int .i64 (Msg.tree m).id, .int .i64 (Msg.tree m).kind, .string (Msg.tree m).text, .slice A (Msg.tree m).kids.length c] 39)).alloc (.cells #[.int .i8 0, .int .i64 0, .int .i64 0, .int .i64 0, .int .i64 0, .int .i64 0, .int .i64 0, .int .i64 0, .int .i64 0, .int .i64 0, .int .i64 0, .slice none 0 0, .int .i64 0, .int .i64 0, .string ⟨#[]⟩, .slice none 0 0] 39)).heap.size from by simp, setRow_new, HV.out.2.2.2.2.2.2.2.2.2.2, show ((w.alloc (.cells #[.int .i8 (Msg.kind m), .int .i64 (Msg.frm m), .int .i64 (Msg.to m), .int .i64 (Msg.boot m), .int .i64 (Msg.server m), .int .i64 (Msg.number m), .int .i64 (Msg.node m), .int .i64 (Msg.lease m), .int .i64 (Msg.epoch m), .int .i64 (Msg.version m), .int .i64 (Msg.e m), .slice B (Msg.steps m).length d, .int .i64 (Msg.tree m).id, .int .i64 (Msg.tree m).kind, .string (Msg.tree m).text, .slice A (Msg.tree m).kids.length c] 39)).alloc (.cells #[.int .i8 0, .int .i64 0, .int .i64 0, .int .i64 0, .int .i64 0, .int .i64 0, .int .i64 0, .int .i64 0, .int .i64 0, .int .i64 0, .int .i64 0, .slice none 0 0, .int .i64 0, .int .i64 0, .string ⟨#[]⟩, .slice none 0 0] 39)).heap.size = w.heap.size + 1 + 1 from by simp])
    | fail)
  refine HV.out.2.2.2.2.2.2.2.2.2.1.mono ?_
  rintro e X ⟨v, css, rfl, hC⟩
  obtain ⟨B1, d1, rfl, hS1, hd1, hd2, hd3⟩ := hC.steps
  have hx1 := HV.out.2.2.2.2.2.2.2.2.1.trans hC.chg
  have hbX := hC.chg.at HV.out.2.2.2.2.2.2.2.1 (by simp)
  have e11 : X.cell? ⟨w.heap.size + 1 + 1, 11, none⟩ = some (.slice B m.steps.length d) := range_all hbX 11 _ rfl
  have g11 := blkF hbX 11
  obtain ⟨Y, hY⟩ : ∃ Y, Y = X.setCell ⟨w.heap.size + 1 + 1, 11, none⟩ (.slice B1 m.steps.length d1) := ⟨_, rfl⟩
  have hYb : Y.heap[w.heap.size + 1 + 1]? = some (.cells #[.int .i8 (Msg.kind m), .int .i64 (Msg.frm m), .int .i64 (Msg.to m), .int .i64 (Msg.boot m), .int .i64 (Msg.server m), .int .i64 (Msg.number m), .int .i64 (Msg.node m), .int .i64 (Msg.lease m), .int .i64 (Msg.epoch m), .int .i64 (Msg.version m), .int .i64 (Msg.e m), .slice B1 (Msg.steps m).length d1, .int .i64 (Msg.tree m).id, .int .i64 (Msg.tree m).kind, .string (Msg.tree m).text, .slice A (Msg.tree m).kids.length c] 39 (0, 0)) := by rw [hY]; exact set11' hbX
  have hXY : Chg [w.heap.size + 1 + 1] X Y := by rw [hY]; exact (Chg.refl _ _).setCell _ _ (by simp)
  have hwY : Chg [] w Y := hx1.andThen hXY (fun i hi => .inr (by simp at hi; omega))
  have hY0 := hXY.at (hC.chg.at HV.out.2.2.2.2.2.1 (by simp)) (by simp; omega)
  have hY1 := hXY.at (hC.chg.at HV.out.2.2.2.2.2.2.1 (by simp)) (by simp)
  have hr4 : Y.rangeAt w.heap.size 12 (#[.int .i64 (Tr.id m.tree), .int .i64 (Tr.kind m.tree), .string (Tr.text m.tree), .slice A (Tr.kids m.tree).length c] : Array Value).toList := range_of_block (cs := (#[.int .i8 (Msg.kind m), .int .i64 (Msg.frm m), .int .i64 (Msg.to m), .int .i64 (Msg.boot m), .int .i64 (Msg.server m), .int .i64 (Msg.number m), .int .i64 (Msg.node m), .int .i64 (Msg.lease m), .int .i64 (Msg.epoch m), .int .i64 (Msg.version m), .int .i64 (Msg.e m), .slice B (Msg.steps m).length d, .int .i64 (Msg.tree m).id, .int .i64 (Msg.tree m).kind, .string (Msg.tree m).text, .slice A (Msg.tree m).kids.length c] : Array Value).toList) hY0 12 4
  have hcall := copy_any m.tree A c Y ((HV.out.1.tree.kept hwY (by simp)).weak (fun _ _ _ => trivial)) HV.out.2.1.tree
  have hW1s : w.heap.size + 1 + 1 < W1.heap.size := lt_of_block HV.out.2.2.2.2.2.2.2.1
  have hSY := hS1.kept hXY (fun g hg hm => by simp at hm; omega)
  have HY := Lib.hid (And.intro hYb (And.intro hwY (And.intro hY1 (And.intro hr4 (And.intro hcall (And.intro hSY (And.intro (Eq.symm hY) (And.intro hd1 (And.intro hd2 hd3)))))))))
  clear hC hx1 hbX hY hYb hXY hwY hY0 hY1 hr4 hcall hS1 hSY hd1 hd2 hd3 c11 f11
  go_wp2_with (first
    | (rw [HY.out.2.2.2.2.2.2.1]; refine wpList_load_mid rfl 37 (.tmp 9) rfl w.heap.size 12 rfl (#[.int .i64 (Tr.id m.tree), .int .i64 (Tr.kind m.tree), .string (Tr.text m.tree), .slice A (Tr.kids m.tree).length c] : Array Value).toList _ HY.out.2.2.2.1 Try.underlying37 rfl szNode ?_)
    | (refine wpList_load_mid rfl 37 (.tmp 9) rfl w.heap.size 12 rfl (#[.int .i64 (Tr.id m.tree), .int .i64 (Tr.kind m.tree), .string (Tr.text m.tree), .slice A (Tr.kids m.tree).length c] : Array Value).toList _ HY.out.2.2.2.1 Try.underlying37 rfl szNode ?_)
    | fail)
  refine HY.out.2.2.2.2.1.mono ?_
  rintro e Z ⟨A2, c2, rfl, hV2, hYZ⟩
  have hZb := hYZ.at HY.out.1 (by simp)
  have h4one : ∀ u ∈ (#[.int .i64 (Tr.id m.tree), .int .i64 (Tr.kind m.tree), .string (Tr.text m.tree), .slice A2 (Tr.kids m.tree).length c2] : Array Value).toList, u.oneCell' = true := by simp [Value.oneCell']
  obtain ⟨T, hT⟩ : ∃ T, T = Z.setRow (w.heap.size + 1 + 1) #[.int .i8 (Msg.kind m), .int .i64 (Msg.frm m), .int .i64 (Msg.to m), .int .i64 (Msg.boot m), .int .i64 (Msg.server m), .int .i64 (Msg.number m), .int .i64 (Msg.node m), .int .i64 (Msg.lease m), .int .i64 (Msg.epoch m), .int .i64 (Msg.version m), .int .i64 (Msg.e m), .slice B1 (Msg.steps m).length d1, .int .i64 (Msg.tree m).id, .int .i64 (Msg.tree m).kind, .string (Msg.tree m).text, .slice A2 (Msg.tree m).kids.length c2] := ⟨_, rfl⟩
  have hTb : T.heap[w.heap.size + 1 + 1]? = some (.cells #[.int .i8 (Msg.kind m), .int .i64 (Msg.frm m), .int .i64 (Msg.to m), .int .i64 (Msg.boot m), .int .i64 (Msg.server m), .int .i64 (Msg.number m), .int .i64 (Msg.node m), .int .i64 (Msg.lease m), .int .i64 (Msg.epoch m), .int .i64 (Msg.version m), .int .i64 (Msg.e m), .slice B1 (Msg.steps m).length d1, .int .i64 (Msg.tree m).id, .int .i64 (Msg.tree m).kind, .string (Msg.tree m).text, .slice A2 (Msg.tree m).kids.length c2] 39 (0, 0)) := by rw [hT]; exact setRow_heap _ _ _ _ _ _ hZb
  have hZT : Chg [w.heap.size + 1 + 1] Z T := by rw [hT]; exact setRow_chg _ _ _
  have hT1 := hZT.at (hYZ.at HY.out.2.2.1 (by simp)) (by simp)
  have h1c2 : (#[.int .i8 (Msg.kind m), .int .i64 (Msg.frm m), .int .i64 (Msg.to m), .int .i64 (Msg.boot m), .int .i64 (Msg.server m), .int .i64 (Msg.number m), .int .i64 (Msg.node m), .int .i64 (Msg.lease m), .int .i64 (Msg.epoch m), .int .i64 (Msg.version m), .int .i64 (Msg.e m), .slice B1 (Msg.steps m).length d1, .int .i64 (Msg.tree m).id, .int .i64 (Msg.tree m).kind, .string (Msg.tree m).text, .slice A2 (Msg.tree m).kids.length c2] : Array Value).all (·.oneCell') = true := by simp [Value.oneCell']
  have hTE := setRow_chg T (w.heap.size + 1) #[.int .i8 (Msg.kind m), .int .i64 (Msg.frm m), .int .i64 (Msg.to m), .int .i64 (Msg.boot m), .int .i64 (Msg.server m), .int .i64 (Msg.number m), .int .i64 (Msg.node m), .int .i64 (Msg.lease m), .int .i64 (Msg.epoch m), .int .i64 (Msg.version m), .int .i64 (Msg.e m), .slice B1 (Msg.steps m).length d1, .int .i64 (Msg.tree m).id, .int .i64 (Msg.tree m).kind, .string (Msg.tree m).text, .slice A2 (Msg.tree m).kids.length c2]
  have hwT := (HY.out.2.1.trans hYZ).andThen hZT (fun i hi => .inr (by simp at hi; omega))
  have hwE := hwT.andThen hTE (fun i hi => .inr (by simp at hi; omega))
  have hYs : w.heap.size + 1 + 1 < Y.heap.size := lt_of_block HY.out.1
  have hMf : MsgC (fun g => w.heap.size ≤ g ∧ g < (T.setRow (w.heap.size + 1) #[.int .i8 (Msg.kind m), .int .i64 (Msg.frm m), .int .i64 (Msg.to m), .int .i64 (Msg.boot m), .int .i64 (Msg.server m), .int .i64 (Msg.number m), .int .i64 (Msg.node m), .int .i64 (Msg.lease m), .int .i64 (Msg.epoch m), .int .i64 (Msg.version m), .int .i64 (Msg.e m), .slice B1 (Msg.steps m).length d1, .int .i64 (Msg.tree m).id, .int .i64 (Msg.tree m).kind, .string (Msg.tree m).text, .slice A2 (Msg.tree m).kids.length c2]).heap.size) (T.setRow (w.heap.size + 1) #[.int .i8 (Msg.kind m), .int .i64 (Msg.frm m), .int .i64 (Msg.to m), .int .i64 (Msg.boot m), .int .i64 (Msg.server m), .int .i64 (Msg.number m), .int .i64 (Msg.node m), .int .i64 (Msg.lease m), .int .i64 (Msg.epoch m), .int .i64 (Msg.version m), .int .i64 (Msg.e m), .slice B1 (Msg.steps m).length d1, .int .i64 (Msg.tree m).id, .int .i64 (Msg.tree m).kind, .string (Msg.tree m).text, .slice A2 (Msg.tree m).kids.length c2]) m A2 c2 B1 d1 := by
    refine ⟨?_, ?_, HY.out.2.2.2.2.2.2.2.1, HY.out.2.2.2.2.2.2.2.2.1, HY.out.2.2.2.2.2.2.2.2.2⟩
    · refine ((hV2.toC.kept hZT (fun g hg hm => ?_)).kept hTE (fun g hg hm => ?_)).weak (fun g hg hlt => ⟨by omega, hlt⟩)
      · simp at hm; omega
      · simp at hm; omega
    · refine (((HY.out.2.2.2.2.2.1.kept hYZ (by simp)).kept hZT (fun g hg hm => ?_)).kept hTE (fun g hg hm => ?_)).weak (fun g hg hlt => ⟨by omega, hlt⟩)
      · simp at hm; omega
      · simp at hm; omega
  have HZ := Lib.hid (And.intro hZb (And.intro h4one (And.intro (Eq.symm hT) (And.intro hTb (And.intro hT1 (And.intro h1c2 (And.intro hwE hMf)))))))
  clear hV2 hYZ hZb h4one hT hTb hZT hT1 h1c2 hTE hwT hwE hMf e11 g11
  go_wp2_with (first
    | (refine wpList_store_at rfl 37 (.tmp 12) (.tmp 11) rfl (w.heap.size + 1 + 1) 12 rfl #[.int .i64 (Tr.id m.tree), .int .i64 (Tr.kind m.tree), .string (Tr.text m.tree), .slice A2 (Tr.kids m.tree).length c2] rfl #[.int .i8 (Msg.kind m), .int .i64 (Msg.frm m), .int .i64 (Msg.to m), .int .i64 (Msg.boot m), .int .i64 (Msg.server m), .int .i64 (Msg.number m), .int .i64 (Msg.node m), .int .i64 (Msg.lease m), .int .i64 (Msg.epoch m), .int .i64 (Msg.version m), .int .i64 (Msg.e m), .slice B1 (Msg.steps m).length d1, .int .i64 (Msg.tree m).id, .int .i64 (Msg.tree m).kind, .string (Msg.tree m).text, .slice A (Msg.tree m).kids.length c] _ HZ.out.1 szNode (by simp) HZ.out.2.1 ?_
       rw [show ((#[.int .i8 (Msg.kind m), .int .i64 (Msg.frm m), .int .i64 (Msg.to m), .int .i64 (Msg.boot m), .int .i64 (Msg.server m), .int .i64 (Msg.number m), .int .i64 (Msg.node m), .int .i64 (Msg.lease m), .int .i64 (Msg.epoch m), .int .i64 (Msg.version m), .int .i64 (Msg.e m), .slice B1 (Msg.steps m).length d1, .int .i64 (Msg.tree m).id, .int .i64 (Msg.tree m).kind, .string (Msg.tree m).text, .slice A (Msg.tree m).kids.length c] : Array Value).toList.take 12 ++ (#[.int .i64 (Tr.id m.tree), .int .i64 (Tr.kind m.tree), .string (Tr.text m.tree), .slice A2 (Tr.kids m.tree).length c2] : Array Value).toList ++ (#[.int .i8 (Msg.kind m), .int .i64 (Msg.frm m), .int .i64 (Msg.to m), .int .i64 (Msg.boot m), .int .i64 (Msg.server m), .int .i64 (Msg.number m), .int .i64 (Msg.node m), .int .i64 (Msg.lease m), .int .i64 (Msg.epoch m), .int .i64 (Msg.version m), .int .i64 (Msg.e m), .slice B1 (Msg.steps m).length d1, .int .i64 (Msg.tree m).id, .int .i64 (Msg.tree m).kind, .string (Msg.tree m).text, .slice A (Msg.tree m).kids.length c] : Array Value).toList.drop (12 + (#[.int .i64 (Tr.id m.tree), .int .i64 (Tr.kind m.tree), .string (Tr.text m.tree), .slice A2 (Tr.kids m.tree).length c2] : Array Value).size)).toArray = #[.int .i8 (Msg.kind m), .int .i64 (Msg.frm m), .int .i64 (Msg.to m), .int .i64 (Msg.boot m), .int .i64 (Msg.server m), .int .i64 (Msg.number m), .int .i64 (Msg.node m), .int .i64 (Msg.lease m), .int .i64 (Msg.epoch m), .int .i64 (Msg.version m), .int .i64 (Msg.e m), .slice B1 (Msg.steps m).length d1, .int .i64 (Msg.tree m).id, .int .i64 (Msg.tree m).kind, .string (Msg.tree m).text, .slice A2 (Msg.tree m).kids.length c2] from rfl, HZ.out.2.2.1])
    | (refine wpList_load_mid rfl 39 (.tmp 3) rfl (w.heap.size + 1 + 1) 0 rfl (#[.int .i8 (Msg.kind m), .int .i64 (Msg.frm m), .int .i64 (Msg.to m), .int .i64 (Msg.boot m), .int .i64 (Msg.server m), .int .i64 (Msg.number m), .int .i64 (Msg.node m), .int .i64 (Msg.lease m), .int .i64 (Msg.epoch m), .int .i64 (Msg.version m), .int .i64 (Msg.e m), .slice B1 (Msg.steps m).length d1, .int .i64 (Msg.tree m).id, .int .i64 (Msg.tree m).kind, .string (Msg.tree m).text, .slice A2 (Msg.tree m).kids.length c2] : Array Value).toList _ (range_all HZ.out.2.2.2.1) Try.underlying39 rfl HV.out.2.2.1 ?_)
    | (refine wpList_store_row rfl 39 (.tmp 2) (.tmp 13) rfl (w.heap.size + 1) rfl #[.int .i8 (Msg.kind m), .int .i64 (Msg.frm m), .int .i64 (Msg.to m), .int .i64 (Msg.boot m), .int .i64 (Msg.server m), .int .i64 (Msg.number m), .int .i64 (Msg.node m), .int .i64 (Msg.lease m), .int .i64 (Msg.epoch m), .int .i64 (Msg.version m), .int .i64 (Msg.e m), .slice B1 (Msg.steps m).length d1, .int .i64 (Msg.tree m).id, .int .i64 (Msg.tree m).kind, .string (Msg.tree m).text, .slice A2 (Msg.tree m).kids.length c2] rfl _ _ HZ.out.2.2.2.2.1 HV.out.2.2.1 rfl HZ.out.2.2.2.2.2.1 ?_)
    | fail)
  exact bodyPost_ret (v := .agg #[.int .i8 (Msg.kind m), .int .i64 (Msg.frm m), .int .i64 (Msg.to m), .int .i64 (Msg.boot m), .int .i64 (Msg.server m), .int .i64 (Msg.number m), .int .i64 (Msg.node m), .int .i64 (Msg.lease m), .int .i64 (Msg.epoch m), .int .i64 (Msg.version m), .int .i64 (Msg.e m), .slice B1 (Msg.steps m).length d1, .int .i64 (Msg.tree m).id, .int .i64 (Msg.tree m).kind, .string (Msg.tree m).text, .slice A2 (Msg.tree m).kids.length c2]) (results_cell_row rfl _ _ (w.heap.size + 1) _ _ _ _ rfl (setRow_heap _ _ _ _ _ _ HZ.out.2.2.2.2.1) Try.underlying39 rfl HV.out.2.2.1) rfl ⟨A2, c2, B1, d1, rfl, HZ.out.2.2.2.2.2.2.2, HZ.out.2.2.2.2.2.2.1⟩
end Go.Proofs.Ytipijkpjmpejlaa
