import Derived.Test.YtipijkpjmpejlaaNetM
import Derived.Laws.EntriesVeiled
/- The contract of net.copied. Conditions: at most 1000 steps, trees of at most 100,000 nodes. -/
set_option linter.unusedVariables false
set_option linter.unusedSimpArgs false
namespace Go.Proofs.Ytipijkpjmpejlaa
open Go.RowKit
/-- What a message leads to. -/
structure MsgC (ok : Nat → Prop) (w : World) (m : Msg) (A : Option Addr) (c : Nat) (B : Option Addr) (d : Nat) : Prop where
  tree : TrC ok w m.tree [.int .i64 (Tr.id m.tree), .int .i64 (Tr.kind m.tree), .string (Tr.text m.tree), .slice A (Tr.kids m.tree).length c]
  steps : StepsC ok w B m.steps
  cap : m.steps.length ≤ d
  top : d ≤ 9223372036854775807
  nil : B = none → d = 0
theorem MsgC.kept {ok : Nat → Prop} {w w' : World} {m : Msg} {A : Option Addr} {c : Nat} {B : Option Addr} {d : Nat} {l : List Nat} (h : MsgC ok w m A c B d) (hc : Chg l w w') (hl : ∀ g, ok g → g ∉ l) : MsgC ok w' m A c B d :=
  ⟨h.tree.kept hc hl, h.steps.kept hc hl, h.cap, h.top, h.nil⟩
theorem MsgC.weak {ok ok' : Nat → Prop} {w : World} {m : Msg} {A : Option Addr} {c : Nat} {B : Option Addr} {d : Nat} (h : MsgC ok w m A c B d) (hl : ∀ g, ok g → g < w.heap.size → ok' g) : MsgC ok' w m A c B d :=
  ⟨h.tree.weak hl, h.steps.weak hl, h.cap, h.top, h.nil⟩
/-- A message that is not too great. -/
structure Msg.Fit (m : Msg) : Prop where
  tree : m.tree.nodes ≤ 100000
  steps : m.steps.length ≤ 1000
  subs : ∀ s ∈ m.steps, s.sub.nodes ≤ 100000
/-- A message that the call made. -/
def MsgPost (m : Msg) (w : World) (e : Ending) (w' : World) : Prop := ∃ A c B d, e = .returned (.agg #[.int .i8 (Msg.kind m), .int .i64 (Msg.frm m), .int .i64 (Msg.to m), .int .i64 (Msg.boot m), .int .i64 (Msg.server m), .int .i64 (Msg.number m), .int .i64 (Msg.node m), .int .i64 (Msg.lease m), .int .i64 (Msg.epoch m), .int .i64 (Msg.version m), .int .i64 (Msg.e m), .slice B (Msg.steps m).length d, .int .i64 (Msg.tree m).id, .int .i64 (Msg.tree m).kind, .string (Msg.tree m).text, .slice A (Msg.tree m).kids.length c]) ∧ MsgC (fun g => w.heap.size ≤ g ∧ g < w'.heap.size) w' m A c B d ∧ Chg [] w w'
/-- A copy of a message under way: the box, the result's place, the closure's box; k steps have their own trees. -/
structure Cpy (w wr : World) (m : Msg) (A : Option Addr) (c k : Nat) (v : Value) (css : List (List Value)) : Prop where
  box : wr.heap[w.heap.size]? = some (.cells #[.int .i8 (Msg.kind m), .int .i64 (Msg.frm m), .int .i64 (Msg.to m), .int .i64 (Msg.boot m), .int .i64 (Msg.server m), .int .i64 (Msg.number m), .int .i64 (Msg.node m), .int .i64 (Msg.lease m), .int .i64 (Msg.epoch m), .int .i64 (Msg.version m), .int .i64 (Msg.e m), v, .int .i64 (Msg.tree m).id, .int .i64 (Msg.tree m).kind, .string (Msg.tree m).text, .slice A (Msg.tree m).kids.length c] 39 (0, 0))
  res : wr.heap[w.heap.size + 1]? = some (.cells #[.int .i8 0, .int .i64 0, .int .i64 0, .int .i64 0, .int .i64 0, .int .i64 0, .int .i64 0, .int .i64 0, .int .i64 0, .int .i64 0, .int .i64 0, .slice none 0 0, .int .i64 0, .int .i64 0, .string ⟨#[]⟩, .slice none 0 0] 39 (0, 0))
  fn : wr.heap[w.heap.size + 1 + 1]? = some (.cells #[(.func (.func 102) #[] #[.pointer (some ⟨w.heap.size + 1 + 1, 0, none⟩)])] 158 (0, 0))
  chg : Chg [] w wr
  tree : TrC (fun g => w.heap.size + 3 ≤ g ∧ v.ownBlock ≠ some g) wr m.tree [.int .i64 (Tr.id m.tree), .int .i64 (Tr.kind m.tree), .string (Tr.text m.tree), .slice A (Tr.kids m.tree).length c]
  row : RowR wr 9 148 (w.heap.size + 3) v css
  len : css.length = m.steps.length
  has : ∀ (i : Nat) s cs, m.steps[i]? = some s → css[i]? = some cs → StpC (fun g => if i < k then w.heap.size + 3 ≤ g ∧ v.ownBlock ≠ some g else g < w.heap.size) wr s cs
/-- Sixteen cells: those of the tree are set. -/
theorem set12 {w : World} {b : Nat} {a0 a1 a2 a3 a4 a5 a6 a7 a8 a9 a10 a11 a12 a13 a14 a15 v0 v1 v2 v3 : Value} {t : TypeId} (h : w.heap[b]? = some (.cells #[a0, a1, a2, a3, a4, a5, a6, a7, a8, a9, a10, a11, a12, a13, a14, a15] t (0, 0))) :
    ((((w.setCell ⟨b, 12, none⟩ v0).setCell ⟨b, 13, none⟩ v1).setCell ⟨b, 14, none⟩ v2).setCell ⟨b, 15, none⟩ v3).heap[b]? = some (.cells #[a0, a1, a2, a3, a4, a5, a6, a7, a8, a9, a10, a11, v0, v1, v2, v3] t (0, 0)) :=
  heap_setCell_same _ _ 15 _ _ _ (heap_setCell_same _ _ 14 _ _ _ (heap_setCell_same _ _ 13 _ _ _ (heap_setCell_same _ _ 12 _ _ _ h)))
theorem set11 {w : World} {b : Nat} {a0 a1 a2 a3 a4 a5 a6 a7 a8 a9 a10 a11 a12 a13 a14 a15 v : Value} {t : TypeId} (h : w.heap[b]? = some (.cells #[a0, a1, a2, a3, a4, a5, a6, a7, a8, a9, a10, a11, a12, a13, a14, a15] t (0, 0))) :
    (w.setCell ⟨b, 11, none⟩ v).heap[b]? = some (.cells #[a0, a1, a2, a3, a4, a5, a6, a7, a8, a9, a10, v, a12, a13, a14, a15] t (0, 0)) :=
  heap_setCell_same _ _ 11 _ _ _ h
theorem chg12 (w : World) (b : Nat) (v0 v1 v2 v3 : Value) : Chg [b] w ((((w.setCell ⟨b, 12, none⟩ v0).setCell ⟨b, 13, none⟩ v1).setCell ⟨b, 14, none⟩ v2).setCell ⟨b, 15, none⟩ v3) :=
  ((((Chg.refl _ _).setCell _ _ (by simp)).setCell _ _ (by simp)).setCell _ _ (by simp)).setCell _ _ (by simp)
theorem blk16 {w : World} {b : Nat} {a0 a1 a2 a3 a4 a5 a6 a7 a8 a9 a10 a11 a12 a13 a14 a15 : Value} {t : TypeId} {fr : Nat × Nat} (h : w.heap[b]? = some (.cells #[a0, a1, a2, a3, a4, a5, a6, a7, a8, a9, a10, a11, a12, a13, a14, a15] t fr)) :
    w.cell? ⟨b, 11, none⟩ = some a11 ∧ w.cell? ⟨b, 12, none⟩ = some a12 ∧ w.cell? ⟨b, 13, none⟩ = some a13 ∧ w.cell? ⟨b, 14, none⟩ = some a14 ∧ w.cell? ⟨b, 15, none⟩ = some a15 := by
  simp [World.cell?, h]
/-- A step's subtree is set. -/
theorem setSub {w : World} {T : TypeId} {base g c k m : Nat} {css : List (List Value)} (h : RowR w 9 T base (.slice (some ⟨g, 0, none⟩) m c) css) (hm : css.length = m) (hk : k < css.length) (v0 v1 v2 v3 : Value) :
    RowR ((((w.setCell ⟨g, k * 9 + 5, none⟩ v0).setCell ⟨g, k * 9 + 5 + 1, none⟩ v1).setCell ⟨g, k * 9 + 5 + 2, none⟩ v2).setCell ⟨g, k * 9 + 5 + 3, none⟩ v3) 9 T base (.slice (some ⟨g, 0, none⟩) m c) (css.set k (((((css[k]).set 5 v0).set 6 v1).set 7 v2).set 8 v3)) := by
  have h1 := h.setCell' (j := 5) (u := v0) hm hk (by omega)
  have h2 := h1.setCell' (i := k) (j := 6) (u := v1) (by simpa using hm) (by simpa using hk) (by omega)
  simp only [List.getElem_set_self, List.set_set] at h2
  have h3 := h2.setCell' (i := k) (j := 7) (u := v2) (by simpa using hm) (by simpa using hk) (by omega)
  simp only [List.getElem_set_self, List.set_set] at h3
  have h4 := h3.setCell' (i := k) (j := 8) (u := v3) (by simpa using hm) (by simpa using hk) (by omega)
  simp only [List.getElem_set_self, List.set_set] at h4
  exact h4
theorem chgSub (w : World) (g o : Nat) (v0 v1 v2 v3 : Value) : Chg [g] w ((((w.setCell ⟨g, o, none⟩ v0).setCell ⟨g, o + 1, none⟩ v1).setCell ⟨g, o + 2, none⟩ v2).setCell ⟨g, o + 3, none⟩ v3) :=
  ((((Chg.refl _ _).setCell _ _ (by simp)).setCell _ _ (by simp)).setCell _ _ (by simp)).setCell _ _ (by simp)
set_option maxHeartbeats 4000000 in
set_option maxRecDepth 100000 in
theorem copied_any (m : Msg) (A : Option Addr) (c : Nat) (B : Option Addr) (d : Nat) (w : World) (hM : MsgC (fun g => g < w.heap.size) w m A c B d) (hF : m.Fit) : Calls Try.prog 79 #[.agg #[.int .i8 (Msg.kind m), .int .i64 (Msg.frm m), .int .i64 (Msg.to m), .int .i64 (Msg.boot m), .int .i64 (Msg.server m), .int .i64 (Msg.number m), .int .i64 (Msg.node m), .int .i64 (Msg.lease m), .int .i64 (Msg.epoch m), .int .i64 (Msg.version m), .int .i64 (Msg.e m), .slice B (Msg.steps m).length d, .int .i64 (Msg.tree m).id, .int .i64 (Msg.tree m).kind, .string (Msg.tree m).text, .slice A (Msg.tree m).kids.length c]] w (MsgPost m w) := by
  obtain ⟨Ws, hWs⟩ : ∃ W, W = ((w.alloc (.cells #[.int .i8 (Msg.kind m), .int .i64 (Msg.frm m), .int .i64 (Msg.to m), .int .i64 (Msg.boot m), .int .i64 (Msg.server m), .int .i64 (Msg.number m), .int .i64 (Msg.node m), .int .i64 (Msg.lease m), .int .i64 (Msg.epoch m), .int .i64 (Msg.version m), .int .i64 (Msg.e m), .slice B (Msg.steps m).length d, .int .i64 (Msg.tree m).id, .int .i64 (Msg.tree m).kind, .string (Msg.tree m).text, .slice A (Msg.tree m).kids.length c] 39)).alloc (.cells #[.int .i8 0, .int .i64 0, .int .i64 0, .int .i64 0, .int .i64 0, .int .i64 0, .int .i64 0, .int .i64 0, .int .i64 0, .int .i64 0, .int .i64 0, .slice none 0 0, .int .i64 0, .int .i64 0, .string ⟨#[]⟩, .slice none 0 0] 39)).alloc (.cells #[(.func (.func 102) #[] #[.pointer (some ⟨w.heap.size + 1 + 1, 0, none⟩)])] 158) := ⟨_, rfl⟩
  have k0 : Ws.heap[w.heap.size]? = some (.cells #[.int .i8 (Msg.kind m), .int .i64 (Msg.frm m), .int .i64 (Msg.to m), .int .i64 (Msg.boot m), .int .i64 (Msg.server m), .int .i64 (Msg.number m), .int .i64 (Msg.node m), .int .i64 (Msg.lease m), .int .i64 (Msg.epoch m), .int .i64 (Msg.version m), .int .i64 (Msg.e m), .slice B (Msg.steps m).length d, .int .i64 (Msg.tree m).id, .int .i64 (Msg.tree m).kind, .string (Msg.tree m).text, .slice A (Msg.tree m).kids.length c] 39 (0, 0)) := by rw [hWs]; exact heap_old (heap_old (heap_new _ _ rfl) _) _
  have k1 : Ws.heap[w.heap.size + 1]? = some (.cells #[.int .i8 0, .int .i64 0, .int .i64 0, .int .i64 0, .int .i64 0, .int .i64 0, .int .i64 0, .int .i64 0, .int .i64 0, .int .i64 0, .int .i64 0, .slice none 0 0, .int .i64 0, .int .i64 0, .string ⟨#[]⟩, .slice none 0 0] 39 (0, 0)) := by rw [hWs]; exact heap_old (heap_new _ _ (by simp)) _
  have k2 : Ws.heap[w.heap.size + 1 + 1]? = some (.cells #[(.func (.func 102) #[] #[.pointer (some ⟨w.heap.size + 1 + 1, 0, none⟩)])] 158 (0, 0)) := by rw [hWs]; exact heap_new _ _ (by simp)
  have hC : Chg [] w Ws := by rw [hWs]; exact (by with_reducible repeat (first | exact Chg.refl _ _ | apply Chg.alloc | apply Chg.drew | apply Chg.drewN | (refine Chg.setCell ?_ _ _ (by simp))))
  have hz : Ws.heap.size = w.heap.size + 3 := by rw [hWs]; simp
  have htb : Ws.cell? ⟨w.heap.size + 1 + 1, 0, none⟩ = some (.func (.func 102) #[] #[.pointer (some ⟨w.heap.size + 1 + 1, 0, none⟩)]) := by simp [World.cell?, k2]
  have hcall := tree_any m.tree A c (w.heap.size + 1 + 1) Ws ((hM.tree.kept hC (by simp)).weak (by simp)) hF.tree htb
  have HM := Lib.hid (And.intro hM hF)
  have HK := Lib.hid (And.intro hcall (And.intro k0 (And.intro k1 (And.intro k2 (And.intro hC hz)))))
  clear hM hF hcall k0 k1 k2 hC hz htb
  have HW := Lib.hid hWs
  clear hWs
  go_enter Try.func79, Try.ntmps79
  go_wp2_with fail
  rw [← HW.out]
  refine HK.out.1.mono ?_
  rintro e X ⟨A1, c1, rfl, hV, hX⟩
  have x0 := hX.at HK.out.2.1 (by simp)
  obtain ⟨y11, y12, y13, y14, y15⟩ := blk16 x0
  have f12 := blkF x0 12
  have f13 := blkF x0 13
  have f14 := blkF x0 14
  have f15 := blkF x0 15
  have HX := Lib.hid (And.intro hV (And.intro hX x0))
  clear hV hX x0 HW
  go_wp2_with fail
  obtain ⟨Y, hY⟩ : ∃ Y, Y = (((X.setCell ⟨w.heap.size, 12, none⟩ (.int .i64 m.tree.id)).setCell ⟨w.heap.size, 13, none⟩ (.int .i64 m.tree.kind)).setCell ⟨w.heap.size, 14, none⟩ (.string m.tree.text)).setCell ⟨w.heap.size, 15, none⟩ (.slice A1 m.tree.kids.length c1) := ⟨_, rfl⟩
  rw [← hY]
  have hY0 : Y.heap[w.heap.size]? = some (.cells #[.int .i8 (Msg.kind m), .int .i64 (Msg.frm m), .int .i64 (Msg.to m), .int .i64 (Msg.boot m), .int .i64 (Msg.server m), .int .i64 (Msg.number m), .int .i64 (Msg.node m), .int .i64 (Msg.lease m), .int .i64 (Msg.epoch m), .int .i64 (Msg.version m), .int .i64 (Msg.e m), .slice B (Msg.steps m).length d, .int .i64 (Msg.tree m).id, .int .i64 (Msg.tree m).kind, .string (Msg.tree m).text, .slice A1 (Msg.tree m).kids.length c1] 39 (0, 0)) := by rw [hY]; exact set12 HX.out.2.2
  have hXY : Chg [w.heap.size] X Y := by rw [hY]; exact chg12 _ _ _ _ _ _
  have hsY : Y.heap.size = X.heap.size := by rw [hY]; simp
  have hwY : Chg [] w Y := (HK.out.2.2.2.2.1.trans HX.out.2.1).andThen hXY (fun i hi => .inr (by simp at hi; omega))
  have hcl := clone_any (fun g => g < w.heap.size) m.steps B d Y (HM.out.1.steps.kept hwY (by simp)) HM.out.1.nil HM.out.2.steps
  have HY := Lib.hid (And.intro hcl (And.intro hY0 (And.intro hXY (And.intro hsY hwY))))
  clear hY hY0 hXY hsY hwY hcl y11 y12 y13 y14 y15 f12 f13 f14 f15
  refine HY.out.1.mono ?_
  rintro e Z ⟨v, css, rfl, hR, hcl, hcs, hZ⟩
  have z0 := hZ.at HY.out.2.1 (by simp)
  obtain ⟨y11, y12, y13, y14, y15⟩ := blk16 z0
  have f11 := blkF z0 11
  obtain ⟨Av, cv, rfl⟩ : ∃ Av cv, v = .slice Av m.steps.length cv := by
    obtain ⟨Av, cv, e⟩ := hR.slice
    exact ⟨Av, cv, by rw [← hcl]; exact e⟩
  have HZ := Lib.hid (And.intro hR (And.intro hcl (And.intro hcs (And.intro hZ z0))))
  clear hR hcl hcs hZ z0 y12 y13 y14 y15
  go_wp2_with fail
  refine wp_world (fun W => Cpy w W m A1 c1 0 (.slice Av m.steps.length cv) css) ?start ?_
  case start =>
    have hXZ := HY.out.2.2.1.trans (HZ.out.2.2.2.1.mono (by simp))
    have hS : Chg [w.heap.size] Z (Z.setCell ⟨w.heap.size, 11, none⟩ (.slice Av m.steps.length cv)) := (Chg.refl _ _).setCell _ _ (by simp)
    have hXF := hXZ.trans hS
    have hs1 := HX.out.2.1.size
    have hs2 := HY.out.2.2.2.1
    have hs3 := HK.out.2.2.2.2.2
    have hb : ∀ b, (Value.slice Av m.steps.length cv).ownBlock = some b → w.heap.size + 3 ≤ b := fun b e => by have := (HZ.out.1.own b e).1; omega
    refine ⟨set11 HZ.out.2.2.2.2, hXF.at (HX.out.2.1.at HK.out.2.2.1 (by simp)) (by simp), hXF.at (HX.out.2.1.at HK.out.2.2.2.1 (by simp)) (by simp; omega), ((HK.out.2.2.2.2.1.trans HX.out.2.1).andThen hXF (fun i hi => .inr (by simp at hi; omega))), ?_, ?_, HZ.out.2.1, fun i s cs h1 h2 => ?_⟩
    · refine (HX.out.1.toC.kept hXF (fun g hg => by have := hg.1; simp; omega)).weak (fun g hg _ => ⟨by have := hg.1; omega, fun e => by have := (HZ.out.1.own g e).1; have := hg.2; omega⟩)
    · exact (HZ.out.1.kept hS (fun b e => by have := hb b e; simp; omega)).weak (by omega)
    · refine ((HZ.out.2.2.1 i s cs h1 h2).kept hS (fun g hg => by simp; omega)).weak (fun g hg _ => by simpa using hg)
  intro W hW
  have HQ := Lib.hid hW
  clear hW HX HY HZ HK y11 f11
  have hb1000 := HM.out.2.steps
  go_loopw [18] (fun i wr => ∃ (k : Nat) (css : List (List Value)), k ≤ m.steps.length ∧ i = .int .i64 k ∧ Hid (Cpy w wr m A1 c1 k (.slice Av m.steps.length cv) css)) (fun i _ => m.steps.length - (intOf i).toNat)
  case atStart => exact ⟨0, _, Nat.zero_le _, rfl, HQ.out⟩
  case round =>
    obtain ⟨k, css, hk, rfl, H⟩ := hrel
    clear HQ
    have y11 := (blk16 H.out.box).1
    have yfn : wr.cell? ⟨w.heap.size + 1 + 1, 0, none⟩ = some (.func (.func 102) #[] #[.pointer (some ⟨w.heap.size + 1 + 1, 0, none⟩)]) := by simp [World.cell?, H.out.fn]
    by_cases hlt : k < m.steps.length
    · obtain ⟨g, cg, C, hv, hbg, hg, hj1, hj2, hj3, hj4, hrg⟩ := H.out.row.block (by rw [H.out.len]; omega)
      clear hj1 hj2 hj3 hj4
      injection hv with hv1 hv2 hv3
      clear hv2
      subst hv1 hv3
      have hkc : k < css.length := by rw [H.out.len]; exact hlt
      obtain ⟨As, cs', hcs, hts, htx⟩ := H.out.has k _ _ (List.getElem?_eq_getElem hlt) (List.getElem?_eq_getElem hkc)
      have hr := hrg k hkc
      rw [hcs] at hr
      have hr5 : wr.rangeAt g (k * 9 + 5) [.int .i64 (Tr.id (m.steps[k]).sub), .int .i64 (Tr.kind (m.steps[k]).sub), .string (Tr.text (m.steps[k]).sub), .slice As (Tr.kids (m.steps[k]).sub).length cs'] := fun j u hu => by
        have := hr (5 + j) u (by rw [show (5 + j) = j + 5 from by omega]; exact hu)
        rwa [← Nat.add_assoc] at this
      have hsub : (m.steps[k]).sub.nodes ≤ 100000 := HM.out.2.subs _ (List.getElem_mem hlt)
      have hcall := tree_any (m.steps[k]).sub As cs' (w.heap.size + 1 + 1) wr.drew ((hts.kept (Chg.drew (Chg.refl [] wr)) (by simp)).weak (by simp)) hsub yfn
      have HC := Lib.hid (And.intro hcall (And.intro hr5 (And.intro hr (And.intro hcs (And.intro hts (And.intro htx (And.intro hbg (And.intro hg hrg))))))))
      clear hcall hr5 hr hcs hts htx hbg hg hrg hsub
      go_wp2_with fail
      refine wp_region_M (fun W => W.cell? ⟨w.heap.size, 11, none⟩ = some (.slice (some ⟨g, 0, none⟩) m.steps.length cv)) (fun k => [10, 13].contains k) (fun k => [13].contains k) (by kernel_rfl) ?_
      ((try dsimp only); (try simp only [Act.put, List.setIfInBounds_toArray, List.set_cons_zero, List.set_cons_succ]))
      refine M_pure (i := 0) (v := ?_) rfl (by kernel_rfl) (by kernel_rfl) (by kernel_rfl) (fun _ _ _ h => h) (by rfl) ?hy ?_; (case hy => (intro w; go_simp; with_reducible rfl)); ((try dsimp only); (try simp only [Act.put, List.setIfInBounds_toArray, List.set_cons_zero, List.set_cons_succ]))
      refine M_semi (i := 1) (v := ?_) rfl (by kernel_rfl) (by kernel_rfl) (by kernel_rfl) (by kernel_rfl) (fun _ _ _ h => h) (by rfl) y11 ?hy ?_; (case hy => (intro w hS; go_simp; with_reducible rfl)); ((try dsimp only); (try simp only [Act.put, List.setIfInBounds_toArray, List.set_cons_zero, List.set_cons_succ]))
      refine M_pure (i := 2) (v := ?_) rfl (by kernel_rfl) (by kernel_rfl) (by kernel_rfl) (fun _ _ _ h => h) (by rfl) ?hy ?_; (case hy => (intro w; go_simp; with_reducible rfl)); ((try dsimp only); (try simp only [Act.put, List.setIfInBounds_toArray, List.set_cons_zero, List.set_cons_succ]))
      refine M_take (i := 3) (v := ?_) rfl (by kernel_rfl) (by kernel_rfl) (by kernel_rfl) (by kernel_rfl) (fun _ _ _ h => h) (by rfl) ?hy ?_; (case hy => (go_simp; with_reducible rfl)); ((try dsimp only); (try simp only [Act.put, List.setIfInBounds_toArray, List.set_cons_zero, List.set_cons_succ]))
      refine M_pure (i := 4) (v := ?_) rfl (by kernel_rfl) (by kernel_rfl) (by kernel_rfl) (fun _ _ _ h => h) (by rfl) ?hy ?_; (case hy => (intro w; go_simp; with_reducible rfl)); ((try dsimp only); (try simp only [Act.put, List.setIfInBounds_toArray, List.set_cons_zero, List.set_cons_succ]))
      refine M_take (i := 5) (v := ?_) rfl (by kernel_rfl) (by kernel_rfl) (by kernel_rfl) (by kernel_rfl) (fun _ _ _ h => h) (by rfl) ?hy ?_; (case hy => (go_simp; with_reducible rfl)); ((try dsimp only); (try simp only [Act.put, List.setIfInBounds_toArray, List.set_cons_zero, List.set_cons_succ]))
      refine M_pure (i := 6) (v := ?_) rfl (by kernel_rfl) (by kernel_rfl) (by kernel_rfl) (fun _ _ _ h => h) (by rfl) ?hy ?_; (case hy => (intro w; go_simp; with_reducible rfl)); ((try dsimp only); (try simp only [Act.put, List.setIfInBounds_toArray, List.set_cons_zero, List.set_cons_succ]))
      refine M_pure (i := 7) (v := ?_) rfl (by kernel_rfl) (by kernel_rfl) (by kernel_rfl) (fun _ _ _ h => h) (by rfl) ?hy ?_; (case hy => (intro w; go_simp; with_reducible rfl)); ((try dsimp only); (try simp only [Act.put, List.setIfInBounds_toArray, List.set_cons_zero, List.set_cons_succ]))
      refine M_pure (i := 8) (v := ?_) rfl (by kernel_rfl) (by kernel_rfl) (by kernel_rfl) (fun _ _ _ h => h) (by rfl) ?hy ?_; (case hy => (intro w; go_simp; with_reducible rfl)); ((try dsimp only); (try simp only [Act.put, List.setIfInBounds_toArray, List.set_cons_zero, List.set_cons_succ]))
      refine M_take (i := 9) rfl (by kernel_rfl) (by kernel_rfl) (by kernel_rfl) (by kernel_rfl) (fun _ _ _ h => h) (by rfl) (exec_load_mid 37 (.tmp 29) rfl g (k * 9 + 5) rfl _ _ (w := wr.drew) HC.out.2.1 Try.underlying37 rfl szNode) ?_; ((try dsimp only); (try simp only [Act.put, List.setIfInBounds_toArray, List.set_cons_zero, List.set_cons_succ]))
      refine M_eff (i := 10) rfl (by kernel_rfl) (by rfl) ?_
      go_wp2_with (go_at_call 102; refine HC.out.1.mono ?_; rintro e X ⟨A2, c2, rfl, hV, hX⟩; have q11 := hX.cell (show wr.drew.cell? ⟨w.heap.size, 11, none⟩ = _ from y11) (by simp); have hgX := hX.at (show wr.drew.heap[g]? = _ from HC.out.2.2.2.2.2.2.2.1) (by simp); have HX := Lib.hid (And.intro hV (And.intro hX hgX)); clear hV hX hgX)
      refine ⟨q11, ?_⟩
      ((try dsimp only); (try simp only [Act.put, List.setIfInBounds_toArray, List.set_cons_zero, List.set_cons_succ]))
      refine M_pure (i := 11) (v := ?_) rfl (by kernel_rfl) (by kernel_rfl) (by kernel_rfl) (fun _ _ _ h => h) (by rfl) ?hy ?_; (case hy => (intro w; go_simp; with_reducible rfl)); ((try dsimp only); (try simp only [Act.put, List.setIfInBounds_toArray, List.set_cons_zero, List.set_cons_succ]))
      refine M_pure (i := 12) (v := ?_) rfl (by kernel_rfl) (by kernel_rfl) (by kernel_rfl) (fun _ _ _ h => h) (by rfl) ?hy ?_; (case hy => (intro w; go_simp; with_reducible rfl)); ((try dsimp only); (try simp only [Act.put, List.setIfInBounds_toArray, List.set_cons_zero, List.set_cons_succ]))
      refine M_brk (i := 13) rfl (by kernel_rfl) (by rfl) (by rfl) ?_
      have hX0 := (Chg.drew (Chg.refl [] wr)).trans HX.out.2.1
      have hrX := hX0.range HC.out.2.2.1 (by simp)
      have q5 : X.cell? ⟨g, k * 9 + 5, none⟩ = some (.int .i64 (m.steps[k]).sub.id) := hrX 5 _ rfl
      have q6 : X.cell? ⟨g, k * 9 + 5 + 1, none⟩ = some (.int .i64 (m.steps[k]).sub.kind) := hrX 6 _ rfl
      have q7 : X.cell? ⟨g, k * 9 + 5 + 2, none⟩ = some (.string (m.steps[k]).sub.text) := hrX 7 _ rfl
      have q8 : X.cell? ⟨g, k * 9 + 5 + 3, none⟩ = some (.slice As (m.steps[k]).sub.kids.length cs') := hrX 8 _ rfl
      have f5 := blkF HX.out.2.2 (k * 9 + 5)
      have f6 := blkF HX.out.2.2 (k * 9 + 5 + 1)
      have f7 := blkF HX.out.2.2 (k * 9 + 5 + 2)
      have f8 := blkF HX.out.2.2 (k * 9 + 5 + 3)
      clear hrX
      go_wp2_with fail
      refine M_done (by kernel_rfl) ?_ _
      go_wp2_with fail
      go_roundw
      case rel =>
        have hbg := HC.out.2.2.2.2.2.2.1
        have hlf := lt_of_block H.out.fn
        have hCs := chgSub X g (k * 9 + 5) (.int .i64 (m.steps[k]).sub.id) (.int .i64 (m.steps[k]).sub.kind) (.string (m.steps[k]).sub.text) (.slice A2 (m.steps[k]).sub.kids.length c2)
        have hCF := (hX0.mono (l' := [g]) (by simp)).trans hCs
        refine ⟨k + 1, css.set k (((((css[k]).set 5 (.int .i64 (m.steps[k]).sub.id)).set 6 (.int .i64 (m.steps[k]).sub.kind)).set 7 (.string (m.steps[k]).sub.text)).set 8 (.slice A2 (m.steps[k]).sub.kids.length c2)), by omega, by go_num, ?_, ?_, ?_, ?_, ?_, ?_, ?_, ?_⟩
        · exact hCF.at H.out.box (by simp; omega)
        · exact hCF.at H.out.res (by simp; omega)
        · exact hCF.at H.out.fn (by simp; omega)
        · exact H.out.chg.andThen hCF (fun i hi => .inr (by simp at hi; omega))
        · exact H.out.tree.kept hCF (fun x hx => by have := hx.2; simp [Value.ownBlock] at this ⊢; exact fun e => this e.symm)
        · exact setSub (H.out.row.kept hX0 (by simp)) H.out.len hkc _ _ _ _
        · simp [H.out.len]
        · intro i s cs h1 h2
          by_cases hik : i = k
          · subst hik
            rw [List.getElem?_eq_getElem hlt] at h1
            rw [List.getElem?_set_self hkc] at h2
            injection h1 with h1
            injection h2 with h2
            subst h1 h2
            refine ⟨A2, c2, by rw [HC.out.2.2.2.1]; rfl, ?_, HC.out.2.2.2.2.2.1⟩
            refine (HX.out.1.toC.kept hCs (fun x hx => ?_)).weak (fun x hx _ => ?_)
            · have h3 := hx.1
              have h4 := lt_of_block HC.out.2.2.2.2.2.2.2.1
              simp at h3 ⊢; omega
            · have h3 := hx.1
              have h4 := lt_of_block HC.out.2.2.2.2.2.2.2.1
              simp [Value.ownBlock] at h3 ⊢; omega
          · rw [List.getElem?_set_ne (fun e => hik e.symm)] at h2
            refine ((H.out.has i s cs h1 h2).kept hCF (fun x hx => ?_)).weak (fun x hx _ => ?_)
            · split at hx
              · have := hx.2; simp [Value.ownBlock] at this ⊢; exact fun e => this e.symm
              · simp; omega
            · split at hx
              · rw [if_pos (by omega)]; exact hx
              · rw [if_neg (by omega)]; exact hx
      case measure => simp [intOf]; omega
    · obtain rfl : k = m.steps.length := by omega
      have hsr : (Try.prog.info? 39).map (·.size) = some 16 := infoMsg
      have h1c : (#[.int .i8 (Msg.kind m), .int .i64 (Msg.frm m), .int .i64 (Msg.to m), .int .i64 (Msg.boot m), .int .i64 (Msg.server m), .int .i64 (Msg.number m), .int .i64 (Msg.node m), .int .i64 (Msg.lease m), .int .i64 (Msg.epoch m), .int .i64 (Msg.version m), .int .i64 (Msg.e m), (.slice Av m.steps.length cv), .int .i64 (Msg.tree m).id, .int .i64 (Msg.tree m).kind, .string (Msg.tree m).text, .slice A1 (Msg.tree m).kids.length c1] : Array Value).all (·.oneCell') = true := by simp [Value.oneCell']
      have HR := Lib.hid (And.intro hsr h1c)
      clear hsr h1c
      clear y11 yfn
      go_wp2_with (first
        | (refine wpList_load_mid rfl 39 (.tmp 1) rfl w.heap.size 0 rfl (#[.int .i8 (Msg.kind m), .int .i64 (Msg.frm m), .int .i64 (Msg.to m), .int .i64 (Msg.boot m), .int .i64 (Msg.server m), .int .i64 (Msg.number m), .int .i64 (Msg.node m), .int .i64 (Msg.lease m), .int .i64 (Msg.epoch m), .int .i64 (Msg.version m), .int .i64 (Msg.e m), (.slice Av m.steps.length cv), .int .i64 (Msg.tree m).id, .int .i64 (Msg.tree m).kind, .string (Msg.tree m).text, .slice A1 (Msg.tree m).kids.length c1] : Array Value).toList _ (range_all H.out.box) Try.underlying39 rfl HR.out.1 ?_)
        | (refine wpList_store_row rfl 39 (.tmp 2) (.tmp 35) rfl (w.heap.size + 1) rfl #[.int .i8 (Msg.kind m), .int .i64 (Msg.frm m), .int .i64 (Msg.to m), .int .i64 (Msg.boot m), .int .i64 (Msg.server m), .int .i64 (Msg.number m), .int .i64 (Msg.node m), .int .i64 (Msg.lease m), .int .i64 (Msg.epoch m), .int .i64 (Msg.version m), .int .i64 (Msg.e m), (.slice Av m.steps.length cv), .int .i64 (Msg.tree m).id, .int .i64 (Msg.tree m).kind, .string (Msg.tree m).text, .slice A1 (Msg.tree m).kids.length c1] rfl _ _ H.out.res HR.out.1 rfl HR.out.2 ?_)
        | fail)
      have hC1 := setRow_chg wr (w.heap.size + 1) #[.int .i8 (Msg.kind m), .int .i64 (Msg.frm m), .int .i64 (Msg.to m), .int .i64 (Msg.boot m), .int .i64 (Msg.server m), .int .i64 (Msg.number m), .int .i64 (Msg.node m), .int .i64 (Msg.lease m), .int .i64 (Msg.epoch m), .int .i64 (Msg.version m), .int .i64 (Msg.e m), (.slice Av m.steps.length cv), .int .i64 (Msg.tree m).id, .int .i64 (Msg.tree m).kind, .string (Msg.tree m).text, .slice A1 (Msg.tree m).kids.length c1]
      have hsz : (wr.setRow (w.heap.size + 1) #[.int .i8 (Msg.kind m), .int .i64 (Msg.frm m), .int .i64 (Msg.to m), .int .i64 (Msg.boot m), .int .i64 (Msg.server m), .int .i64 (Msg.number m), .int .i64 (Msg.node m), .int .i64 (Msg.lease m), .int .i64 (Msg.epoch m), .int .i64 (Msg.version m), .int .i64 (Msg.e m), (.slice Av m.steps.length cv), .int .i64 (Msg.tree m).id, .int .i64 (Msg.tree m).kind, .string (Msg.tree m).text, .slice A1 (Msg.tree m).kids.length c1]).heap.size = wr.heap.size := by simp
      have hlf := lt_of_block H.out.fn
      have hwf := H.out.chg.andThen hC1 (fun i hi => .inr (by simp at hi; omega))
      refine bodyPost_ret (v := .agg #[.int .i8 (Msg.kind m), .int .i64 (Msg.frm m), .int .i64 (Msg.to m), .int .i64 (Msg.boot m), .int .i64 (Msg.server m), .int .i64 (Msg.number m), .int .i64 (Msg.node m), .int .i64 (Msg.lease m), .int .i64 (Msg.epoch m), .int .i64 (Msg.version m), .int .i64 (Msg.e m), .slice Av (Msg.steps m).length cv, .int .i64 (Msg.tree m).id, .int .i64 (Msg.tree m).kind, .string (Msg.tree m).text, .slice A1 (Msg.tree m).kids.length c1]) (results_cell_row rfl _ _ (w.heap.size + 1) _ _ _ _ rfl (setRow_heap _ _ _ _ _ _ H.out.res) Try.underlying39 rfl HR.out.1) rfl ⟨A1, c1, Av, cv, rfl, ⟨?_, ?_, ?_, ?_, ?_⟩, hwf⟩
      · exact (H.out.tree.kept hC1 (fun x hx => by have := hx.1; simp; omega)).weak (fun x hx hlt => ⟨by have := hx.1; omega, hlt⟩)
      · by_cases h0 : m.steps = []
        · exact .inl h0
        · have hp : 0 < m.steps.length := List.length_pos_iff.2 h0
          have hrow := H.out.row.kept hC1 (fun b hb => by have := (H.out.row.own b hb).1; simp; omega)
          obtain ⟨g, cg, C, hv, hbg, hg, hj1, hj2, hj3, hj4, hrg⟩ := hrow.block (by rw [H.out.len]; omega)
          injection hv with hv1 hv2 hv3
          have hglt := lt_of_block hg
          refine .inr ⟨g, 0, css, hv1, ⟨by omega, hglt⟩, H.out.len, fun j u hu => ?_, fun i s cs h1 h2 => ?_⟩
          · rw [← hj4, List.getElem?_take] at hu
            split at hu
            · simp only [World.cell?, hg]; simpa using hu
            · cases hu
          · have hi := (List.getElem?_eq_some_iff.1 h1).1
            refine ((H.out.has i s cs h1 h2).kept hC1 (fun x hx => ?_)).weak (fun x hx hlt => ?_)
            · rw [if_pos hi] at hx; have := hx.1; simp; omega
            · rw [if_pos hi] at hx; exact ⟨by have := hx.1; omega, hlt⟩
      · rcases H.out.row.row.2 with ⟨e, h0⟩ | ⟨g, cap, cur, e, _, _, h3, h4, _⟩
        · injection e with e1 e2 e3; omega
        · injection e with e1 e2 e3; have := H.out.len; omega
      · rcases H.out.row.row.2 with ⟨e, h0⟩ | ⟨g, cap, cur, e, _, _, h3, h4, _⟩
        · injection e with e1 e2 e3; omega
        · injection e with e1 e2 e3; unfold maxLen at h4; omega
      · intro hn
        rcases H.out.row.row.2 with ⟨e, h0⟩ | ⟨g, cap, cur, e, _, _, h3, h4, _⟩
        · injection e with e1 e2 e3
        · injection e with e1 e2 e3; rw [e1] at hn; cases hn
end Go.Proofs.Ytipijkpjmpejlaa
