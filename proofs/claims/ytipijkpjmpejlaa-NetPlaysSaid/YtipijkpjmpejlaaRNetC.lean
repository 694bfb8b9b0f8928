import Derived.Test.YtipijkpjmpejlaaRNetB
/- The contract of the reference's Take. -/
set_option linter.unusedVariables false
set_option linter.unusedSimpArgs false
namespace Go.Proofs.Ytipijkpjmpejlaa
open Go.RowKit
theorem erase_next {α : Type} (l : List α) (i k : Nat) (hk : k < l.length) : (l.take (k + 1)).eraseIdx i = (l.take k).eraseIdx i ++ (if k = i then [] else [l[k]]) := by
  rw [List.take_succ_eq_append_getElem hk]
  have hl : (l.take k).length = k := by rw [List.length_take]; omega
  rcases Nat.lt_trichotomy k i with h | h | h
  · rw [List.eraseIdx_of_length_le (by simp; omega), List.eraseIdx_of_length_le (by omega), if_neg (by omega)]
  · subst h
    rw [if_pos rfl, List.append_nil, List.eraseIdx_append_of_length_le (by omega), hl, Nat.sub_self, List.eraseIdx_of_length_le (l := l.take k) (by omega)]
    simp
  · rw [List.eraseIdx_append_of_lt_length (by omega), if_neg (by omega)]
/-- Taking under way: k of them are seen. -/
structure Tk (Z0 wr : World) (l : List (Msg × Bool)) (css : List (List Value)) (i k : Nat) (v9 v10 : Value) : Prop where
  chg : Chg [] Z0 wr
  rowL : RowR wr 16 39 Z0.heap.size v9 ((css.take k).eraseIdx i)
  rowH : wr.ownsRow Z0.heap.size 4 1 v10 ((bools l).take k |>.eraseIdx i).length ((bools l).take k |>.eraseIdx i)
  apart : ∀ b, v9.ownBlock = some b → v10.ownBlock ≠ some b
theorem Tk.skip {Z0 wr : World} {l : List (Msg × Bool)} {css : List (List Value)} {i : Nat} {v9 v10 : Value} (h : Tk Z0 wr l css i i v9 v10) (hl : css.length = l.length) (hi : i < l.length) : Tk Z0 wr l css i (i + 1) v9 v10 := by
  have h1 := erase_next css i i (by omega)
  have h2 := erase_next (bools l) i i (by simpa [bools] using hi)
  rw [if_pos rfl, List.append_nil] at h1 h2
  exact ⟨h.chg, by rw [h1]; exact h.rowL, by rw [h2]; exact h.rowH, h.apart⟩
theorem Tk.push {Z0 wr Z Z2 : World} {l : List (Msg × Bool)} {css : List (List Value)} {i k : Nat} {v9 v10 v9' v10' : Value} {x : Msg × Bool} {o o2 : Obj} (h : Tk Z0 wr l css i k v9 v10) (hl : css.length = l.length) (hk : k < css.length) (hx : l[k]? = some x) (hne : k ≠ i) (h16 : css[k].length = 16)
    (hown : Z.ownsRow Z0.heap.size 39 16 v9' (((css.take k).eraseIdx i).length + 1) (((css.take k).eraseIdx i).flatten ++ css[k])) (hgr : (wr.alloc o).grownBy Z v9.ownBlock) (hat : v9'.ownBlock = v9.ownBlock ∨ v9'.ownBlock = some (wr.alloc o).heap.size)
    (hown2 : Z2.ownsRow Z0.heap.size 4 1 v10' (((bools l).take k |>.eraseIdx i).length + 1) (((bools l).take k |>.eraseIdx i) ++ [.bool x.2])) (hgr2 : (Z.alloc o2).grownBy Z2 v10.ownBlock) (hat2 : v10'.ownBlock = v10.ownBlock ∨ v10'.ownBlock = some (Z.alloc o2).heap.size) : Tk Z0 Z2 l css i (k + 1) v9' v10' := by
  have e1 := erase_next css i k hk
  have hbk : k < (bools l).length := by simp [bools]; omega
  have e2 := erase_next (bools l) i k hbk
  rw [if_neg hne] at e1 e2
  have hbx : (bools l)[k] = .bool x.2 := by
    have : (bools l)[k]? = some (.bool x.2) := by rw [bools, List.getElem?_map, hx]; rfl
    rw [List.getElem?_eq_getElem hbk] at this
    exact Option.some.inj this
  rw [hbx] at e2
  have c1 : Chg v9.ownBlock.toList wr Z := Chg.grown ((Chg.refl _ _).alloc o) hgr (by intro k hk; rw [hk]; simp)
  have c2 : Chg v10.ownBlock.toList Z Z2 := Chg.grown ((Chg.refl _ _).alloc o2) hgr2 (by intro k hk; rw [hk]; simp)
  have h9 : ∀ b, v9.ownBlock = some b → Z0.heap.size ≤ b ∧ b < wr.heap.size := h.rowL.own
  have h10 : ∀ b, v10.ownBlock = some b → Z0.heap.size ≤ b ∧ b < wr.heap.size := World.ownsRow.lt h.rowH
  have hs1 := c1.size
  simp at hat hat2
  have h9' : ∀ b, v9'.ownBlock = some b → v9.ownBlock = some b ∨ wr.heap.size + 1 = b := fun b hb => by
    rcases hat with e | e
    · exact .inl (e ▸ hb)
    · rw [e] at hb; injection hb with hb; exact .inr hb
  have h10' : ∀ b, v10'.ownBlock = some b → v10.ownBlock = some b ∨ Z.heap.size + 1 = b := fun b hb => by
    rcases hat2 with e | e
    · exact .inl (e ▸ hb)
    · rw [e] at hb; injection hb with hb; exact .inr hb
  refine ⟨(h.chg.andThen c1 (fun b hb => .inr (h9 b (by simpa using hb)).1)).andThen c2 (fun b hb => .inr (h10 b (by simpa using hb)).1), ?_, ?_, ?_⟩
  · rw [e1]
    refine (h.rowL.push (w' := Z) (v' := v9') (cs := css[k]) hown h16).kept c2 (fun b hb hm => ?_)
    rcases h9' b hb with e | e
    · exact h.apart b e (by simpa using hm)
    · have := h10 b (by simpa using hm); omega
  · rw [e2]
    simpa using hown2
  · intro b hb e
    have hz := (World.ownsRow.lt hown b hb).2
    rcases h10' b e with e3 | e3
    · rcases h9' b hb with e4 | e4
      · exact h.apart b e4 e3
      · have := h10 b e3; omega
    · omega
theorem bools_erase (l : List (Msg × Bool)) (i : Nat) : (bools l).eraseIdx i = bools (l.eraseIdx i) := by
  unfold bools
  rw [List.eraseIdx_eq_take_drop_succ, List.eraseIdx_eq_take_drop_succ, List.map_append, List.map_take, List.map_drop]
/-- The net behind a Take. -/
theorem rnet_erase {w Z0 wr : World} {r i : Nat} {l : List (Msg × Bool)} {M : Nat → Prop} {vL vH v9 v10 : Value} {css : List (List Value)} (HN : RNetW w r l M vL vH css) (h0 : Chg [] w Z0) (h : Tk Z0 wr l css i l.length v9 v10) (hi : i < l.length) :
    RNetPost r (l.eraseIdx i) M w ((wr.setCell ⟨r, 0, none⟩ v9).setCell ⟨r, 1, none⟩ v10) := by
  have hrw := HN.low r HN.foot
  have hZ0 := h0.size
  have hcw : Chg [] w wr := h0.trans h.chg
  have hS : Chg [r] wr ((wr.setCell ⟨r, 0, none⟩ v9).setCell ⟨r, 1, none⟩ v10) := ((Chg.refl _ _).setCell _ _ (by simp)).setCell _ _ (by simp)
  have hC : Chg (r :: (vL.ownBlock.toList ++ vH.ownBlock.toList)) w ((wr.setCell ⟨r, 0, none⟩ v9).setCell ⟨r, 1, none⟩ v10) := (hcw.mono (by simp)).trans (hS.mono (by simp))
  have h9 : ∀ b, v9.ownBlock = some b → Z0.heap.size ≤ b := fun b hb => (h.rowL.own b hb).1
  have h10 : ∀ b, v10.ownBlock = some b → Z0.heap.size ≤ b := fun b hb => (World.ownsRow.lt h.rowH b hb).1
  have e1 : (css.take l.length).eraseIdx i = css.eraseIdx i := by rw [List.take_of_length_le (by rw [HN.len]; omega)]
  have e2 : ((bools l).take l.length).eraseIdx i = bools (l.eraseIdx i) := by rw [List.take_of_length_le (by simp [bools]), bools_erase]
  have hrow := h.rowL
  have hrowH := h.rowH
  rw [e1] at hrow
  rw [e2] at hrowH
  refine HN.post (vL' := v9) (vH' := v10) hC ?_ ((hrow.weak (Nat.zero_le _)).kept hS (fun b hb hm => ?_)) ?_ ?_ ?_ (fun b hb => ⟨.inr (by have := h9 b hb; omega), by have := h9 b hb; omega⟩) (fun b hb => ⟨.inr (by have := h10 b hb; omega), by have := h10 b hb; omega, fun e => h.apart b e hb⟩) (fun x hx => HN.fit x (List.mem_of_mem_eraseIdx hx)) ?_
  · exact heap_setCell_same _ _ 1 _ _ _ (heap_setCell_same _ _ 0 _ _ _ (hcw.at HN.box (by simp)))
  · have := h9 b hb
    simp at hm; omega
  · rw [List.length_eraseIdx, List.length_eraseIdx, HN.len]
  · intro j x cs h1 h2
    rw [List.getElem?_eraseIdx] at h1 h2
    have key : ∀ q, l[q]? = some x → css[q]? = some cs → ∃ ok, MsgI ok ((wr.setCell ⟨r, 0, none⟩ v9).setCell ⟨r, 1, none⟩ v10) x.1 cs ∧ ∀ b, ok b → (M b ∨ w.heap.size ≤ b) ∧ b ≠ r ∧ v9.ownBlock ≠ some b ∧ v10.ownBlock ≠ some b := fun q a1 a2 =>
      ⟨_, HN.item hC a1 a2, fun b hb => ⟨.inl hb.1, hb.2.1, fun e => by have := h9 b e; omega, fun e => by have := h10 b e; omega⟩⟩
    split at h1
    · rename_i hj
      rw [if_pos hj] at h2
      exact key _ h1 h2
    · rename_i hj
      rw [if_neg hj] at h2
      exact key _ h1 h2
  · have := own_kept hrowH hS (fun b hb hm => by
      have := h10 b hb
      simp at hm; omega)
    rw [show (bools (l.eraseIdx i)).length = (l.eraseIdx i).length from by simp [bools]] at this
    refine ⟨this.1, ?_⟩
    rcases this.2 with h0 | ⟨g, c, C, a1, a2, a3⟩
    · exact .inl h0
    · exact .inr ⟨g, c, C, a1, Nat.zero_le _, a3⟩
  · have := HN.most
    rw [List.length_eraseIdx]
    split <;> omega
end Go.Proofs.Ytipijkpjmpejlaa
