import Derived.Test.YtipijkpjmpejlaaRCopy
/- The reference's net in memory; the contract of its Send. -/
set_option linter.unusedVariables false
set_option linter.unusedSimpArgs false
namespace Go.Proofs.Ytipijkpjmpejlaa
open Go.RowKit
def MsgI (ok : Nat → Prop) (w : World) (m : Msg) (cs : List Value) : Prop := ∃ A c B d, cs = (#[.int .i8 (Msg.kind m), .int .i64 (Msg.frm m), .int .i64 (Msg.to m), .int .i64 (Msg.boot m), .int .i64 (Msg.server m), .int .i64 (Msg.number m), .int .i64 (Msg.node m), .int .i64 (Msg.lease m), .int .i64 (Msg.epoch m), .int .i64 (Msg.version m), .int .i64 (Msg.e m), .slice B (Msg.steps m).length d, .int .i64 (Msg.tree m).id, .int .i64 (Msg.tree m).kind, .string (Msg.tree m).text, .slice A (Msg.tree m).kids.length c] : Array Value).toList ∧ MsgC ok w m A c B d
theorem MsgI.len {ok : Nat → Prop} {w : World} {m : Msg} {cs : List Value} (h : MsgI ok w m cs) : cs.length = 16 := by obtain ⟨A, c, B, d, rfl, _⟩ := h; rfl
theorem MsgI.one {ok : Nat → Prop} {w : World} {m : Msg} {cs : List Value} (h : MsgI ok w m cs) : ∀ u ∈ cs, u.oneCell' = true := by obtain ⟨A, c, B, d, rfl, _⟩ := h; simp [Value.oneCell']
theorem MsgI.kept {ok : Nat → Prop} {w w' : World} {m : Msg} {cs : List Value} {l : List Nat} (h : MsgI ok w m cs) (hc : Chg l w w') (hl : ∀ g, ok g → g ∉ l) : MsgI ok w' m cs := by
  obtain ⟨A, c, B, d, e, h⟩ := h; exact ⟨A, c, B, d, e, h.kept hc hl⟩
theorem MsgI.weak {ok ok' : Nat → Prop} {w : World} {m : Msg} {cs : List Value} (h : MsgI ok w m cs) (hl : ∀ g, ok g → g < w.heap.size → ok' g) : MsgI ok' w m cs := by
  obtain ⟨A, c, B, d, e, h⟩ := h; exact ⟨A, c, B, d, e, h.weak hl⟩
theorem infoMsgF : (Try.prog.info? 39).map (fun i => (i.zero, i.size, i.bytes)) = some (some (.agg #[.int .i8 0, .int .i64 0, .int .i64 0, .int .i64 0, .int .i64 0, .int .i64 0, .int .i64 0, .int .i64 0, .int .i64 0, .int .i64 0, .int .i64 0, .slice none 0 0, .int .i64 0, .int .i64 0, .string ⟨#[]⟩, .slice none 0 0]), 16, 168) := by kernel_rfl
theorem infoBool : (Try.prog.info? 4).map (fun i => (i.zero, i.size, i.bytes)) = some (some (.bool false), 1, 1) := by kernel_rfl
def bools (l : List (Msg × Bool)) : List Value := l.map fun x => .bool x.2
/-- The reference's net at block r, in blocks of M. -/
structure RNetW (w : World) (r : Nat) (l : List (Msg × Bool)) (M : Nat → Prop) (vL vH : Value) (css : List (List Value)) : Prop where
  box : w.heap[r]? = some (.cells #[vL, vH] 84 (0, 0))
  row : RowR w 16 39 0 vL css
  len : css.length = l.length
  has : ∀ (i : Nat) x cs, l[i]? = some x → css[i]? = some cs → MsgI (fun b => M b ∧ b ≠ r ∧ vL.ownBlock ≠ some b ∧ vH.ownBlock ≠ some b) w x.1 cs
  held : w.ownsRow 0 4 1 vH l.length (bools l)
  foot : M r
  ownL : ∀ b, vL.ownBlock = some b → M b ∧ b ≠ r
  ownH : ∀ b, vH.ownBlock = some b → M b ∧ b ≠ r ∧ vL.ownBlock ≠ some b
  fit : ∀ x ∈ l, x.1.Fit
  most : l.length ≤ 1024
  low : ∀ b, M b → b < w.heap.size
def RNetV (w : World) (r : Nat) (l : List (Msg × Bool)) (M : Nat → Prop) : Prop := ∃ vL vH css, RNetW w r l M vL vH css
theorem RNetW.kept {w w' : World} {r : Nat} {l : List (Msg × Bool)} {M : Nat → Prop} {vL vH : Value} {css : List (List Value)} {k : List Nat} (h : RNetW w r l M vL vH css) (hc : Chg k w w') (hk : ∀ b, M b → b ∉ k) : RNetW w' r l M vL vH css :=
  ⟨hc.at h.box (hk r h.foot), h.row.kept hc (fun b hb => hk b (h.ownL b hb).1), h.len, fun i x cs a b => (h.has i x cs a b).kept hc (fun b hb => hk b hb.1), own_kept h.held hc (fun b hb => hk b (h.ownH b hb).1), h.foot, h.ownL, h.ownH, h.fit, h.most, fun b hb => Nat.lt_of_lt_of_le (h.low b hb) hc.size⟩
theorem RNetV.kept {w w' : World} {r : Nat} {l : List (Msg × Bool)} {M : Nat → Prop} {k : List Nat} (h : RNetV w r l M) (hc : Chg k w w') (hk : ∀ b, M b → b ∉ k) : RNetV w' r l M := by
  obtain ⟨vL, vH, css, h⟩ := h; exact ⟨vL, vH, css, h.kept hc hk⟩
theorem RNetW.sliceL {w : World} {r : Nat} {l : List (Msg × Bool)} {M : Nat → Prop} {vL vH : Value} {css : List (List Value)} (h : RNetW w r l M vL vH css) : ∃ A c, vL = .slice A l.length c := by
  obtain ⟨A, c, e⟩ := h.row.slice; exact ⟨A, c, by rw [← h.len]; exact e⟩
theorem RNetW.sliceH {w : World} {r : Nat} {l : List (Msg × Bool)} {M : Nat → Prop} {vL vH : Value} {css : List (List Value)} (h : RNetW w r l M vL vH css) : ∃ A c, vH = .slice A l.length c := own_slice h.held
/-- What an act leaves of the reference's net. -/
def RNetPost (r : Nat) (l : List (Msg × Bool)) (M : Nat → Prop) (w w' : World) : Prop := ∃ M' cl, RNetV w' r l M' ∧ (∀ b, M' b → M b ∨ w.heap.size ≤ b) ∧ Chg cl w w' ∧ ∀ b ∈ cl, M b
theorem RNetPost.same {w w' : World} {r : Nat} {l : List (Msg × Bool)} {M : Nat → Prop} (h : RNetV w r l M) (hc : Chg [] w w') : RNetPost r l M w w' := ⟨M, [], h.kept hc (by simp), fun b hb => .inl hb, hc, by simp⟩
theorem RNetPost.before {w w1 w' : World} {r : Nat} {l : List (Msg × Bool)} {M : Nat → Prop} (h : RNetPost r l M w1 w') (hc : Chg [] w w1) : RNetPost r l M w w' := by
  obtain ⟨M', cl, h1, h2, h3, h4⟩ := h
  exact ⟨M', cl, h1, fun b hb => (h2 b hb).imp id (fun h => Nat.le_trans hc.size h), (hc.mono (by simp)).trans h3, h4⟩
theorem RNetW.post {w W : World} {r : Nat} {l l' : List (Msg × Bool)} {M : Nat → Prop} {vL vH vL' vH' : Value} {css css' : List (List Value)} (HN : RNetW w r l M vL vH css) (hC : Chg (r :: (vL.ownBlock.toList ++ vH.ownBlock.toList)) w W)
    (hbox : W.heap[r]? = some (.cells #[vL', vH'] 84 (0, 0))) (hrow : RowR W 16 39 0 vL' css') (hlen : css'.length = l'.length)
    (has : ∀ (i : Nat) x cs, l'[i]? = some x → css'[i]? = some cs → ∃ ok, MsgI ok W x.1 cs ∧ ∀ b, ok b → (M b ∨ w.heap.size ≤ b) ∧ b ≠ r ∧ vL'.ownBlock ≠ some b ∧ vH'.ownBlock ≠ some b)
    (held : W.ownsRow 0 4 1 vH' l'.length (bools l')) (hL : ∀ b, vL'.ownBlock = some b → (M b ∨ w.heap.size ≤ b) ∧ b ≠ r) (hH : ∀ b, vH'.ownBlock = some b → (M b ∨ w.heap.size ≤ b) ∧ b ≠ r ∧ vL'.ownBlock ≠ some b)
    (hfit : ∀ x ∈ l', x.1.Fit) (hmost : l'.length ≤ 1024) : RNetPost r l' M w W := by
  refine ⟨fun b => b < W.heap.size ∧ (M b ∨ w.heap.size ≤ b), _, ⟨vL', vH', css', hbox, hrow, hlen, fun i x cs a b => ?_, held, ⟨lt_of_block hbox, .inl HN.foot⟩, fun b hb => ⟨⟨(hrow.own b hb).2, (hL b hb).1⟩, (hL b hb).2⟩, fun b hb => ⟨⟨(World.ownsRow.lt held b hb).2, (hH b hb).1⟩, (hH b hb).2⟩, hfit, hmost, fun b hb => hb.1⟩, fun b hb => hb.2, hC, fun b hb => ?_⟩
  · obtain ⟨ok, h1, h2⟩ := has i x cs a b
    exact h1.weak (fun g hg hlt => ⟨⟨hlt, (h2 g hg).1⟩, (h2 g hg).2⟩)
  · simp at hb
    rcases hb with rfl | hb | hb
    · exact HN.foot
    · exact (HN.ownL b hb).1
    · exact (HN.ownH b hb).1
/-- An item that was there is there. -/
theorem RNetW.item {w W : World} {r : Nat} {l : List (Msg × Bool)} {M : Nat → Prop} {vL vH : Value} {css : List (List Value)} (HN : RNetW w r l M vL vH css) (hC : Chg (r :: (vL.ownBlock.toList ++ vH.ownBlock.toList)) w W) {i : Nat} {x : Msg × Bool} {cs : List Value} (h1 : l[i]? = some x) (h2 : css[i]? = some cs) :
    MsgI (fun b => M b ∧ b ≠ r ∧ vL.ownBlock ≠ some b ∧ vH.ownBlock ≠ some b ∧ b < w.heap.size) W x.1 cs :=
  ((HN.has i x cs h1 h2).weak (fun b hb hlt => ⟨hb.1, hb.2.1, hb.2.2.1, hb.2.2.2, hlt⟩)).kept hC (fun b hb hm => by
    simp at hm
    rcases hm with rfl | hm | hm
    · exact hb.2.1 rfl
    · exact hb.2.2.1 hm
    · exact hb.2.2.2.1 hm)
theorem raddress_any (n : Int) (w : World) : Calls Try.prog 107 #[.int .i64 n] w fun e w' => e = .returned (.bool (inside n)) ∧ w = w' := by
  by_cases h1 : 0 ≤ n
  · by_cases h2 : n ≤ 8
    · rw [show inside n = true from by simp [inside]; omega]
      go_enter Try.func107, Try.ntmps107
      go_wp2
      go_ret
      exact ⟨rfl, rfl⟩
    · rw [show inside n = false from by simp [inside]; omega]
      go_enter Try.func107, Try.ntmps107
      go_wp2
      go_ret
      exact ⟨rfl, rfl⟩
  · rw [show inside n = false from by simp [inside]; omega]
    go_enter Try.func107, Try.ntmps107
    go_wp2
    go_ret
    exact ⟨rfl, rfl⟩
end Go.Proofs.Ytipijkpjmpejlaa
