import Derived.Test.YtipijkpjmpejlaaNetN
/- A net of messages in memory; the contracts of New, Len, there, Send. -/
set_option linter.unusedVariables false
set_option linter.unusedSimpArgs false
namespace Go.Proofs.Ytipijkpjmpejlaa
open Go.RowKit
/-- A message under way, in memory. -/
def ItemC (ok : Nat → Prop) (w : World) (x : Msg × Bool) (cs : List Value) : Prop := ∃ A c B d, cs = (#[.int .i8 (Msg.kind x.1), .int .i64 (Msg.frm x.1), .int .i64 (Msg.to x.1), .int .i64 (Msg.boot x.1), .int .i64 (Msg.server x.1), .int .i64 (Msg.number x.1), .int .i64 (Msg.node x.1), .int .i64 (Msg.lease x.1), .int .i64 (Msg.epoch x.1), .int .i64 (Msg.version x.1), .int .i64 (Msg.e x.1), .slice B (Msg.steps x.1).length d, .int .i64 (Msg.tree x.1).id, .int .i64 (Msg.tree x.1).kind, .string (Msg.tree x.1).text, .slice A (Msg.tree x.1).kids.length c, .bool x.2] : Array Value).toList ∧ MsgC ok w x.1 A c B d
theorem ItemC.len {ok : Nat → Prop} {w : World} {x : Msg × Bool} {cs : List Value} (h : ItemC ok w x cs) : cs.length = 17 := by obtain ⟨A, c, B, d, rfl, _⟩ := h; rfl
theorem ItemC.kept {ok : Nat → Prop} {w w' : World} {x : Msg × Bool} {cs : List Value} {l : List Nat} (h : ItemC ok w x cs) (hc : Chg l w w') (hl : ∀ g, ok g → g ∉ l) : ItemC ok w' x cs := by
  obtain ⟨A, c, B, d, e, h⟩ := h; exact ⟨A, c, B, d, e, h.kept hc hl⟩
theorem ItemC.weak {ok ok' : Nat → Prop} {w : World} {x : Msg × Bool} {cs : List Value} (h : ItemC ok w x cs) (hl : ∀ g, ok g → g < w.heap.size → ok' g) : ItemC ok' w x cs := by
  obtain ⟨A, c, B, d, e, h⟩ := h; exact ⟨A, c, B, d, e, h.weak hl⟩
theorem infoMK : (Try.prog.info? 139).map (fun i => (i.size, i.bytes)) = some (17, 176) := by kernel_rfl
theorem infoMKz : (Try.prog.info? 139).map (fun i => i.zero) = some (some (.agg #[.int .i8 0, .int .i64 0, .int .i64 0, .int .i64 0, .int .i64 0, .int .i64 0, .int .i64 0, .int .i64 0, .int .i64 0, .int .i64 0, .int .i64 0, .slice none 0 0, .int .i64 0, .int .i64 0, .string ⟨#[]⟩, .slice none 0 0, .bool false])) := by kernel_rfl
/-- A net at block g that has these messages, in blocks of N. -/
structure NetW (w : World) (g : Nat) (l : List (Msg × Bool)) (N : Nat → Prop) (v : Value) (css : List (List Value)) : Prop where
  box : w.heap[g]? = some (.cells #[v] 137 (0, 0))
  row : RowR w 17 139 0 v css
  len : css.length = l.length
  has : ∀ (i : Nat) x cs, l[i]? = some x → css[i]? = some cs → ItemC (fun b => N b ∧ b ≠ g ∧ v.ownBlock ≠ some b) w x cs
  foot : N g
  own : ∀ b, v.ownBlock = some b → N b ∧ b ≠ g
  fit : ∀ x ∈ l, x.1.Fit
  most : l.length ≤ 1024
  low : ∀ b, N b → b < w.heap.size
def NetV (w : World) (g : Nat) (l : List (Msg × Bool)) (N : Nat → Prop) : Prop := ∃ v css, NetW w g l N v css
theorem NetV.kept {w w' : World} {g : Nat} {l : List (Msg × Bool)} {N : Nat → Prop} {k : List Nat} (h : NetV w g l N) (hc : Chg k w w') (hk : ∀ b, N b → b ∉ k) : NetV w' g l N := by
  obtain ⟨v, css, h⟩ := h
  exact ⟨v, css, hc.at h.box (hk g h.foot), h.row.kept hc (fun b hb => hk b (h.own b hb).1), h.len, fun i x cs a b => (h.has i x cs a b).kept hc (fun b hb => hk b hb.1), h.foot, h.own, h.fit, h.most, fun b hb => Nat.lt_of_lt_of_le (h.low b hb) hc.size⟩
theorem NetW.slice {w : World} {g : Nat} {l : List (Msg × Bool)} {N : Nat → Prop} {v : Value} {css : List (List Value)} (h : NetW w g l N v css) : ∃ A c, v = .slice A l.length c := by
  obtain ⟨A, c, e⟩ := h.row.slice
  exact ⟨A, c, by rw [← h.len]; exact e⟩
theorem cell1 {w : World} {g : Nat} {v : Value} {t : TypeId} {fr : Nat × Nat} (h : w.heap[g]? = some (.cells #[v] t fr)) : w.cell? ⟨g, 0, none⟩ = some v := by simp [World.cell?, h]
theorem new_any (w : World) : Calls Try.prog 41 #[] w fun e w' => e = .returned (.pointer (some ⟨w.heap.size, 0, none⟩)) ∧ NetV w' w.heap.size [] (fun b => b = w.heap.size) ∧ Chg [] w w' := by
  go_enter Try.func41, Try.ntmps41
  go_wp2
  go_ret
  exact ⟨rfl, ⟨.slice none 0 0, [], heap_new _ _ rfl, RowR.nil _ _ _ _, rfl, (fun i x cs h => by simp at h), rfl, (fun b h => by cases h), (fun x h => by simp at h), by simp, fun b h => by simp at h ⊢; omega⟩, (by with_reducible repeat (first | exact Chg.refl _ _ | apply Chg.alloc | apply Chg.drew | apply Chg.drewN | (refine Chg.setCell ?_ _ _ (by simp))))⟩
theorem len_any (w : World) (g : Nat) (l : List (Msg × Bool)) (N : Nat → Prop) (h : NetV w g l N) : Calls Try.prog 44 #[.pointer (some ⟨g, 0, none⟩)] w fun e w' => e = .returned (.int .i64 l.length) ∧ w = w' := by
  obtain ⟨v, css, h⟩ := h
  obtain ⟨A, c, rfl⟩ := h.slice
  have c0 := cell1 h.box
  clear h
  go_enter Try.func44, Try.ntmps44
  go_wp2
  go_ret
  exact ⟨rfl, rfl⟩
theorem there_any (w : World) (g : Nat) (l : List (Msg × Bool)) (N : Nat → Prop) (h : NetV w g l N) (k : Int) : Calls Try.prog 83 #[.pointer (some ⟨g, 0, none⟩), .int .i64 k] w fun e w' => e = .returned (.int .i64 (if 0 ≤ k ∧ k < l.length then 0 else 4)) ∧ w = w' := by
  obtain ⟨v, css, h⟩ := h
  obtain ⟨A, c, rfl⟩ := h.slice
  have c0 := cell1 h.box
  clear h
  by_cases h1 : k < 0
  · rw [if_neg (by omega)]
    go_enter Try.func83, Try.ntmps83
    go_wp2
    go_ret
    exact ⟨rfl, rfl⟩
  · by_cases h2 : k < l.length
    · rw [if_pos (by omega)]
      go_enter Try.func83, Try.ntmps83
      go_wp2
      go_ret
      exact ⟨rfl, rfl⟩
    · rw [if_neg (by omega)]
      go_enter Try.func83, Try.ntmps83
      go_wp2
      go_ret
      exact ⟨rfl, rfl⟩
end Go.Proofs.Ytipijkpjmpejlaa
