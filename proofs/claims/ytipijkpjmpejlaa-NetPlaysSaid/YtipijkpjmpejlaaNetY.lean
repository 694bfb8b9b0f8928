import Derived.Test.YtipijkpjmpejlaaTold
/- Both nets side by side. -/
set_option linter.unusedVariables false
set_option linter.unusedSimpArgs false
namespace Go.Proofs.Ytipijkpjmpejlaa
open Go.RowKit
/-- The program's net and the reference's (in blocks of M), made since w0, apart from each other and from the blocks of X. -/
def NetsM (w0 w : World) (g r : Nat) (l lr : List (Msg × Bool)) (X : List Nat) (M : Nat → Prop) : Prop :=
  ∃ N, NetV w g l N ∧ RNetV w r lr M ∧ (∀ b, N b → w0.heap.size ≤ b ∧ ¬ M b ∧ b ∉ X) ∧ (∀ b, M b → w0.heap.size ≤ b ∧ b ∉ X) ∧ Chg [] w0 w ∧ ∀ b ∈ X, b < w.heap.size
def Nets (w0 w : World) (g r : Nat) (l : List (Msg × Bool)) : Prop := ∃ M, NetsM w0 w g r l l [] M
/-- What an act may have changed. -/
def ActN (w0 w w' : World) (X : List Nat) (O : Nat → Prop) : Prop := ∃ cl, Chg cl w w' ∧ ∀ b ∈ cl, b ∉ X ∧ w0.heap.size ≤ b ∧ O b
theorem NetV.low {w : World} {g : Nat} {l : List (Msg × Bool)} {N : Nat → Prop} (h : NetV w g l N) : ∀ b, N b → b < w.heap.size := by obtain ⟨_, _, h⟩ := h; exact h.low
theorem RNetV.low {w : World} {r : Nat} {l : List (Msg × Bool)} {M : Nat → Prop} (h : RNetV w r l M) : ∀ b, M b → b < w.heap.size := by obtain ⟨_, _, _, h⟩ := h; exact h.low
theorem NetsM.low {w0 w : World} {g r : Nat} {l lr : List (Msg × Bool)} {X : List Nat} {M : Nat → Prop} (h : NetsM w0 w g r l lr X M) : ∀ b, M b → b < w.heap.size := by obtain ⟨_, _, h, _⟩ := h; exact h.low
theorem NetsM.chg {w0 w : World} {g r : Nat} {l lr : List (Msg × Bool)} {X : List Nat} {M : Nat → Prop} (h : NetsM w0 w g r l lr X M) : Chg [] w0 w := by obtain ⟨_, _, _, _, _, h, _⟩ := h; exact h
theorem NetsM.act1 {w0 w : World} {g r : Nat} {l lr : List (Msg × Bool)} {X : List Nat} {M : Nat → Prop} (h : NetsM w0 w g r l lr X M) : ∃ N, NetV w g l N ∧ ∀ l' w', NetPost g l' N w w' → NetsM w0 w' g r l' lr X M ∧ ActN w0 w w' X (fun b => b < w.heap.size) := by
  obtain ⟨N, h1, h2, h3, h4, h5, h6⟩ := h
  refine ⟨N, h1, fun l' w' hp => ?_⟩
  obtain ⟨N', cl, p1, p2, p3, p4⟩ := hp
  refine ⟨⟨N', p1, h2.kept p3 (fun b hb hm => (h3 b (p4 b hm)).2.1 hb), fun b hb => ?_, h4, h5.andThen p3 (fun i hi => .inr (h3 i (p4 i hi)).1), fun b hb => Nat.lt_of_lt_of_le (h6 b hb) p3.size⟩, cl, p3, fun b hb => ⟨(h3 b (p4 b hb)).2.2, (h3 b (p4 b hb)).1, h1.low b (p4 b hb)⟩⟩
  rcases p2 b hb with h | h
  · exact h3 b h
  · exact ⟨Nat.le_trans h5.size h, fun hm => by have := h2.low b hm; omega, fun hm => by have := h6 b hm; omega⟩
theorem NetsM.act2 {w0 w : World} {g r : Nat} {l lr : List (Msg × Bool)} {X : List Nat} {M : Nat → Prop} (h : NetsM w0 w g r l lr X M) : RNetV w r lr M ∧ ∀ l' w', RNetPost r l' M w w' → (∃ M', NetsM w0 w' g r l l' X M') ∧ ActN w0 w w' X M := by
  obtain ⟨N, h1, h2, h3, h4, h5, h6⟩ := h
  refine ⟨h2, fun l' w' hp => ?_⟩
  obtain ⟨M', cl, p1, p2, p3, p4⟩ := hp
  refine ⟨⟨M', N, h1.kept p3 (fun b hb hm => (h3 b hb).2.1 (p4 b hm)), p1, fun b hb => ⟨(h3 b hb).1, fun hm => ?_, (h3 b hb).2.2⟩, fun b hb => ?_, h5.andThen p3 (fun i hi => .inr (h4 i (p4 i hi)).1), fun b hb => Nat.lt_of_lt_of_le (h6 b hb) p3.size⟩, cl, p3, fun b hb => ⟨(h4 b (p4 b hb)).2, (h4 b (p4 b hb)).1, p4 b hb⟩⟩
  · rcases p2 b hm with h | h
    · exact (h3 b hb).2.1 h
    · have := h1.low b hb; omega
  · rcases p2 b hb with h | h
    · exact h4 b h
    · exact ⟨Nat.le_trans h5.size h, fun hm => by have := h6 b hm; omega⟩
theorem NetsM.step {w0 w w' : World} {g r : Nat} {l lr : List (Msg × Bool)} {X : List Nat} {M : Nat → Prop} (h : NetsM w0 w g r l lr X M) (hc : Chg [] w w') : NetsM w0 w' g r l lr X M := by
  obtain ⟨N, h1, h2, h3, h4, h5, h6⟩ := h
  exact ⟨N, h1.kept hc (by simp), h2.kept hc (by simp), h3, h4, h5.trans hc, fun b hb => Nat.lt_of_lt_of_le (h6 b hb) hc.size⟩
theorem NetsM.more {w0 w w' : World} {g r b : Nat} {l lr : List (Msg × Bool)} {X : List Nat} {M : Nat → Prop} (h : NetsM w0 w g r l lr X M) (hc : Chg [] w w') (hb : w.heap.size ≤ b) (hb2 : b < w'.heap.size) : NetsM w0 w' g r l lr (b :: X) M := by
  obtain ⟨N, h1, h2, h3, h4, h5, h6⟩ := h
  refine ⟨N, h1.kept hc (by simp), h2.kept hc (by simp), fun x hx => ⟨(h3 x hx).1, (h3 x hx).2.1, fun hm => ?_⟩, fun x hx => ⟨(h4 x hx).1, fun hm => ?_⟩, h5.trans hc, fun x hx => ?_⟩
  · rcases List.mem_cons.1 hm with e | e
    · have := h1.low x hx; omega
    · exact (h3 x hx).2.2 e
  · rcases List.mem_cons.1 hm with e | e
    · have := h2.low x hx; omega
    · exact (h4 x hx).2 e
  · rcases List.mem_cons.1 hx with e | e
    · omega
    · exact Nat.lt_of_lt_of_le (h6 x e) hc.size
theorem NetsM.bare {w0 w : World} {g r : Nat} {l : List (Msg × Bool)} {X : List Nat} {M : Nat → Prop} (h : NetsM w0 w g r l l X M) : Nets w0 w g r l := by
  obtain ⟨N, h1, h2, h3, h4, h5, h6⟩ := h
  exact ⟨M, N, h1, h2, fun x hx => ⟨(h3 x hx).1, (h3 x hx).2.1, by simp⟩, fun x hx => ⟨(h4 x hx).1, by simp⟩, h5, by simp⟩
theorem ActN.at {w0 w w' : World} {b : Nat} {X : List Nat} {O : Nat → Prop} {o : Obj} (h : ActN w0 w w' X O) (hb : w.heap[b]? = some o) (hX : b ∈ X ∨ ¬ O b) : w'.heap[b]? = some o := by
  obtain ⟨cl, h1, h2⟩ := h
  exact h1.at hb (fun hm => by
    rcases hX with h | h
    · exact (h2 b hm).1 h
    · exact h (h2 b hm).2.2)
theorem ActN.size {w0 w w' : World} {X : List Nat} {O : Nat → Prop} (h : ActN w0 w w' X O) : w.heap.size ≤ w'.heap.size := by obtain ⟨cl, h1, _⟩ := h; exact h1.size
theorem ActN.msg {w0 w w' : World} {X : List Nat} {O ok : Nat → Prop} {m : Msg} {A : Option Addr} {c : Nat} {B : Option Addr} {d : Nat} (h : ActN w0 w w' X O) (hM : MsgC ok w m A c B d) (hok : ∀ b, ok b → b < w0.heap.size ∨ ¬ O b) : MsgC ok w' m A c B d := by
  obtain ⟨cl, h1, h2⟩ := h
  exact hM.kept h1 (fun b hb hm => by
    rcases hok b hb with h | h
    · have := (h2 b hm).2.1; omega
    · exact h (h2 b hm).2.2)
end Go.Proofs.Ytipijkpjmpejlaa
