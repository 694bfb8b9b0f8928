import Derived.Test.YtipijkpjmpejlaaNetD
import Derived.Test.YtipijkpjmpejlaaNetF
import Derived.Test.YtipijkpjmpejlaaNetG
import Derived.Test.YtipijkpjmpejlaaNetI
/- The contracts of the net's acts, where the net was made since a world w0 and blocks of X are not its own. -/
set_option linter.unusedVariables false
set_option linter.unusedSimpArgs false
namespace Go.Proofs.Ytipijkpjmpejlaa
open Go.RowKit
/-- An operation under a guard that is met. -/
theorem wpList_guard {P : Program} {ops : Array Oper} {rest : List Oper} {o : Oper} {a : Act} {w : World} {Q : Exit → Act → World → Prop} {v : Value} {w' : World} (hw : Region.wanted o (yielded ops a.tmps) = true) (hrun : (execOp a.eval o).run P w = .ok (.value v) w') (h : wpList P ops Q rest (a.put o.dst v) w') : wpList P ops Q (o :: rest) a w := by
  simp only [wpList, hw, if_true]
  refine .inl ?_
  unfold Oper.wp
  rw [hrun]
  exact h
/-- A net made since w0; the blocks of X are none of its own. -/
def NetAt (w0 w : World) (g : Nat) (l : List (Msg × Bool)) (X : List Nat) : Prop := ∃ N, NetV w g l N ∧ (∀ b, N b → w0.heap.size ≤ b ∧ b ∉ X) ∧ Chg [] w0 w ∧ ∀ b ∈ X, b < w.heap.size
def ActAt (w0 w w' : World) (g : Nat) (l : List (Msg × Bool)) (X : List Nat) : Prop := NetAt w0 w' g l X ∧ ∃ cl, Chg cl w w' ∧ ∀ b ∈ cl, b ∉ X
theorem NetAt.act {w0 w : World} {g : Nat} {l : List (Msg × Bool)} {X : List Nat} (h : NetAt w0 w g l X) : ∃ N, NetV w g l N ∧ ∀ l' w', NetPost g l' N w w' → ActAt w0 w w' g l' X := by
  obtain ⟨N, h1, h2, h3, h4⟩ := h
  refine ⟨N, h1, fun l' w' hp => ?_⟩
  obtain ⟨N', cl, p1, p2, p3, p4⟩ := hp
  refine ⟨⟨N', p1, fun b hb => ?_, h3.andThen p3 (fun i hi => .inr (h2 i (p4 i hi)).1), fun b hb => Nat.lt_of_lt_of_le (h4 b hb) p3.size⟩, cl, p3, fun b hb => (h2 b (p4 b hb)).2⟩
  rcases p2 b hb with h | h
  · exact h2 b h
  · exact ⟨Nat.le_trans h3.size h, fun hm => by have := h4 b hm; omega⟩
theorem NetAt.step {w0 w w' : World} {g : Nat} {l : List (Msg × Bool)} {X L : List Nat} (h : NetAt w0 w g l X) (hc : Chg L w w') (hL : ∀ b ∈ L, w0.heap.size ≤ b ∧ b ∈ X) : NetAt w0 w' g l X := by
  obtain ⟨N, h1, h2, h3, h4⟩ := h
  exact ⟨N, h1.kept hc (fun b hb hm => (h2 b hb).2 (hL b hm).2), h2, h3.andThen hc (fun i hi => .inr (hL i hi).1), fun b hb => Nat.lt_of_lt_of_le (h4 b hb) hc.size⟩
theorem NetAt.step0 {w0 w w' : World} {g : Nat} {l : List (Msg × Bool)} {X : List Nat} (h : NetAt w0 w g l X) (hc : Chg [] w w') : NetAt w0 w' g l X := h.step hc (by simp)
theorem NetAt.size {w0 w : World} {g : Nat} {l : List (Msg × Bool)} {X : List Nat} (h : NetAt w0 w g l X) : w0.heap.size ≤ w.heap.size := by obtain ⟨_, _, _, h, _⟩ := h; exact h.size
theorem NetAt.chg {w0 w : World} {g : Nat} {l : List (Msg × Bool)} {X : List Nat} (h : NetAt w0 w g l X) : Chg [] w0 w := by obtain ⟨_, _, _, h, _⟩ := h; exact h
/-- A new block is none of the net's. -/
theorem NetAt.more {w0 w : World} {g : Nat} {l : List (Msg × Bool)} {X : List Nat} (h : NetAt w0 w g l X) (o : Obj) : NetAt w0 (w.alloc o) g l (w.heap.size :: X) := by
  obtain ⟨N, h1, h2, h3, h4⟩ := h
  refine ⟨N, h1.kept ((Chg.refl [] w).alloc o) (by simp), fun b hb => ⟨(h2 b hb).1, fun hm => ?_⟩, h3.alloc o, fun b hb => ?_⟩
  · obtain ⟨v, css, h⟩ := h1
    have := h.low b hb
    rcases List.mem_cons.1 hm with e | e
    · omega
    · exact (h2 b hb).2 e
  · rcases List.mem_cons.1 hb with e | e
    · simp; omega
    · have := h4 b e; simp; omega
theorem NetAt.less {w0 w : World} {g b : Nat} {l : List (Msg × Bool)} {X : List Nat} (h : NetAt w0 w g l (b :: X)) : NetAt w0 w g l X := by
  obtain ⟨N, h1, h2, h3, h4⟩ := h
  exact ⟨N, h1, fun b hb => ⟨(h2 b hb).1, fun hm => (h2 b hb).2 (List.mem_cons_of_mem _ hm)⟩, h3, fun b hb => h4 b (List.mem_cons_of_mem _ hb)⟩
theorem ActAt.at {w0 w w' : World} {g b : Nat} {l : List (Msg × Bool)} {X : List Nat} {o : Obj} (h : ActAt w0 w w' g l X) (hb : w.heap[b]? = some o) (hX : b ∈ X) : w'.heap[b]? = some o := by
  obtain ⟨_, cl, h1, h2⟩ := h
  exact h1.at hb (fun hm => h2 b hm hX)
theorem ActAt.of_chg {w0 w w' : World} {g : Nat} {l : List (Msg × Bool)} {X : List Nat} (h : NetAt w0 w g l X) (hc : Chg [] w w') : ActAt w0 w w' g l X := ⟨h.step0 hc, [], hc, by simp⟩
theorem new_at (w0 w : World) (X : List Nat) (hc : Chg [] w0 w) (hX : ∀ b ∈ X, b < w.heap.size) : Calls Try.prog 41 #[] w fun e w' => e = .returned (.pointer (some ⟨w.heap.size, 0, none⟩)) ∧ NetAt w0 w' w.heap.size [] X ∧ Chg [] w w' := by
  refine (new_any w).mono ?_
  rintro e w' ⟨rfl, h, hc2⟩
  exact ⟨rfl, ⟨_, h, fun b hb => ⟨by rw [hb]; exact hc.size, fun hm => by have := hX b hm; omega⟩, hc.trans hc2, fun b hb => Nat.lt_of_lt_of_le (hX b hb) hc2.size⟩, hc2⟩
theorem len_at {w0 w : World} {g : Nat} {l : List (Msg × Bool)} {X : List Nat} (h : NetAt w0 w g l X) : Calls Try.prog 44 #[.pointer (some ⟨g, 0, none⟩)] w fun e w' => e = .returned (.int .i64 l.length) ∧ w = w' := by
  obtain ⟨N, h, _⟩ := h
  exact len_any w g l N h
theorem send_at {w0 w : World} {g : Nat} {l : List (Msg × Bool)} {X : List Nat} (h : NetAt w0 w g l X) (m : Msg) (A : Option Addr) (c : Nat) (B : Option Addr) (d : Nat) (hM : MsgC (fun b => b < w.heap.size) w m A c B d) (hF : m.Fit) :
    Calls Try.prog 42 #[.pointer (some ⟨g, 0, none⟩), .agg #[.int .i8 (Msg.kind m), .int .i64 (Msg.frm m), .int .i64 (Msg.to m), .int .i64 (Msg.boot m), .int .i64 (Msg.server m), .int .i64 (Msg.number m), .int .i64 (Msg.node m), .int .i64 (Msg.lease m), .int .i64 (Msg.epoch m), .int .i64 (Msg.version m), .int .i64 (Msg.e m), .slice B (Msg.steps m).length d, .int .i64 (Msg.tree m).id, .int .i64 (Msg.tree m).kind, .string (Msg.tree m).text, .slice A (Msg.tree m).kids.length c]] w fun e w' => e = .returned (.int .i64 (sendCode m l.length)) ∧ ActAt w0 w w' g (if sendCode m l.length = 0 then l ++ [(m, false)] else l) X := by
  obtain ⟨N, h1, h2⟩ := h.act
  exact (send_any w g l N h1 m A c B d hM hF).mono fun e w' hp => ⟨hp.1, h2 _ _ hp.2⟩
theorem hold_at {w0 w : World} {g : Nat} {l : List (Msg × Bool)} {X : List Nat} (h : NetAt w0 w g l X) (k : Int) : Calls Try.prog 48 #[.pointer (some ⟨g, 0, none⟩), .int .i64 k] w fun e w' => e = .returned (.int .i64 (if 0 ≤ k ∧ k < l.length then 0 else 4)) ∧ ActAt w0 w w' g (holdL l k) X := by
  obtain ⟨N, h1, h2⟩ := h.act
  exact (hold_any w g l N h1 k).mono fun e w' hp => ⟨hp.1, h2 _ _ hp.2⟩
theorem double_at {w0 w : World} {g : Nat} {l : List (Msg × Bool)} {X : List Nat} (h : NetAt w0 w g l X) (k : Int) : Calls Try.prog 45 #[.pointer (some ⟨g, 0, none⟩), .int .i64 k] w fun e w' => e = .returned (.int .i64 (dblCode l k)) ∧ ActAt w0 w w' g (dblL l k) X := by
  obtain ⟨N, h1, h2⟩ := h.act
  exact (double_any w g l N h1 k).mono fun e w' hp => ⟨hp.1, h2 _ _ hp.2⟩
theorem free_at {w0 w : World} {g : Nat} {l : List (Msg × Bool)} {X : List Nat} (h : NetAt w0 w g l X) : Calls Try.prog 50 #[.pointer (some ⟨g, 0, none⟩)] w fun e w' => e = .returned (.int .i64 (heldN l)) ∧ ActAt w0 w w' g (l.map clr) X := by
  obtain ⟨N, h1, h2⟩ := h.act
  exact (free_any w g l N h1).mono fun e w' hp => ⟨hp.1, h2 _ _ hp.2⟩
theorem clear_at {w0 w : World} {g : Nat} {l : List (Msg × Bool)} {X : List Nat} (h : NetAt w0 w g l X) (ad : Int) : Calls Try.prog 46 #[.pointer (some ⟨g, 0, none⟩), .int .i64 ad] w fun e w' => e = .returned (.int .i64 (l.length - (keepM ad l).length : Nat)) ∧ ActAt w0 w w' g (keepM ad l) X := by
  obtain ⟨N, h1, h2⟩ := h.act
  exact (clear_any w g l N h1 ad).mono fun e w' hp => ⟨hp.1, h2 _ _ hp.2⟩
theorem first_at {w0 w : World} {g : Nat} {l : List (Msg × Bool)} {X : List Nat} (h : NetAt w0 w g l X) : Calls Try.prog 51 #[.pointer (some ⟨g, 0, none⟩)] w fun e w' => e = .returned (.tuple #[.int .i64 (firstAt l 0).1, .bool (firstAt l 0).2]) ∧ ActAt w0 w w' g l X := by
  obtain ⟨N, h1, h2⟩ := h.act
  exact (first_any w g l N h1).mono fun e w' hp => ⟨hp.1, .of_chg h hp.2⟩
/-- What Look answers of a message that is there; none is there. -/
def LookAt (w0 w : World) (g : Nat) (l : List (Msg × Bool)) (X : List Nat) (k : Int) (e : Ending) (w' : World) : Prop := ActAt w0 w w' g l X ∧ LookPost l k w e w'
theorem look_at {w0 w : World} {g : Nat} {l : List (Msg × Bool)} {X : List Nat} (h : NetAt w0 w g l X) (k : Int) : Calls Try.prog 49 #[.pointer (some ⟨g, 0, none⟩), .int .i64 k] w (LookAt w0 w g l X k) := by
  obtain ⟨N, h1, h2⟩ := h.act
  refine (look_any w g l N h1 k).mono fun e w' hp => ⟨?_, hp⟩
  rcases hp with ⟨_, _, hc⟩ | ⟨_, _, _, _, _, _, _, _, _, hc⟩ <;> exact .of_chg h hc
def TakeAt (w0 w : World) (g : Nat) (l : List (Msg × Bool)) (X : List Nat) (k : Int) (e : Ending) (w' : World) : Prop :=
  (¬ (0 ≤ k ∧ k < l.length) ∧ e = .returned (.tuple #[.agg #[.int .i8 0, .int .i64 0, .int .i64 0, .int .i64 0, .int .i64 0, .int .i64 0, .int .i64 0, .int .i64 0, .int .i64 0, .int .i64 0, .int .i64 0, .slice none 0 0, .int .i64 0, .int .i64 0, .string ⟨#[]⟩, .slice none 0 0], .int .i64 4]) ∧ ActAt w0 w w' g l X) ∨
  ∃ x A c B d, 0 ≤ k ∧ l[k.toNat]? = some x ∧ e = .returned (.tuple #[.agg #[.int .i8 (Msg.kind x.1), .int .i64 (Msg.frm x.1), .int .i64 (Msg.to x.1), .int .i64 (Msg.boot x.1), .int .i64 (Msg.server x.1), .int .i64 (Msg.number x.1), .int .i64 (Msg.node x.1), .int .i64 (Msg.lease x.1), .int .i64 (Msg.epoch x.1), .int .i64 (Msg.version x.1), .int .i64 (Msg.e x.1), .slice B (Msg.steps x.1).length d, .int .i64 (Msg.tree x.1).id, .int .i64 (Msg.tree x.1).kind, .string (Msg.tree x.1).text, .slice A (Msg.tree x.1).kids.length c], .int .i64 0]) ∧ MsgC (fun b => w.heap.size ≤ b ∧ b < w'.heap.size) w' x.1 A c B d ∧ ActAt w0 w w' g (l.eraseIdx k.toNat) X
theorem take_at {w0 w : World} {g : Nat} {l : List (Msg × Bool)} {X : List Nat} (h : NetAt w0 w g l X) (k : Int) : Calls Try.prog 43 #[.pointer (some ⟨g, 0, none⟩), .int .i64 k] w (TakeAt w0 w g l X k) := by
  obtain ⟨N, h1, h2⟩ := h.act
  refine (take_any w g l N h1 k).mono fun e w' hp => ?_
  rcases hp with ⟨a, b, hc⟩ | ⟨x, A, c, B, d, h3, h4, h5, h6, hp⟩
  · exact .inl ⟨a, b, .of_chg h hc⟩
  · exact .inr ⟨x, A, c, B, d, h3, h4, h5, h6, h2 _ _ hp⟩
/-- A message without steps and without a tree. -/
def bareM (frm to number : Int) : Msg := { kind := 0, frm := frm, to := to, boot := 0, server := 0, number := number, node := 0, lease := 0, epoch := 0, version := 0, e := 0, steps := [], tree := { id := 0, kind := 0, text := ⟨#[]⟩, kids := [] } }
theorem bareM_c (ok : Nat → Prop) (w : World) (frm to number : Int) : MsgC ok w (bareM frm to number) none 0 none 0 :=
  ⟨TrC.none _ none 0 rfl (by omega) (by simp [bareM, ByteArray.size]), .inl rfl, by simp [bareM], by omega, fun _ => rfl⟩
theorem bareM_fit (frm to number : Int) : (bareM frm to number).Fit :=
  ⟨by simp [bareM, Tr.nodes, nodesL], by simp [bareM], by simp [bareM]⟩
end Go.Proofs.Ytipijkpjmpejlaa
