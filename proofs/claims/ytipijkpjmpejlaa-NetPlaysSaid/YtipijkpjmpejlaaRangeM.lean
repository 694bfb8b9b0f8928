import Derived.Test.YtipijkpjmpejlaaBase
import Derived.RangeFuncLeaves
import Derived.RangeFuncNested
import Derived.OwnWalkIn
import Derived.LoopIn
import Derived.BigFrameIn
import Derived.Shelf.RegionOpen
import Derived.TacticsInMore
/- A range over a function whose values lie in memory: one contract for the iterator, one law for the loop, over any program. No condition. -/
set_option linter.unusedVariables false
set_option linter.unusedSimpArgs false
namespace Go.Proofs.Ytipijkpjmpejlaa
open Go.RowKit
abbrev W0 : Fence := Fence.wide
/-- A block of the machine's own books: a loop's record, a list of deferred calls. -/
def isBook : Obj → Bool
  | .loop _ => true
  | .deferred _ => true
  | _ => false
/-- New blocks, and books from B on that have turned. -/
def Quiet (B : Nat) (W W' : World) : Prop := ∃ L, Chg L W W' ∧ ∀ k ∈ L, B ≤ k ∧ ∃ o, W.heap[k]? = some o ∧ isBook o = true
theorem Quiet.of_chg {B : Nat} {W W' : World} (h : Chg [] W W') : Quiet B W W' := ⟨[], h, by simp⟩
theorem Quiet.put {B : Nat} {W : World} {k : Nat} {o : Obj} (o' : Obj) (hk : W.heap[k]? = some o) (ho : isBook o = true) (hB : B ≤ k) : Quiet B W (W.putObj k o') :=
  ⟨[k], ⟨rfl, rfl, rfl, by simp, fun j _ hj => World.putObj_heap_other (by simpa using hj)⟩, fun j hj => by simp at hj; subst hj; exact ⟨hB, o, hk, ho⟩⟩
theorem Quiet.chg {l : List Nat} {B : Nat} {a W W' : World} (h : Quiet B W W') (hc : Chg l a W) (hB : a.heap.size ≤ B) : Chg l a W' := by
  obtain ⟨L, h1, h2⟩ := h
  exact hc.andThen h1 (fun i hi => .inr (by have := (h2 i hi).1; omega))
theorem Quiet.chg0 {B : Nat} {W W' : World} (h : Quiet B W W') (hB : W.heap.size ≤ B) : Chg [] W W' := h.chg (Chg.refl _ _) hB
/-- What is no book lies as it lay. -/
theorem Quiet.at {B b : Nat} {W W' : World} {o : Obj} (h : Quiet B W W') (hb : W.heap[b]? = some o) (ho : isBook o = false) : W'.heap[b]? = some o := by
  obtain ⟨L, h1, h2⟩ := h
  refine h1.at hb (fun hm => ?_)
  obtain ⟨_, o', h3, h4⟩ := h2 b hm
  rw [hb] at h3
  injection h3 with h3
  subst h3
  rw [ho] at h4
  cases h4
theorem Quiet.low {B b : Nat} {W W' : World} {o : Obj} (h : Quiet B W W') (hb : W.heap[b]? = some o) (ho : b < B) : W'.heap[b]? = some o := by
  obtain ⟨L, h1, h2⟩ := h
  exact h1.at hb (fun hm => by have := (h2 b hm).1; omega)
/-- Books from B on lie as they lay. -/
def Books (B : Nat) (W W' : World) : Prop := W.heap.size ≤ W'.heap.size ∧ ∀ k o, B ≤ k → W.heap[k]? = some o → isBook o = true → W'.heap[k]? = some o
theorem Books.refl (B : Nat) (W : World) : Books B W W := ⟨Nat.le_refl _, fun _ _ _ h _ => h⟩
theorem Books.trans {B : Nat} {a b c : World} (h : Books B a b) (k : Books B b c) : Books B a c := ⟨Nat.le_trans h.1 k.1, fun i o hB ho hk => k.2 i o hB (h.2 i o hB ho hk) hk⟩
theorem Books.of_chg {B : Nat} {W W' : World} {L : List Nat} (h : Chg L W W') (hL : ∀ k ∈ L, k < B ∨ ∃ o, W.heap[k]? = some o ∧ isBook o = false) : Books B W W' := ⟨h.size, fun k o hB ho hk => by
  refine h.at ho (fun hm => ?_)
  rcases hL k hm with h1 | ⟨o', h1, h2⟩
  · omega
  · rw [ho] at h1
    injection h1 with h1
    subst h1
    rw [hk] at h2
    cases h2⟩
theorem Books.of_chg0 {B : Nat} {W W' : World} (h : Chg [] W W') : Books B W W' := Books.of_chg h (by simp)
/-- An iterator: it hands over xs, each as values that represent it in the world at hand; between two rounds it makes new blocks alone, and asks for the state St. -/
def Iter {β : Type} (P : Program) (g : Nat) (lb : Array Value) (Rep : Nat → Nat → β → Array Value → World → Prop) (xs : List β) (St : World → Prop) : Prop :=
  ∀ (l : Nat) (J : Nat → World → Prop) (Jx : World → Prop) (W : World),
    (∀ i W, J i W → St W) → (∀ i W W', J i W → Chg [] W W' → J i W') → (∀ W W', Jx W → Chg [] W W' → Jx W') →
    (∀ i x args W1, J i W1 → xs[i]? = some x → Rep l i x args W1 → YieldAt W0 0 P l args W1 fun e W' => (e = .returned (.bool true) ∧ J (i + 1) W' ∧ W1.heap.size ≤ W'.heap.size) ∨ (e = .returned (.bool false) ∧ Jx W')) →
    J 0 W → l < W.heap.size → Calls P g (#[.func (.yield l) #[] #[]] ++ lb) W fun e W' => (∃ v, e = .returned v) ∧ (J xs.length W' ∨ Jx W')
/-- How the body of a round may be left. -/
def bodyEnd (B i : Nat) (I : Nat → World → Prop) (Ix : Code → World → Prop) (W : World) : Exit → Act → World → Prop
  | .normal, _, W' => Books B W W' ∧ I (i + 1) W'
  | .ret, _, W' => Books B W W' ∧ Ix .ret W'
  | .exit id, _, W' => Books B W W' ∧ Ix (.exit id) W'
  | .goto t, _, W' => Books B W W' ∧ Ix (.goto t) W'
  | .panic _, _, _ => False
  | .outgrown, _, _ => False
variable {P : Program}
/-- A range over a function, at the outermost. -/
theorem wp_range {β : Type} {g : Operand} {ps : Array Tmp} {assign body : Code} {Q : Exit → Act → World → Prop} {a : Act} {w : World} {gf : Nat} {lb : Array Value} (hg : a.eval g = .func (.func gf) #[] lb)
    (eg : ∀ args w, (callFunc gf args).run P w = .ok (.enter gf args) w) {Rep : Nat → Nat → β → Array Value → World → Prop} {xs : List β} {St : World → Prop} (hseq : Iter P gf lb Rep xs St) (hps : ∀ l i x args W, Rep l i x args W → args.size = ps.size)
    (I : Nat → World → Prop) (Ix : Code → World → Prop) (hSt : ∀ i W, I i W → St W) (hI : ∀ i W W', I i W → Quiet w.heap.size W W' → I i W') (hIx : ∀ c W W', Ix c W → Quiet w.heap.size W W' → Ix c W') (h0 : I 0 w)
    (hround : ∀ l i x args W, I i W → xs[i]? = some x → Rep l i x args W → (∃ r, W.heap[l]? = some (.loop r)) → w.heap.size ≤ l →
      assign.wpIn (W0.inRound l) 0 P (Exit.then (fun a₁ W1 => Books w.heap.size W W1 ∧ ∀ W2, Chg [l] W1 W2 → Quiet w.heap.size W1 W2 → body.wpIn (W0.inRound l) 0 P (bodyEnd w.heap.size i I Ix W2) a₁ W2) (fun _ _ _ => False))
        { tmps := (ps.zip args).foldl (fun t (p, v) => t.setIfInBounds p v) a.tmps, defers := [] } W)
    (hdone : ∀ (D : Nat) (W : World), w.heap.size ≤ D → I xs.length W → W.heap[D]? = some (.deferred (some [])) → Q .normal { a with defers := { target := .collected D, args := #[] } :: a.defers } W)
    (hstop : ∀ (D : Nat) (c : Code) (W : World), w.heap.size ≤ D → Ix c W → W.heap[D]? = some (.deferred (some [])) → c.wp P Q { a with defers := { target := .collected D, args := #[] } :: a.defers } W) :
    (Code.rangeFunc g ps assign body).wp P Q a w := by
  refine (wpIn_wide (n := 0)).1 (wpIn_rangeFunc ?_)
  intro fn hfn
  show ∃ l, _
  obtain ⟨rec, hrec⟩ : ∃ rec : LoopState → Option Code → Loop, rec = fun st pe => { state := st, pending := pe, fn, tmps := a.tmps, params := ps, assign, body, defers := w.heap.size } := ⟨_, rfl⟩
  obtain ⟨W1, hW1⟩ : ∃ W1, (w.alloc (.deferred (some []))).alloc (.loop (rec .ready none)) = W1 := ⟨_, rfl⟩
  have hL1 : W1.heap[w.heap.size + 1]? = some (.loop (rec .ready none)) := by
    rw [← hW1]; exact heap_new _ _ (by simp)
  have hK1 : W1.heap[w.heap.size]? = some (.deferred (some [])) := by
    rw [← hW1]; exact heap_old (heap_new _ _ rfl) _
  have hc1 : Chg [] w W1 := by rw [← hW1]; exact ((Chg.refl _ _).alloc _).alloc _
  have hI1 : I 0 W1 := hI _ _ _ h0 (.of_chg hc1)
  refine ⟨w.heap.size + 1, [{ target := .collected w.heap.size, args := #[] }], W1, { target := .fn (.func gf) lb, args := #[.func (.yield (w.heap.size + 1)) #[] #[]] }, W1, gf,
    #[.func (.yield (w.heap.size + 1)) #[] #[]] ++ lb, W1, ?_, ?_, ?_, ?_, fun h => by simp [Fence.wide] at h, ?_⟩
  · rw [← hW1, hrec]; exact run_enterLoop_outer _ _ _ _ _
  · simp only [resolve, hg]
    simp [go_sem]
  · intro f' hf'; trivial
  · simp [invoke, go_sem, eg]
  · refine (callsIn_wide.2 (hseq (w.heap.size + 1)
      (fun i W => I i W ∧ W.heap[w.heap.size + 1]? = some (.loop (rec .ready none)) ∧ W.heap[w.heap.size]? = some (.deferred (some [])))
      (fun W => ∃ c, Ix c W ∧ W.heap[w.heap.size + 1]? = some (.loop (rec .done (some c))) ∧ W.heap[w.heap.size]? = some (.deferred (some [])))
      W1 (fun i W h => hSt i W h.1) (fun i W W' h hc => ⟨hI _ _ _ h.1 (.of_chg hc), hc.at h.2.1 (by simp), hc.at h.2.2 (by simp)⟩)
      (fun W W' h hc => by
        obtain ⟨c, h1, h2, h3⟩ := h
        exact ⟨c, hIx _ _ _ h1 (.of_chg hc), hc.at h2 (by simp), hc.at h3 (by simp)⟩) ?_ ⟨hI1, hL1, hK1⟩ (lt_of_block hL1))).mono ?_
    · rintro i x args W ⟨hi, hl, hk⟩ hx hrep
      have hy := run_yield (P := P) (args := args) hl (by rw [hrec]; exact hps _ _ _ _ _ hrep)
      rw [hrec] at hy
      refine ⟨fn, _, assign, body, hy, roundIn_of_wpIn hfn ?_⟩
      refine wpIn_mono (hround (w.heap.size + 1) i x args W hi hx hrep ⟨_, hl⟩ (by omega)) ?_
      clear hy
      intro e a' Wa hp
      cases e with
      | normal =>
        obtain ⟨hbk, hbody⟩ := hp
        have hla := hbk.2 _ _ (by omega) hl rfl
        have hka := hbk.2 _ _ (Nat.le_refl _) hk rfl
        have hlt := lt_of_block hla
        refine ⟨_, run_beginRound hla (by rw [hrec]), ?_⟩
        have hl2 : (Wa.putObj (w.heap.size + 1) (.loop { rec .ready none with state := .busy })).heap[w.heap.size + 1]? = some (.loop { rec .ready none with state := .busy }) := World.putObj_heap_same hlt
        have hk2 : (Wa.putObj (w.heap.size + 1) (.loop { rec .ready none with state := .busy })).heap[w.heap.size]? = some (.deferred (some [])) := (World.putObj_heap_other (by omega)).trans hka
        refine wpIn_mono (hbody _ ⟨rfl, rfl, rfl, by simp, fun j _ hj => World.putObj_heap_other (by simpa using hj)⟩ (.put _ hla rfl (by omega))) ?_
        have fin : ∀ (jump : Option Code) (W3 : World), Books w.heap.size (Wa.putObj (w.heap.size + 1) (.loop { rec .ready none with state := .busy })) W3 →
            (Instr.endRound (w.heap.size + 1) jump).run P W3 = .ok (.bool jump.isNone) (W3.putObj (w.heap.size + 1) (.loop (rec (if jump.isNone then .ready else .done) jump))) ∧
            W3.heap[w.heap.size + 1]? = some (.loop { rec .ready none with state := .busy }) ∧
            (W3.putObj (w.heap.size + 1) (.loop (rec (if jump.isNone then .ready else .done) jump))).heap[w.heap.size + 1]? = some (.loop (rec (if jump.isNone then .ready else .done) jump)) ∧
            (W3.putObj (w.heap.size + 1) (.loop (rec (if jump.isNone then .ready else .done) jump))).heap[w.heap.size]? = some (.deferred (some [])) := fun jump W3 hk3 => by
          have hl3 := hk3.2 _ _ (by omega) hl2 rfl
          have := run_endRound (P := P) jump hl3
          rw [hrec] at this ⊢
          exact ⟨this, by rw [hrec] at hl3; exact hl3, World.putObj_heap_same (lt_of_block hl3), (World.putObj_heap_other (by omega)).trans (hk3.2 _ _ (Nat.le_refl _) hk2 rfl)⟩
        rintro e a3 W3 hp
        cases e with
        | normal =>
          obtain ⟨hk3, hi3⟩ := hp
          obtain ⟨hr, hl3, hl4, hk4⟩ := fin none W3 hk3
          exact ⟨_, _, hr, .inl ⟨rfl, ⟨hI _ _ _ hi3 (.put _ hl3 rfl (by omega)), hl4, hk4⟩, by have h1 := hbk.1; have h2 := hk3.1; simp at h2 ⊢; omega⟩⟩
        | ret =>
          obtain ⟨hk3, hi3⟩ := hp
          obtain ⟨hr, hl3, hl4, hk4⟩ := fin (some .ret) W3 hk3
          exact ⟨_, _, hr, .inr ⟨rfl, .ret, hIx _ _ _ hi3 (.put _ hl3 rfl (by omega)), hl4, hk4⟩⟩
        | exit id =>
          obtain ⟨hk3, hi3⟩ := hp
          obtain ⟨hr, hl3, hl4, hk4⟩ := fin (some (.exit id)) W3 hk3
          exact ⟨_, _, hr, .inr ⟨rfl, .exit id, hIx _ _ _ hi3 (.put _ hl3 rfl (by omega)), hl4, hk4⟩⟩
        | goto t =>
          obtain ⟨hk3, hi3⟩ := hp
          obtain ⟨hr, hl3, hl4, hk4⟩ := fin (some (.goto t)) W3 hk3
          exact ⟨_, _, hr, .inr ⟨rfl, .goto t, hIx _ _ _ hi3 (.put _ hl3 rfl (by omega)), hl4, hk4⟩⟩
        | panic ch => exact hp.elim
        | outgrown => exact hp.elim
      | ret => exact hp.elim
      | exit id => exact hp.elim
      | goto t => exact hp.elim
      | panic ch => exact hp.elim
      | outgrown => exact hp.elim
    · rintro e W2 ⟨⟨v, rfl⟩, (⟨hi, hl, hk⟩ | ⟨c, hi, hl, hk⟩)⟩
      · exact ⟨none, _, by have := run_endLoop (P := P) hl (by rw [hrec]; simp); rw [hrec] at this; exact this, hdone _ _ (Nat.le_refl _) (hI _ _ _ hi (.put _ hl rfl (by omega))) ((World.putObj_heap_other (by omega)).trans hk)⟩
      · exact ⟨some c, _, by have := run_endLoop (P := P) hl (by rw [hrec]; simp); rw [hrec] at this; exact this, (wpIn_wide (n := 0)).2 (hstop _ c _ (Nat.le_refl _) (hIx _ _ _ hi (.put _ hl rfl (by omega))) ((World.putObj_heap_other (by omega)).trans hk))⟩
section
variable {F : Fence} {n : Nat} {P : Program} {ops : Array Oper} {rest : List Oper} {o : Oper} {a : Act} {w : World} {Q : Exit → Act → World → Prop}
theorem inList_runv (hF : ∀ f, F.fn f) (hgd : o.guard = none) {v : Value} {w' : World} (hd : ∀ c, o.op ≠ .defer c) (hrun : (execOp a.eval o).run P w = .ok (.value v) w') (h : wpListIn F n P ops Q rest (a.put o.dst v) w') : wpListIn F n P ops Q (o :: rest) a w := by
  have hw : Region.wanted o (yielded ops a.tmps) = true := by simp [Region.wanted, hgd]
  simp only [wpListIn, hw, if_true]
  refine ⟨fun f _ => hF f, ?_⟩
  have : Oper.semAt F.round a.eval o = execOp a.eval o := by
    cases hr : F.round with
    | none => exact Oper.semAt_none _ _
    | some l => exact Oper.semAt_some l _ _ hd
  rw [this, hrun]
  exact h
theorem inList_runs (hF : ∀ f, F.fn f) (hgd : o.guard = none) {w' : World} (hd : ∀ c, o.op ≠ .defer c) (hrun : (execOp a.eval o).run P w = .ok .skip w') (h : wpListIn F n P ops Q rest (a.put o.dst undef) w') : wpListIn F n P ops Q (o :: rest) a w := by
  have hw : Region.wanted o (yielded ops a.tmps) = true := by simp [Region.wanted, hgd]
  simp only [wpListIn, hw, if_true]
  refine ⟨fun f _ => hF f, ?_⟩
  have : Oper.semAt F.round a.eval o = execOp a.eval o := by
    cases hr : F.round with
    | none => exact Oper.semAt_none _ _
    | some l => exact Oper.semAt_some l _ _ hd
  rw [this, hrun]
  exact h
/-- The return of a function whose one range over a function has left its mark. -/
theorem bodyM_ret {fn : Func} {R : Ending → World → Prop} {a : Act} {w : World} {D : Nat} {v : Value} (hd : a.defers = [{ target := .collected D, args := #[] }]) (hK : w.heap[D]? = some (.deferred (some []))) (hr : (results fn a.tmps).run P (w.putObj D (.deferred none)) = .ok v (w.putObj D (.deferred none)))
    (h : R (.returned v) (w.putObj D (.deferred none))) : bodyPostM W0 0 P fn R .ret a w := by
  show LeavesInM W0 0 P fn a.tmps R a.defers .returning w
  rw [hd]
  exact ⟨by simp, .inl ⟨_, _, rfl, run_takeDeferred hK, ⟨_, hr, h⟩⟩⟩
end
end Go.Proofs.Ytipijkpjmpejlaa
