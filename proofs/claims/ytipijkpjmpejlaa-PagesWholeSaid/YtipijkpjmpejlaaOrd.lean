import Derived.Test.YtipijkpjmpejlaaBase
import Derived.OrdersHeld
/- Regions that draw their order, over any program: one walk in one order serves every order, where what floats reads what stays, and what reads waits for nothing that writes. No condition. -/
namespace Go.Proofs.Ytipijkpjmpejlaa
open Go.RowKit
section
variable {P : Program} {ops : Array Oper} {Q : Exit → Act → World → Prop} {md : Region.Mode} {S : World → Prop} {eff brk : Nat → Bool}
/-- Whatever order is picked from here on; what is no effect leaves the world as it was; what does not break S keeps it. -/
def wpAnyM (P : Program) (md : Region.Mode) (ops : Array Oper) (Q : Exit → Act → World → Prop) (S : World → Prop) (eff brk : Nat → Bool) : Nat → Array Bool → Act → World → Prop
  | 0, listed, a, w => Region.ready md ops listed = [] ∧ Q .normal a w
  | fuel + 1, listed, a, w =>
    (Region.ready md ops listed = [] → Q .normal a w) ∧
    ∀ i ∈ Region.ready md ops listed, wpOp P ops Q i (fun a' w' => (eff i = false → w' = w) ∧ (brk i = false → S w → S w') ∧ wpAnyM P md ops Q S eff brk fuel (listed.setIfInBounds i true) a' w') a w
theorem wpAny_of_M : ∀ (fuel : Nat) (listed : Array Bool) (a : Act) (w : World), wpAnyM P md ops Q S eff brk fuel listed a w → wpAny P md ops Q fuel listed a w
  | 0, _, _, _, h => h
  | fuel + 1, _, _, _, h => ⟨h.1, fun i hi => wpOp_mono (fun a' w' h' => wpAny_of_M fuel _ a' w' h'.2.2) (h.2 i hi)⟩
/-- What may come before i: C holds all that is listed, is shut under 'all that it waits for is in C', and nothing that it has besides is bad. -/
def Anch (md : Region.Mode) (ops : Array Oper) (bad : Nat → Bool) (i : Nat) (C : Nat → Bool) (listed : Array Bool) : Prop :=
  (∀ k, listed.getD k false = true → C k = true) ∧
  (∀ j oj, ops[j]? = some oj → j ≠ i → (∀ e ∈ oj.after, Region.binds md e = true → C e.on = true) → C j = true) ∧
  (∀ j, C j = true → listed.getD j true = false → bad j = false)
/-- An operation may be taken first, if it yields its value in every world of a class that what may come before it keeps. -/
theorem wpAnyM_gen {i : Nat} {oi : Oper} {v : Value} (hi : ops[i]? = some oi) (hsel : ∀ (j : Nat) (o : Oper) cs b, ops[j]? = some o → o.op ≠ .select cs b)
    (hQ : ∀ c a w, Q (.panic c) (a.put oi.dst v) w → Q (.panic c) a w) (C : Nat → Bool) (S0 : World → Prop) (bad : Nat → Bool)
    (hkeep : ∀ j w w', bad j = false → (eff j = false → w' = w) → (brk j = false → S w → S w') → S0 w → S0 w') :
    ∀ (fuel : Nat) (listed : Array Bool) (a : Act) (w : World),
      (∀ j oj, ops[j]? = some oj → j ≠ i → listed.getD j true = false → (∀ e ∈ oj.after, Region.binds md e = true → e.on ≠ i) → oi.apart ops oj = true) →
      Anch md ops bad i C listed →
      i ∈ Region.ready md ops listed → YieldsIf P ops S0 oi v a → S0 w →
      wpAnyM P md ops Q S eff brk fuel (listed.setIfInBounds i true) (a.put oi.dst v) w → wpAnyM P md ops Q S eff brk (fuel + 1) listed a w := by
  intro fuel
  induction fuel with
  | zero =>
    intro listed a w _ _ hr hy hS H
    refine ⟨fun h => (by rw [h] at hr; cases hr), fun j hj => ?_⟩
    by_cases hji : j = i
    · subst hji; exact hy.wpOp hi hS ⟨fun _ => rfl, fun _ h => h, H⟩
    · have := ready_mono hj hji
      rw [H.1] at this
      cases this
  | succ fuel ih =>
    intro listed a w hfree hA hr hy hS H
    refine ⟨fun h => (by rw [h] at hr; cases hr), fun j hj => ?_⟩
    by_cases hji : j = i
    · subst hji; exact hy.wpOp hi hS ⟨fun _ => rfl, fun _ h => h, H⟩
    · have h1 := H.2 j (ready_mono hj hji)
      obtain ⟨hjun, oj, hoj, hall⟩ := mem_ready.1 hj
      have hnot : ∀ e ∈ oj.after, Region.binds md e = true → e.on ≠ i := fun e he hb heq => by
        have h1 := hall e he hb
        have h0 := (mem_ready.1 hr).1
        rw [heq] at h1
        rcases Nat.lt_or_ge i listed.size with h' | h'
        · simp [h'] at h0 h1; rw [h0] at h1; cases h1
        · simp [Array.getElem?_eq_none h'] at h1
      have hCj : C j = true := hA.2.1 j oj hoj hji (fun e he hb => hA.1 _ (hall e he hb))
      have hej : bad j = false := hA.2.2 j hCj hjun
      have h2 := wpOp_putIf hoj (hfree j oj hoj hji hjun hnot) (fun cs b => hsel i oi cs b hi) (fun cs b => hsel j oj cs b hoj) hQ hy h1
      have hfree' : ∀ k ok, ops[k]? = some ok → k ≠ i → (listed.setIfInBounds j true).getD k true = false →
          (∀ e ∈ ok.after, Region.binds md e = true → e.on ≠ i) → oi.apart ops ok = true := fun k ok hk hki hun hno => by
        refine hfree k ok hk hki ?_ hno
        by_cases hjk : j = k
        · subst hjk; exact hjun
        · rw [getD_set_ne true hjk] at hun; exact hun
      have hA' : Anch md ops bad i C (listed.setIfInBounds j true) := by
        refine ⟨fun k hk => ?_, hA.2.1, fun k hk hun => ?_⟩
        · by_cases hjk : j = k
          · subst hjk; exact hCj
          · rw [getD_set_ne false hjk] at hk; exact hA.1 k hk
        · by_cases hjk : j = k
          · subst hjk; exact hej
          · rw [getD_set_ne true hjk] at hun; exact hA.2.2 k hk hun
      refine wpOp_mono (fun a' w' h3 => ?_) h2
      obtain ⟨h4, h5, h6, h7⟩ := h3
      refine ⟨h5, h6, ih (listed.setIfInBounds j true) a' w' hfree' hA' (ready_mono hr (Ne.symm hji)) h4 (hkeep j w w' hej h5 h6 hS) ?_⟩
      rw [Array.setIfInBounds_comm _ _ hji]
      exact h7

/-! ### The moves, their side conditions as Bools -/
def afterIn (md : Region.Mode) (o : Oper) (C : Array Bool) : Bool := o.after.all fun e => !Region.binds md e || C.getD e.on false
def closeB (md : Region.Mode) (ops : Array Oper) (i : Nat) : Nat → Array Bool → Array Bool
  | 0, C => C
  | n + 1, C => closeB md ops i n ((List.range ops.size).foldl (fun C j => if j != i && ((ops[j]?).map (afterIn md · C)).getD false then C.setIfInBounds j true else C) C)
def anchB (md : Region.Mode) (ops : Array Oper) (bad : Nat → Bool) (i : Nat) (listed : Array Bool) : Bool :=
  let C := closeB md ops i ops.size listed
  C.size == ops.size && listed.size == ops.size && (List.range ops.size).all fun j =>
    (!(listed.getD j false) || C.getD j false) && (j == i || !((ops[j]?).map (afterIn md · C)).getD false || C.getD j false) && (!(C.getD j false) || listed.getD j true || !bad j)
theorem anchB_spec {bad : Nat → Bool} {i : Nat} {listed : Array Bool} (h : anchB md ops bad i listed = true) : listed.size = ops.size ∧ Anch md ops bad i (fun k => (closeB md ops i ops.size listed).getD k false) listed := by
  unfold anchB at h
  generalize closeB md ops i ops.size listed = C at h ⊢
  simp only [Bool.and_eq_true, beq_iff_eq, List.all_eq_true, List.mem_range, Bool.or_eq_true, Bool.not_eq_true'] at h
  obtain ⟨⟨h1, h2⟩, h3⟩ := h
  refine ⟨h2, fun k hk => ?_, fun j oj hj hne hall => ?_, fun j hj hun => ?_⟩
  · have hlt : k < ops.size := by
      rcases Nat.lt_or_ge k listed.size with h | h
      · omega
      · simp [Array.getElem?_eq_none h] at hk
    rcases (h3 k hlt).1.1 with h | h
    · rw [hk] at h; cases h
    · exact h
  · have hlt : j < ops.size := (Array.getElem?_eq_some_iff.1 hj).1
    rcases (h3 j hlt).1.2 with (h | h) | h
    · exact absurd h hne
    · rw [hj] at h
      have hb : afterIn md oj C = true := by
        unfold afterIn
        rw [Array.all_eq_true_iff_forall_mem]
        intro e he
        cases hbd : Region.binds md e with
        | false => rfl
        | true => simp only [Bool.not_true, Bool.false_or]; exact hall e he hbd
      simp [hb] at h
    · exact h
  · have hlt : j < ops.size := by
      rcases Nat.lt_or_ge j C.size with h | h
      · omega
      · simp [Array.getElem?_eq_none h] at hj
    rcases (h3 j hlt).2 with (h | h) | h
    · have hj' : C.getD j false = true := hj
      rw [hj'] at h; cases h
    · rw [hun] at h; cases h
    · exact h
theorem wp_region_M {id : Nat} {a : Act} {w : World} (S : World → Prop) (eff brk : Nat → Bool) (hm : P.follows .mixedOrders = true)
    (h : wpAnyM P .any ops Q S eff brk ops.size (Array.replicate ops.size false) a w.drew) : (Code.region id ops true).wp P Q a w :=
  wp_region_any hm (wpAny_of_M _ _ _ _ h)
theorem anch_true (listed : Array Bool) (i : Nat) : Anch md ops (fun _ => false) i (fun _ => true) listed := ⟨fun _ _ => rfl, fun _ _ _ _ _ => rfl, fun _ _ _ => rfl⟩
/-- An operation that no effect can come before: it reads the world at hand. -/
theorem M_take {i : Nat} {oi : Oper} {v : Value} {fuel : Nat} {listed : Array Bool} {a : Act} {w : World} (hi0 : ops.toList[i]? = some oi)
    (hs : Region.noSelect ops = true) (hf : Region.free md ops listed i = true) (hr : (Region.ready md ops listed).contains i = true) (hA : anchB md ops eff i listed = true)
    (hQ : ∀ c a w, Q (.panic c) (a.put oi.dst v) w → Q (.panic c) a w) (hw : Region.wanted oi (yielded ops a.tmps) = true) (hy : (execOp a.eval oi).run P w = .ok (.value v) w)
    (h : wpAnyM P md ops Q S eff brk fuel (listed.setIfInBounds i true) (a.put oi.dst v) w) : wpAnyM P md ops Q S eff brk (fuel + 1) listed a w :=
  wpAnyM_gen (by simpa using hi0) (Region.noSelect_spec hs) hQ _ (fun W => W = w) eff (fun j w1 w2 hb he _ e => by rw [he hb]; exact e) fuel listed a w (Region.free_spec (by simpa using hi0) hf) (anchB_spec hA).2 (by simpa using hr) (.inl ⟨hw, fun W e => by rw [e]; exact hy⟩) rfl h
/-- An operation that nothing which breaks S can come before: it reads what S keeps. -/
theorem M_semi {i : Nat} {oi : Oper} {v : Value} {fuel : Nat} {listed : Array Bool} {a : Act} {w : World} (hi0 : ops.toList[i]? = some oi)
    (hs : Region.noSelect ops = true) (hf : Region.free md ops listed i = true) (hr : (Region.ready md ops listed).contains i = true) (hA : anchB md ops brk i listed = true)
    (hQ : ∀ c a w, Q (.panic c) (a.put oi.dst v) w → Q (.panic c) a w) (hw : Region.wanted oi (yielded ops a.tmps) = true) (hS : S w) (hy : ∀ w, S w → (execOp a.eval oi).run P w = .ok (.value v) w)
    (h : wpAnyM P md ops Q S eff brk fuel (listed.setIfInBounds i true) (a.put oi.dst v) w) : wpAnyM P md ops Q S eff brk (fuel + 1) listed a w :=
  wpAnyM_gen (by simpa using hi0) (Region.noSelect_spec hs) hQ _ S brk (fun j w1 w2 hb _ hk hs => hk hb hs) fuel listed a w (Region.free_spec (by simpa using hi0) hf) (anchB_spec hA).2 (by simpa using hr) (.inl ⟨hw, hy⟩) hS h
/-- An operation that looks at no memory. -/
theorem M_pure {i : Nat} {oi : Oper} {v : Value} {fuel : Nat} {listed : Array Bool} {a : Act} {w : World} (hi0 : ops.toList[i]? = some oi)
    (hs : Region.noSelect ops = true) (hf : Region.free md ops listed i = true) (hr : (Region.ready md ops listed).contains i = true)
    (hQ : ∀ c a w, Q (.panic c) (a.put oi.dst v) w → Q (.panic c) a w) (hw : Region.wanted oi (yielded ops a.tmps) = true) (hy : ∀ w, (execOp a.eval oi).run P w = .ok (.value v) w)
    (h : wpAnyM P md ops Q S eff brk fuel (listed.setIfInBounds i true) (a.put oi.dst v) w) : wpAnyM P md ops Q S eff brk (fuel + 1) listed a w :=
  wpAnyM_gen (by simpa using hi0) (Region.noSelect_spec hs) hQ (fun _ => true) (fun _ => True) (fun _ => false) (fun _ _ _ _ _ _ _ => trivial) fuel listed a w (Region.free_spec (by simpa using hi0) hf) (anch_true _ _) (by simpa using hr) (.inl ⟨hw, fun w _ => hy w⟩) trivial h
/-- An operation that its guard passes over. -/
theorem M_skip {i : Nat} {oi : Oper} {fuel : Nat} {listed : Array Bool} {a : Act} {w : World} (hi0 : ops.toList[i]? = some oi)
    (hs : Region.noSelect ops = true) (hf : Region.free md ops listed i = true) (hr : (Region.ready md ops listed).contains i = true)
    (hQ : ∀ c a w, Q (.panic c) (a.put oi.dst undef) w → Q (.panic c) a w) (hw : Region.wanted oi (yielded ops a.tmps) = false)
    (h : wpAnyM P md ops Q S eff brk fuel (listed.setIfInBounds i true) (a.put oi.dst undef) w) : wpAnyM P md ops Q S eff brk (fuel + 1) listed a w :=
  wpAnyM_gen (by simpa using hi0) (Region.noSelect_spec hs) hQ (fun _ => true) (fun _ => True) (fun _ => false) (fun _ _ _ _ _ _ _ => trivial) fuel listed a w (Region.free_spec (by simpa using hi0) hf) (anch_true _ _) (by simpa using hr) (.inr ⟨hw, rfl⟩) trivial h
/-- K behind the normal end, Q behind all others. -/
def EffQ (Q : Exit → Act → World → Prop) (K : Act → World → Prop) : Exit → Act → World → Prop
  | .normal, a, w => K a w
  | e, a, w => Q e a w
theorem wp_of_EffQ {o : Oper} {a : Act} {w : World} {K : Act → World → Prop} (hh : o.wp P a w K (EffQ Q K)) : o.wp P a w K Q := by
  unfold Oper.wp at *
  generalize (execOp a.eval o).run P w = r at *
  cases r with
  | ok n w' =>
    cases n <;> simp only [Oper.upon] at hh ⊢ <;> exact hh
  | halt x w' => cases x <;> simp only [Oper.upon] at hh ⊢ <;> exact hh
theorem M_effect {i : Nat} {oi : Oper} {fuel : Nat} {listed : Array Bool} {a : Act} {w : World} {K : Act → World → Prop} (hi0 : ops.toList[i]? = some oi) (hr : Region.ready md ops listed = [i]) (he : eff i = true)
    (hK : ∀ a' w', K a' w' → (brk i = false → S w → S w') ∧ wpAnyM P md ops Q S eff brk fuel (listed.setIfInBounds i true) a' w')
    (h : wpList P ops (EffQ Q K) [oi] a w) : wpAnyM P md ops Q S eff brk (fuel + 1) listed a w := by
  have hi : ops[i]? = some oi := by simpa using hi0
  refine ⟨fun h0 => (by rw [h0] at hr; cases hr), fun j hj => ?_⟩
  rw [hr] at hj
  obtain rfl := List.mem_singleton.1 hj
  refine wpOp_mono (K := K) (fun a' w' h => ⟨fun h0 => (by rw [he] at h0; cases h0), hK a' w' h⟩) ?_
  unfold wpOp
  simp only [hi]
  unfold wpList at h
  split
  · rename_i hw
    rw [if_pos hw] at h
    rcases h with h | ⟨h1, a', w', h2⟩
    · exact .inl (wp_of_EffQ (Oper.wp_mono (fun a w h => h) h))
    · exact .inr ⟨h1, a', w', h2⟩
  · rename_i hw
    rw [if_neg hw] at h
    exact h
/-- The one operation that may come up, S kept: as in a plain region of itself alone. -/
theorem M_eff {i : Nat} {oi : Oper} {fuel : Nat} {listed : Array Bool} {a : Act} {w : World} (hi0 : ops.toList[i]? = some oi) (hr : Region.ready md ops listed = [i]) (he : eff i = true)
    (h : wpList P ops (EffQ Q (fun a' w' => S w' ∧ wpAnyM P md ops Q S eff brk fuel (listed.setIfInBounds i true) a' w')) [oi] a w) : wpAnyM P md ops Q S eff brk (fuel + 1) listed a w :=
  M_effect hi0 hr he (fun _ _ h => ⟨fun _ _ => h.1, h.2⟩) h
/-- The one operation that may come up; it may break S. -/
theorem M_brk {i : Nat} {oi : Oper} {fuel : Nat} {listed : Array Bool} {a : Act} {w : World} (hi0 : ops.toList[i]? = some oi) (hr : Region.ready md ops listed = [i]) (he : eff i = true) (hb : brk i = true)
    (h : wpList P ops (EffQ Q (fun a' w' => wpAnyM P md ops Q S eff brk fuel (listed.setIfInBounds i true) a' w')) [oi] a w) : wpAnyM P md ops Q S eff brk (fuel + 1) listed a w :=
  M_effect hi0 hr he (fun _ _ h => ⟨fun h0 => (by rw [hb] at h0; cases h0), h⟩) h
theorem M_done {listed : Array Bool} {a : Act} {w : World} (hr : Region.ready md ops listed = []) (h : Q .normal a w) : ∀ fuel, wpAnyM P md ops Q S eff brk fuel listed a w
  | 0 => ⟨hr, h⟩
  | _ + 1 => ⟨fun _ => h, by rw [hr]; simp⟩
end
end Go.Proofs.Ytipijkpjmpejlaa
