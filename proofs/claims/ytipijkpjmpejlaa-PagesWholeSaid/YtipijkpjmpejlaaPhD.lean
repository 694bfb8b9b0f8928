import Derived.Test.YtipijkpjmpejlaaPhC
/- A region in which one of two effects may come first; rows of one, of none; two tables beside each other; moments. -/
set_option linter.unusedVariables false
set_option linter.unusedSimpArgs false
namespace Go.Proofs.Ytipijkpjmpejlaa
open Go.RowKit
section
variable {P : Program} {ops : Array Oper} {Q : Exit → Act → World → Prop} {md : Region.Mode} {S : World → Prop} {eff brk : Nat → Bool}
/-- One of two effects comes next. -/
theorem M_two {i j : Nat} {oi oj : Oper} {fuel : Nat} {listed : Array Bool} {a : Act} {w : World} (hi0 : ops.toList[i]? = some oi) (hj0 : ops.toList[j]? = some oj) (hr : Region.ready md ops listed = [i, j]) (hei : eff i = true) (hej : eff j = true)
    (h : wpList P ops (EffQ Q (fun a' w' => S w' ∧ wpAnyM P md ops Q S eff brk fuel (listed.setIfInBounds i true) a' w')) [oi] a w)
    (k : wpList P ops (EffQ Q (fun a' w' => S w' ∧ wpAnyM P md ops Q S eff brk fuel (listed.setIfInBounds j true) a' w')) [oj] a w) : wpAnyM P md ops Q S eff brk (fuel + 1) listed a w := by
  have key : ∀ (x : Nat) (ox : Oper), ops[x]? = some ox → eff x = true → wpList P ops (EffQ Q (fun a' w' => S w' ∧ wpAnyM P md ops Q S eff brk fuel (listed.setIfInBounds x true) a' w')) [ox] a w →
      wpOp P ops Q x (fun a' w' => (eff x = false → w' = w) ∧ (brk x = false → S w → S w') ∧ wpAnyM P md ops Q S eff brk fuel (listed.setIfInBounds x true) a' w') a w := by
    intro x ox hx he h
    refine wpOp_mono (K := fun a' w' => S w' ∧ wpAnyM P md ops Q S eff brk fuel (listed.setIfInBounds x true) a' w') (fun a' w' h => ⟨fun h0 => (by rw [he] at h0; cases h0), fun _ _ => h.1, h.2⟩) ?_
    unfold wpOp
    simp only [hx]
    unfold wpList at h
    split
    · rename_i hw
      rw [if_pos hw] at h
      rcases h with h | ⟨h1, a', w', h2⟩
      · exact .inl (wp_of_EffQ (Oper.wp_mono (fun a w h => h) h))
      · exact .inr ⟨h1, a', w', h2⟩
    · rename_i hw
      rw [if_neg hw] at h
      exact h
  refine ⟨fun h0 => (by rw [h0] at hr; cases hr), fun x hx => ?_⟩
  rw [hr] at hx
  rcases List.mem_cons.1 hx with rfl | hx
  · exact key _ _ (by simpa using hi0) hei h
  · obtain rfl := List.mem_singleton.1 hx
    exact key _ _ (by simpa using hj0) hej k
end
theorem infoU8S : (Try.prog.info? 49).map (fun i => (i.zero, i.size, i.bytes)) = some (some (.slice none 0 0), 1, 24) := by kernel_rfl
theorem RecsK.own {w0 w : World} {base : Nat} {v : Value} {rs : List (List Int)} (h : RecsK w0 w base v rs) : ∀ k ∈ v.ownBlock.toList, base ≤ k ∧ k < w.heap.size := by
  obtain ⟨hs, h1, _⟩ := h
  intro k hk
  exact h1.lt k (by simpa using hk)
theorem RecsK.beside {w0 w w' : World} {base : Nat} {v : Value} {rs : List (List Int)} {l : List Nat} (h : RecsK w0 w base v rs) (hC : Chg l w w') (hT : ChgT w0 [some 49] w w') (hl : ∀ k, v.ownBlock = some k → k ∉ l) : RecsK w0 w' base v rs := by
  obtain ⟨hs, h3, h4⟩ := h
  exact ⟨hs, own_kept h3 hC hl, fun i h r hh hr => (h4 i h r hh hr).kept hT (by decide)⟩
theorem TabK.own {w0 w : World} {base : Nat} {v : Value} {ms : List (List (List Int))} (h : TabK w0 w base v ms) : ∀ k ∈ v.ownBlock.toList, base ≤ k ∧ k < w.heap.size := by
  obtain ⟨hs, h1, _⟩ := h
  intro k hk
  exact h1.lt k (by simpa using hk)
/-- A row of none, behind a block of its own. -/
theorem RecsK.empty (w0 w : World) (base : Nat) (hb : base ≤ w.heap.size) : RecsK w0 (w.alloc (.cells #[] 49)) base (.slice (some ⟨w.heap.size, 0, none⟩) 0 0) [] :=
  ⟨[], ⟨rfl, .inr ⟨w.heap.size, 0, #[], rfl, hb, heap_new _ _ rfl, Nat.le_refl _, by unfold maxLen; omega, rfl, rfl⟩⟩, fun i h r hh => by simp at hh⟩
theorem RecsK.one {w0 w : World} {h : Value} {r : List Int} (k : BK w0 w h r) (base : Nat) (hb : base ≤ w.heap.size) : RecsK w0 (w.alloc (.cells #[h] 49)) base (.slice (some ⟨w.heap.size, 0, none⟩) 1 1) [r] := by
  have hc : Chg [] w (w.alloc (.cells #[h] 49)) := (Chg.refl _ _).alloc _
  refine ⟨[h], ⟨rfl, .inr ⟨w.heap.size, 1, #[h], rfl, hb, heap_new _ _ rfl, Nat.le_refl _, by unfold maxLen; omega, rfl, rfl⟩⟩, fun i u x hu hx => ?_⟩
  have hi : i = 0 := by have := (List.getElem?_eq_some_iff.1 hu).1; simp at this; omega
  subst hi
  simp at hu hx
  subst hu hx
  exact k.kept (T := []) (ChgT.of_nil hc) (by simp)
theorem build0 (w : World) : (Instr.buildSlice 96 0 #[]).run Try.prog w = .ok (.slice (some ⟨w.heap.size, 0, none⟩) 0 0) (w.alloc (.cells #[] 49)) := by kernel_rfl
theorem wpList_none {ops : Array Oper} {rest : List Oper} {o : Oper} {a : Act} {w : World} {Q : Exit → Act → World → Prop} (hgd : o.guard = none) (ho : o.op = .buildSlice 96 0 #[])
    (h : wpList Try.prog ops Q rest (a.put o.dst (.slice (some ⟨w.heap.size, 0, none⟩) 0 0)) (w.alloc (.cells #[] 49))) : wpList Try.prog ops Q (o :: rest) a w := by
  refine wpList_runv hgd (w' := w.alloc (.cells #[] 49)) ?_ h
  simp [execOp, ho, build0, Result.andThen]
/-- A row of one head. -/
theorem wpList_row1 {ops : Array Oper} {rest : List Oper} {o : Oper} {a : Act} {w : World} {Q : Exit → Act → World → Prop} (hgd : o.guard = none) (x : Operand) (ho : o.op = .buildSlice 96 1 #[(0, x)]) (A : Option Addr) (n c : Nat) (hx : a.eval x = .slice A n c)
    (h : wpList Try.prog ops Q rest (a.put o.dst (.slice (some ⟨w.heap.size, 0, none⟩) 1 1)) (w.alloc (.cells #[.slice A n c] 49))) : wpList Try.prog ops Q (o :: rest) a w := by
  obtain ⟨ip, hi, hz0, hz1, hz2⟩ := info_parts infoU8S
  exact wpList_slice_one hgd 96 49 x ho Try.underlying96 ip _ hi hz0 (by rw [hz1]; rfl) (by omega) (by omega) (.slice A n c) hx (by rw [hz1]; rfl) h
/-- A table's row of one. -/
theorem wpList_tab1 {ops : Array Oper} {rest : List Oper} {o : Oper} {a : Act} {w : World} {Q : Exit → Act → World → Prop} (hgd : o.guard = none) (x : Operand) (ho : o.op = .buildSlice 104 1 #[(0, x)]) (A : Option Addr) (n c : Nat) (hx : a.eval x = .slice A n c)
    (h : wpList Try.prog ops Q rest (a.put o.dst (.slice (some ⟨w.heap.size, 0, none⟩) 1 1)) (w.alloc (.cells #[.slice A n c] 96))) : wpList Try.prog ops Q (o :: rest) a w := by
  obtain ⟨ip, hi, hz0, hz1, hz2⟩ := info_parts infoBSS
  exact wpList_slice_one hgd 104 96 x ho Try.underlying104 ip _ hi hz0 (by rw [hz1]; rfl) (by omega) (by omega) (.slice A n c) hx (by rw [hz1]; rfl) h
/-- A table, where another one's rows grow. -/
theorem TabK.beside {w0 w w' : World} {base : Nat} {v : Value} {ms : List (List (List Int))} {l : List Nat} (h : TabK w0 w base v ms) (hC : Chg l w w') (hT : ChgT w0 [some 96] w w') (hl : ∀ k, v.ownBlock = some k → k ∉ l) : TabK w0 w' base v ms := by
  obtain ⟨hs, h3, h4⟩ := h
  exact ⟨hs, own_kept h3 hC hl, fun i h r hh hr => (h4 i h r hh hr).kept hT (by decide) (by decide)⟩
/-- Two tables, apart. -/
structure Tabs (w0 w : World) (base : Nat) (v u : Value) (ms ns : List (List (List Int))) : Prop where
  one : TabK w0 w base v ms
  two : TabK w0 w base u ns
  apart : ∀ k, v.ownBlock = some k → u.ownBlock ≠ some k
theorem Tabs.nil (w0 w : World) (base : Nat) : Tabs w0 w base (.slice none 0 0) (.slice none 0 0) [] [] := ⟨TabK.nil _ _ _, TabK.nil _ _ _, fun k hk => by cases hk⟩
theorem Tabs.kept {w0 w w' : World} {base : Nat} {v u : Value} {ms ns : List (List (List Int))} (h : Tabs w0 w base v u ms ns) {T : List (Option TypeId)} (hc : ChgT w0 T w w') (h1 : some 5 ∉ T) (h2 : some 49 ∉ T) (h5 : some 96 ∉ T) : Tabs w0 w' base v u ms ns :=
  ⟨h.one.kept hc h1 h2 h5, h.two.kept hc h1 h2 h5, h.apart⟩
theorem Tabs.kept0 {w0 w w' : World} {base : Nat} {v u : Value} {ms ns : List (List (List Int))} (h : Tabs w0 w base v u ms ns) (hc : Chg [] w w') : Tabs w0 w' base v u ms ns := h.kept (T := []) (ChgT.of_nil hc) (by simp) (by simp) (by simp)
theorem Tabs.push1 {w0 w w' : World} {base : Nat} {v v' u : Value} {ms ms' ns : List (List (List Int))} (h : Tabs w0 w base v u ms ns) (h1 : TabK w0 w' base v' ms') (hT : ChgT w0 [some 96] w w') (hC : Chg v.ownBlock.toList w w') (ho : v'.ownBlock = v.ownBlock ∨ v'.ownBlock = some w.heap.size) : Tabs w0 w' base v' u ms' ns :=
  ⟨h1, h.two.beside hC hT (fun k hk hm => h.apart k (by simpa using hm) hk), fun k hk hu => by
    rcases ho with e | e
    · exact h.apart k (by rw [← e]; exact hk) hu
    · rw [e] at hk; cases hk
      have := (h.two.own w.heap.size (by rw [hu]; simp)).2
      omega⟩
theorem Tabs.push2 {w0 w w' : World} {base : Nat} {v u u' : Value} {ms ns ns' : List (List (List Int))} (h : Tabs w0 w base v u ms ns) (h1 : TabK w0 w' base u' ns') (hT : ChgT w0 [some 96] w w') (hC : Chg u.ownBlock.toList w w') (ho : u'.ownBlock = u.ownBlock ∨ u'.ownBlock = some w.heap.size) : Tabs w0 w' base v u' ms ns' :=
  ⟨h.one.beside hC hT (fun k hk hm => h.apart k hk (by simpa using hm)), h1, fun k hk hu => by
    rcases ho with e | e
    · exact h.apart k hk (by rw [← e]; exact hu)
    · rw [e] at hu; cases hu
      have := (h.one.own w.heap.size (by rw [hk]; simp)).2
      omega⟩
/-- What stood behind each write. -/
structure Moments (B N : Int) (at0 : Nat) (L : List (Int × List Int)) (ms : List (List (List Int))) : Prop where
  len : at0 + ms.length = L.length
  told : ∀ k, k < ms.length → Told B N (secOf (L.take (at0 + k))) (ms.getD k [])
theorem Moments.start (B N : Int) (L : List (Int × List Int)) : Moments B N L.length L [] := ⟨rfl, fun k hk => by simp at hk⟩
theorem Moments.push {B N M : Int} {at0 : Nat} {L L' ws : List (Int × List Int)} {ms : List (List (List Int))} {now : List (List Int)} (h : Moments B N at0 L ms) (hL : L' = L ++ ws) (hw : ∀ o, o < ws.length → Told B N (secOf (L ++ ws.take o)) now) (hN : N ≤ M) : Moments B M at0 L' (ms ++ List.replicate ws.length now) := by
  subst hL
  have hl := h.len
  refine ⟨by simp; omega, fun k hk => ?_⟩
  simp at hk
  by_cases hk1 : k < ms.length
  · have := h.told k hk1
    rw [List.take_append_of_le_length (by omega), List.getD_eq_getElem?_getD, List.getElem?_append_left hk1, ← List.getD_eq_getElem?_getD]
    exact this.mono hN
  · have e : List.take (at0 + k) (L ++ ws) = L ++ ws.take (k - ms.length) := by
      rw [List.take_append, List.take_of_length_le (by omega)]
      congr 2
      omega
    have e2 : (ms ++ List.replicate ws.length now).getD k [] = now := by
      rw [List.getD_eq_getElem?_getD, List.getElem?_append_right (by omega), List.getElem?_replicate, if_pos (by omega)]
      rfl
    rw [e, e2]
    exact (hw _ (by omega)).mono hN
/-- Which moment a cut asks for. -/
theorem cut_in (cut : Int) (n : Nat) (hn : 0 < n) : ∃ k : Nat, k < n ∧ (cut.tmod n + n).tmod n = k ∧ -(n : Int) < cut.tmod n ∧ cut.tmod n < n := by
  have h1 : -(n : Int) < cut.tmod n := by
    have h5 := Int.emod_nonneg cut (show (n : Int) ≠ 0 by omega)
    have h6 := Int.emod_lt_of_pos cut (show (0 : Int) < n by omega)
    rw [Int.tmod_eq_emod]
    split
    · omega
    · have hnd : ¬ ((n : Int) ∣ cut) := by rename_i h; exact fun hd => h (.inr hd)
      have : cut % n ≠ 0 := fun h => hnd (Int.dvd_of_emod_eq_zero h)
      omega
  have h2 : cut.tmod n < n := Int.tmod_lt_of_pos cut (by omega)
  have h3 : (cut.tmod n + n).tmod n = (cut.tmod n + n) % n := Int.tmod_eq_emod_of_nonneg (by omega)
  have h4 := Int.emod_nonneg (cut.tmod n + n) (show (n : Int) ≠ 0 by omega)
  have h5 := Int.emod_lt_of_pos (cut.tmod n + n) (show (0 : Int) < n by omega)
  exact ⟨((cut.tmod n + n) % n).toNat, by omega, by omega, h1, h2⟩
end Go.Proofs.Ytipijkpjmpejlaa
