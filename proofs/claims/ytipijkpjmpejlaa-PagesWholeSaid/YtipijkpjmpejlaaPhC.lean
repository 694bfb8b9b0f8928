import Derived.Test.YtipijkpjmpejlaaPhB
/- Rows put behind rows: of byte slices, and of such rows. -/
set_option linter.unusedVariables false
set_option linter.unusedSimpArgs false
namespace Go.Proofs.Ytipijkpjmpejlaa
open Go.RowKit
theorem infoBSS : (Try.prog.info? 96).map (fun i => (i.zero, i.size, i.bytes)) = some (some (.slice none 0 0), 1, 24) := by kernel_rfl
theorem own_chgT {w0 w w' : World} {base n : Nat} {e : TypeId} {v : Value} {xs : List Value} (h : w.ownsRow base e 1 v n xs) (h0 : w0.heap.size ≤ base) (hc : Chg v.ownBlock.toList w w') : ChgT w0 [some e] w w' :=
  ChgT.of_chg hc (fun k hk _ => by
    rcases h.2 with ⟨rfl, _⟩ | ⟨g, cap, cur, rfl, hg, hb, _⟩
    · simp [Value.ownBlock] at hk
    · simp [Value.ownBlock] at hk
      subst hk
      refine ⟨by omega, fun o ho => ?_⟩
      rw [hb] at ho
      cases ho
      simp [okind])
theorem get_app {α : Type} {a b : List α} {n : Nat} (hn : a.length = n) {i : Nat} {x : α} (h : (a ++ b)[i]? = some x) : (i < n ∧ a[i]? = some x) ∨ (n ≤ i ∧ b[i - n]? = some x) := by
  subst hn
  rcases Nat.lt_or_ge i a.length with hi | hi
  · rw [List.getElem?_append_left hi] at h; exact .inl ⟨hi, h⟩
  · rw [List.getElem?_append_right hi] at h; exact .inr ⟨hi, h⟩
theorem wpList_recs_append {ops : Array Oper} {rest : List Oper} {o : Oper} {a : Act} {w : World} {Q : Exit → Act → World → Prop} (hgd : o.guard = none) (s x : Operand) (ho : o.op = .call { callee := .builtin .append, args := #[s, x], argTypes := #[96, 96] }) (w0 : World) (base b2 : Nat) (v : Value) (rs rs2 : List (List Int)) (hs : a.eval s = v) (hv : RecsK w0 w base v rs)
    (A : Option Addr) (c : Nat) (hx : a.eval x = .slice A rs2.length c) (hr : RecsK w0 w b2 (.slice A rs2.length c) rs2) (hl : rs.length + rs2.length ≤ 1000000) (hbase : base ≤ w.heap.size) (h0 : w0.heap.size ≤ base)
    (h : ∀ v' w', RecsK w0 w' base v' (rs ++ rs2) → ChgT w0 [some 49] w w' → Chg v.ownBlock.toList w w' → wpList Try.prog ops Q rest (a.put o.dst v') w') : wpList Try.prog ops Q (o :: rest) a w := by
  obtain ⟨ip, hi, hz0, hz1, hz2⟩ := info_parts infoBS
  obtain ⟨hs1, h1, h1'⟩ := hv
  obtain ⟨hs2, h2, h2'⟩ := hr
  have len1 : hs1.length = rs.length := by have := h1.1; omega
  have len2 : hs2.length = rs2.length := by have := h2.1; omega
  rcases id h2.2 with ⟨he, hz⟩ | ⟨g, cap, cur, he, hg, hb, _⟩
  · injection he with e1 e2 e3
    subst e1 e3
    obtain rfl := List.length_eq_zero_iff.1 hz
    exact wpList_append_own_none hgd s x 96 ho base 49 ip 1 Try.underlying96 hi v rs.length hs1 hs h1 hx (h _ _ (by rw [List.append_nil]; exact ⟨hs1, h1, h1'⟩) (ChgT.refl _ _ _) (Chg.refl _ _))
  · injection he with e1 e2 e3
    subst e1
    refine wpList_append_own_at _ hgd s x 96 ho base 49 ip _ 1 24 Try.underlying96 hi hz0 hz1 hz2 rfl (by omega) v rs.length hs1 hs h1 ⟨g, 0, none⟩ rs2.length c hs2 hx (by omega) (World.ownsRow.cells (g := g) h2 rfl) (fun u hu => ?_) (by unfold maxLen; omega) (by omega) hbase ?_
    · obtain ⟨i, hi2, rfl⟩ := List.getElem_of_mem hu
      obtain ⟨A', c', e, _⟩ := h2' i _ (rs2[i]'(by omega)) (List.getElem?_eq_getElem hi2) (List.getElem?_eq_getElem (by omega))
      rw [e]
      rfl
    · intro v' X hown hgr _ _
      have hC : Chg v.ownBlock.toList w X := Chg.grown (Chg.refl _ _) hgr (by intro k hk; rw [hk]; simp)
      have hT := own_chgT h1 h0 hC
      refine h v' X ⟨hs1 ++ hs2, by rw [List.length_append]; exact hown, fun i u r hu hr => ?_⟩ hT hC
      rcases get_app len1 hu with ⟨i1, i2⟩ | ⟨i1, i2⟩
      · rcases get_app rfl hr with ⟨j1, j2⟩ | ⟨j1, j2⟩
        · exact (h1' i u r i2 j2).kept hT (by decide)
        · omega
      · rcases get_app rfl hr with ⟨j1, j2⟩ | ⟨j1, j2⟩
        · omega
        · exact (h2' _ u r i2 j2).kept hT (by decide)
/-- A table: rows of rows. -/
def TabK (w0 w : World) (base : Nat) (v : Value) (ms : List (List (List Int))) : Prop :=
  ∃ hs : List Value, w.ownsRow base 96 1 v ms.length hs ∧ ∀ (i : Nat) h m, hs[i]? = some h → ms[i]? = some m → RecsK w0 w 0 h m
theorem TabK.nil (w0 w : World) (base : Nat) : TabK w0 w base (.slice none 0 0) [] := ⟨[], World.ownsRow_nil _ _ _ _, fun i h r hh => by simp at hh⟩
theorem TabK.slice {w0 w : World} {base : Nat} {v : Value} {ms : List (List (List Int))} (h : TabK w0 w base v ms) : ∃ A c, v = .slice A ms.length c := by
  obtain ⟨hs, h1, _⟩ := h
  exact own_slice h1
theorem TabK.kept {w0 w w' : World} {base : Nat} {v : Value} {ms : List (List (List Int))} (h : TabK w0 w base v ms) {T : List (Option TypeId)} (hc : ChgT w0 T w w') (h1 : some 5 ∉ T) (h2 : some 49 ∉ T) (h5 : some 96 ∉ T) : TabK w0 w' base v ms := by
  obtain ⟨hs, h3, h4⟩ := h
  exact ⟨hs, hc.own h3 h5, fun i h r hh hr => (h4 i h r hh hr).kept hc h1 h2⟩
theorem TabK.at {w0 w : World} {base : Nat} {A : Option Addr} {c : Nat} {ms : List (List (List Int))} (h : TabK w0 w base (.slice A ms.length c) ms) {i : Nat} (hi : i < ms.length) : ∃ g v, A = some ⟨g, 0, none⟩ ∧ w.cell? ⟨g, i, none⟩ = some v ∧ RecsK w0 w 0 v (ms.getD i []) := by
  obtain ⟨hs, h1, h2⟩ := h
  have hlen : hs.length = ms.length := by have := h1.1; omega
  rcases id h1.2 with ⟨he, hz⟩ | ⟨g, c', cur, he, _⟩
  · omega
  · injection he with e1 e2 e3
    subst e1 e3
    obtain ⟨hv, e⟩ : ∃ hv, hs[i]? = some hv := ⟨hs[i], List.getElem?_eq_getElem (by omega)⟩
    refine ⟨g, hv, rfl, ?_, h2 i hv _ e ?_⟩
    · have := World.ownsRow.cells (g := g) h1 rfl i hv e
      rwa [Addr.add_mid, Nat.zero_add] at this
    · rw [List.getD_eq_getElem?_getD, List.getElem?_eq_getElem hi]; rfl
theorem RecsK.base {w0 w : World} {base base' : Nat} {v : Value} {rs : List (List Int)} (h : RecsK w0 w base v rs) (hb : base' ≤ base) : RecsK w0 w base' v rs := by
  obtain ⟨hs, h3, h4⟩ := h
  refine ⟨hs, ⟨h3.1, ?_⟩, h4⟩
  rcases h3.2 with h0 | ⟨g, cap, cur, rfl, hg, hh, r⟩
  · exact .inl h0
  · exact .inr ⟨g, cap, cur, rfl, Nat.le_trans hb hg, hh, r⟩
theorem wpList_tab_push {ops : Array Oper} {rest : List Oper} {o : Oper} {a : Act} {w : World} {Q : Exit → Act → World → Prop} (hgd : o.guard = none) (s x : Operand) (ho : o.op = .call { callee := .builtin .append, args := #[s, x], argTypes := #[104, 104] }) (w0 : World) (base : Nat) (v : Value) (ms : List (List (List Int))) (hs : a.eval s = v) (hv : TabK w0 w base v ms)
    (g : Nat) (u : Value) (m : List (List Int)) (hx : a.eval x = .slice (some ⟨g, 0, none⟩) 1 1) (hg : w.cell? ⟨g, 0, none⟩ = some u) (hu : RecsK w0 w 0 u m) (hl : ms.length ≤ 1000000) (hbase : base ≤ w.heap.size) (h0 : w0.heap.size ≤ base)
    (h : ∀ v' w', TabK w0 w' base v' (ms ++ [m]) → ChgT w0 [some 96] w w' → Chg v.ownBlock.toList w w' → (v'.ownBlock = v.ownBlock ∨ v'.ownBlock = some w.heap.size) → wpList Try.prog ops Q rest (a.put o.dst v') w') : wpList Try.prog ops Q (o :: rest) a w := by
  obtain ⟨ip, hi, hz0, hz1, hz2⟩ := info_parts infoBSS
  obtain ⟨hs1, h1, h1'⟩ := hv
  have len1 : hs1.length = ms.length := by have := h1.1; omega
  refine wpList_append_own_at _ hgd s x 104 ho base 96 ip _ 1 24 Try.underlying104 hi hz0 hz1 hz2 rfl (by omega) v ms.length hs1 hs h1 ⟨g, 0, none⟩ 1 1 [u] hx rfl (fun j y hy => ?_) (fun y hy => ?_) (by unfold maxLen; omega) (by omega) hbase ?_
  · have hj : j = 0 := by have := (List.getElem?_eq_some_iff.1 hy).1; simp at this; omega
    subst hj
    simp at hy
    subst hy
    rw [Addr.add_mid]
    exact hg
  · simp at hy
    subst hy
    obtain ⟨A', c', e⟩ := hu.slice
    rw [e]
    rfl
  · intro v' X hown hgr _ hat
    have hC : Chg v.ownBlock.toList w X := Chg.grown (Chg.refl _ _) hgr (by intro k hk; rw [hk]; simp)
    have hT := own_chgT h1 h0 hC
    refine h v' X ⟨hs1 ++ [u], by rw [List.length_append]; exact hown, fun i y r hy hr => ?_⟩ hT hC hat
    rcases get_app len1 hy with ⟨i1, i2⟩ | ⟨i1, i2⟩
    · rcases get_app rfl hr with ⟨j1, j2⟩ | ⟨j1, j2⟩
      · exact (h1' i y r i2 j2).kept hT (by decide) (by decide)
      · omega
    · rcases get_app rfl hr with ⟨j1, j2⟩ | ⟨j1, j2⟩
      · omega
      · have e : i - ms.length = 0 := by have := (List.getElem?_eq_some_iff.1 i2).1; simp at this; omega
        rw [e] at i2 j2
        simp at i2 j2
        subst i2 j2
        exact hu.kept hT (by decide) (by decide)
end Go.Proofs.Ytipijkpjmpejlaa
