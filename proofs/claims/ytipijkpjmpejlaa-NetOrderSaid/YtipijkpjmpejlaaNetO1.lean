import Derived.Test.YtipijkpjmpejlaaNetW
import Derived.Test.YtipijkpjmpejlaaOpen
/- Rows of ints that a call owns; what NetOrder keeps. -/
set_option linter.unusedVariables false
set_option linter.unusedSimpArgs false
namespace Go.Proofs.Ytipijkpjmpejlaa
open Go.RowKit
theorem infoInt : (Try.prog.info? 3).map (fun i => (i.zero, i.size, i.bytes)) = some (some (.int .i64 0), 1, 8) := by kernel_rfl
/-- Ints in a slice that came in. -/
def IntsAt (w : World) (A : Option Addr) (xs : List Int) : Prop := ∀ i (h : i < xs.length), ∃ B o, A = some ⟨B, o, none⟩ ∧ w.cell? ⟨B, o + i, none⟩ = some (.int .i64 xs[i])
theorem IntsAt.kept {w w' : World} {A : Option Addr} {xs : List Int} (h : IntsAt w A xs) (hc : Chg [] w w') : IntsAt w' A xs := fun i hi => by
  obtain ⟨B, o, e, h1⟩ := h i hi
  exact ⟨B, o, e, hc.cell h1 (by simp)⟩
theorem ints_of {H : Type} {enc : TypeId × Value → H} {w : World} {base : Nat} {sp : Nat → Bool} {held : Bool} {A : Option Addr} {n c : Nat} {d : DataW H} {p : List MemPlace} (h : DataW.Trod enc Try.prog w base sp held 73 (.slice A n c) d p) :
    ∃ xs : List Int, xs.length = n ∧ n ≤ 9223372036854775807 ∧ IntsAt w A xs := by
  obtain ⟨fuel, hf⟩ := h
  have c1 : Try.prog.cellsOf 3 = 1 := by kernel_rfl
  obtain ⟨A', n', c', m, hcs, hnc, hcm, _, hA, hel⟩ := trod_slice' Try.underlying73 (by rw [c1]; omega) hf
  simp [Value.cells] at hcs
  obtain ⟨rfl, rfl, rfl⟩ := hcs
  unfold maxLen at hcm
  have hb : ∀ i, i < n → ∃ v, ∃ B o, A = some ⟨B, o, none⟩ ∧ w.cell? ⟨B, o + i, none⟩ = some (.int .i64 v) := by
    intro i hi
    obtain ⟨B, o, es, y, hA, hl, hr, ht⟩ := hel i hi
    obtain ⟨v, rfl, _⟩ := trod_int Try.underlying3 ht
    rw [c1, Nat.mul_one] at hr
    exact ⟨v, B, o, hA, hr 0 _ rfl⟩
  let f : Nat → Int := fun i => if h : i < n then (hb i h).choose else 0
  have hf : ∀ i, i < n → ∃ B o, A = some ⟨B, o, none⟩ ∧ w.cell? ⟨B, o + i, none⟩ = some (.int .i64 (f i)) := by
    intro i hi
    have := (hb i hi).choose_spec
    simpa [f, hi] using this
  refine ⟨(List.range n).map f, by simp, by omega, fun i hi => ?_⟩
  simp at hi
  obtain ⟨B, o, e, h1⟩ := hf i hi
  exact ⟨B, o, e, by simpa using h1⟩
/-- A row of ints of the call's own. -/
def RowI (w : World) (base : Nat) (v : Value) (xs : List Int) : Prop := w.ownsRow base 3 1 v xs.length (xs.map (Value.int .i64))
theorem RowI.nil (w : World) (base : Nat) : RowI w base (.slice none 0 0) [] := World.ownsRow_nil _ _ _ _
theorem RowI.slice {w : World} {base : Nat} {v : Value} {xs : List Int} (h : RowI w base v xs) : ∃ A c, v = .slice A xs.length c := own_slice h
theorem RowI.kept {w w' : World} {base : Nat} {v : Value} {xs : List Int} {l : List Nat} (h : RowI w base v xs) (hc : Chg l w w') (hl : ∀ b, v.ownBlock = some b → b ∉ l) : RowI w' base v xs := own_kept h hc hl
theorem RowI.own {w : World} {base : Nat} {v : Value} {xs : List Int} (h : RowI w base v xs) : ∀ b, v.ownBlock = some b → base ≤ b ∧ b < w.heap.size := World.ownsRow.lt h
theorem RowI.block {w : World} {base : Nat} {v : Value} {xs : List Int} (h : RowI w base v xs) (h0 : 0 < xs.length) : ∃ g c, v = .slice (some ⟨g, 0, none⟩) xs.length c ∧ xs.length ≤ c ∧ c ≤ maxLen ∧ ∀ i (hi : i < xs.length), w.cell? ⟨g, i, none⟩ = some (.int .i64 xs[i]) := by
  rcases h.2 with ⟨rfl, hz⟩ | ⟨g, c, cur, rfl, hb, hg, h1, h2, h3, h4⟩
  · omega
  · refine ⟨g, c, rfl, h1, h2, fun i hi => ?_⟩
    have := World.ownsRow.cells (g := g) h rfl i (.int .i64 xs[i]) (by rw [List.getElem?_map, List.getElem?_eq_getElem hi]; rfl)
    rwa [Addr.add_mid, Nat.zero_add] at this
theorem RowI.at {w : World} {base n : Nat} {v : Value} {xs : List Int} (h : RowI w base v xs) (hn : xs.length = n) : w.ownsRow base 3 1 v n (xs.map (Value.int .i64)) := by subst hn; exact h
theorem RowI.mk {w : World} {base n : Nat} {v : Value} {xs : List Int} {ys : List Value} (h : w.ownsRow base 3 1 v n ys) (hn : xs.length = n) (hy : ys = xs.map (Value.int .i64)) : RowI w base v xs := by subst hn hy; exact h
theorem cells_news {w : World} {g : Nat} {ys : List Int} (h : ∀ i (hi : i < ys.length), w.cell? ⟨g, i, none⟩ = some (.int .i64 ys[i])) (a : Nat) : ∀ (b : Nat) j u, (((ys.drop a).take b).map (Value.int .i64))[j]? = some u → w.cell? ((⟨g, a, none⟩ : Addr).add j) = some u := by
  intro b j u hu
  rw [List.getElem?_map, List.getElem?_take] at hu
  split at hu
  · rw [List.getElem?_drop] at hu
    cases hy : ys[a + j]? with
    | none => rw [hy] at hu; cases hu
    | some y =>
      rw [hy] at hu
      obtain ⟨hi, rfl⟩ := List.getElem?_eq_some_iff.1 hy
      rw [Addr.add_mid, h (a + j) hi]
      exact hu
  · cases hu
theorem cells_rest {w : World} {g k cy : Nat} {ys : List Int} {pt : Addr} (h : ∀ i (hi : i < ys.length), w.cell? ⟨g, i, none⟩ = some (.int .i64 ys[i])) (hle : ys.length ≤ cy) (hpt : (if cy = k + 1 then (some ⟨g, 0, none⟩ : Option Addr) else some ⟨g, k + 1, none⟩) = some pt) : ∀ j u, ((ys.drop (k + 1)).map (Value.int .i64))[j]? = some u → w.cell? (pt.add j) = some u := by
  intro j u hu
  have hj := (List.getElem?_eq_some_iff.1 hu).1
  simp at hj
  rw [if_neg (by omega)] at hpt
  injection hpt with hpt
  subst hpt
  refine cells_news h (k + 1) ys.length j u ?_
  rwa [List.take_of_length_le (by simp)]
theorem ints_one {xs : List Int} : ∀ u ∈ xs.map (Value.int .i64), u.oneCell' = true := by
  intro u hu
  obtain ⟨x, _, rfl⟩ := List.mem_map.1 hu
  rfl
/-- What the law keeps: a net whose messages bear the row's numbers. -/
def numsOf (l : List (Msg × Bool)) : List Int := l.map fun x => x.1.number
structure Ord2 (w0 w : World) (g : Nat) (l : List (Msg × Bool)) (v : Value) (xs : List Int) : Prop where
  net : NetAt w0 w g l v.ownBlock.toList
  row : RowI w w0.heap.size v xs
  nums : numsOf l = xs
theorem Ord2.len {w0 w : World} {g : Nat} {l : List (Msg × Bool)} {v : Value} {xs : List Int} (h : Ord2 w0 w g l v xs) : l.length = xs.length := by rw [← h.nums]; simp [numsOf]
theorem Ord2.act {w0 w w' : World} {g : Nat} {l l' : List (Msg × Bool)} {v : Value} {xs : List Int} (h : Ord2 w0 w g l v xs) (ha : ActAt w0 w w' g l' v.ownBlock.toList) (hn : numsOf l' = xs) : Ord2 w0 w' g l' v xs := by
  obtain ⟨h1, cl, h2, h3⟩ := ha
  exact ⟨h1, h.row.kept h2 (fun b hb hm => h3 b hm (by rw [hb]; simp)), hn⟩
theorem nums_hold (l : List (Msg × Bool)) (k : Int) : numsOf (holdL l k) = numsOf l := by
  unfold holdL numsOf
  split
  · apply List.ext_getElem?
    intro i
    rw [List.getElem?_map, List.getElem?_modify, List.getElem?_map]
    cases l[i]? with
    | none => rfl
    | some x => simp; split <;> rfl
  · rfl
theorem nums_erase (l : List (Msg × Bool)) (k : Nat) : numsOf (l.eraseIdx k) = (numsOf l).eraseIdx k := by
  unfold numsOf
  rw [List.eraseIdx_eq_take_drop_succ, List.eraseIdx_eq_take_drop_succ, List.map_append, List.map_take, List.map_drop]
theorem nums_clr (l : List (Msg × Bool)) : numsOf (l.map clr) = numsOf l := by simp [numsOf, clr]
theorem nums_at {l : List (Msg × Bool)} {xs : List Int} (h : numsOf l = xs) {k : Nat} {x : Msg × Bool} (hx : l[k]? = some x) : xs[k]? = some x.1.number := by
  rw [← h, numsOf, List.getElem?_map, hx]; rfl
/-- An append to a row: the net stands. -/
theorem NetAt.appended {w0 Y Z : World} {g : Nat} {l : List (Msg × Bool)} {u v' : Value} {X : List Nat} (h : NetAt w0 Y g l (u.ownBlock.toList ++ X)) (hu : ∀ b, u.ownBlock = some b → w0.heap.size ≤ b) (hgr : Y.grownBy Z u.ownBlock)
    (hat : v'.ownBlock = u.ownBlock ∨ v'.ownBlock = some Y.heap.size) (hv : ∀ b, v'.ownBlock = some b → b < Z.heap.size) : NetAt w0 Z g l (v'.ownBlock.toList ++ X) := by
  obtain ⟨N, h1, h2, h3, h4⟩ := h
  have hc : Chg u.ownBlock.toList Y Z := Chg.grown (Chg.refl _ _) hgr (by intro k hk; rw [hk]; simp)
  have hlow : ∀ b, N b → b < Y.heap.size := fun b hb => by obtain ⟨v, css, h⟩ := h1; exact h.low b hb
  refine ⟨N, h1.kept hc (fun b hb hm => (h2 b hb).2 (by simp at hm ⊢; exact .inl hm)), fun b hb => ⟨(h2 b hb).1, fun hm => ?_⟩, h3.andThen hc (fun i hi => .inr (hu i (by simpa using hi))), fun b hb => ?_⟩
  · have h5 := (h2 b hb).2
    have h6 := hlow b hb
    simp at hm h5
    rcases hm with hm | hm
    · rcases hat with e | e
      · rw [e] at hm; exact h5.1 hm
      · rw [e] at hm; injection hm with hm; omega
    · exact h5.2 hm
  · simp at hb
    rcases hb with hb | hb
    · exact hv b hb
    · exact Nat.lt_of_lt_of_le (h4 b (by simp; exact .inr hb)) hc.size
/-- One number more in the row, one message more in the net. -/
theorem Ord2.push {w0 W2 Z : World} {g : Nat} {l : List (Msg × Bool)} {v v' : Value} {xs : List Int} {m : Msg} {x : Int} {o : Obj} (hN : NetAt w0 W2 g (l ++ [(m, false)]) v.ownBlock.toList) (hR : RowI W2 w0.heap.size v xs) (hn : numsOf l = xs) (hm : m.number = x)
    (hown : Z.ownsRow w0.heap.size 3 1 v' (xs.length + 1) (xs.map (Value.int .i64) ++ [.int .i64 x])) (hgr : (W2.alloc o).grownBy Z v.ownBlock) (hat : v'.ownBlock = v.ownBlock ∨ v'.ownBlock = some (W2.alloc o).heap.size) : Ord2 w0 Z g (l ++ [(m, false)]) v' (xs ++ [x]) := by
  have hR2 : RowI Z w0.heap.size v' (xs ++ [x]) := RowI.mk hown (by simp) (by simp)
  refine ⟨?_, hR2, by rw [← hn, ← hm]; simp [numsOf]⟩
  have := NetAt.appended (X := []) (u := v) (v' := v') (by rw [List.append_nil]; exact hN.step0 ((Chg.refl _ _).alloc o)) (fun b hb => (hR.own b hb).1) hgr hat (fun b hb => (hR2.own b hb).2)
  rwa [List.append_nil] at this
theorem NetAt.sub {w0 w : World} {g : Nat} {l : List (Msg × Bool)} {X X' : List Nat} (h : NetAt w0 w g l X) (hs : ∀ b ∈ X', b ∈ X) : NetAt w0 w g l X' := by
  obtain ⟨N, h1, h2, h3, h4⟩ := h
  exact ⟨N, h1, fun b hb => ⟨(h2 b hb).1, fun hm => (h2 b hb).2 (hs b hm)⟩, h3, fun b hb => h4 b (hs b hb)⟩
/-- One message is taken out, and its number. -/
theorem Ord2.erase {w0 X Z Z2 : World} {g gl n1 n2 k : Nat} {l : List (Msg × Bool)} {v1 v2 : Value} {ys : List Int} (hN : NetAt w0 X g l [gl]) (hn : numsOf l = ys.eraseIdx k) (hk : k < ys.length)
    (hown1 : Z.ownsRow w0.heap.size 3 1 v1 n1 ([] ++ ((ys.drop 0).take k).map (Value.int .i64))) (hgr1 : X.grownBy Z (Value.slice none 0 0).ownBlock) (hat1 : v1.ownBlock = (Value.slice none 0 0).ownBlock ∨ v1.ownBlock = some X.heap.size)
    (hown2 : Z2.ownsRow w0.heap.size 3 1 v2 n2 (([] ++ ((ys.drop 0).take k).map (Value.int .i64)) ++ (ys.drop (k + 1)).map (Value.int .i64))) (hgr2 : Z.grownBy Z2 v1.ownBlock) (hat2 : v2.ownBlock = v1.ownBlock ∨ v2.ownBlock = some Z.heap.size) : Ord2 w0 Z2 g l v2 (ys.eraseIdx k) := by
  have e : (([] ++ ((ys.drop 0).take k).map (Value.int .i64)) ++ (ys.drop (k + 1)).map (Value.int .i64)) = (ys.eraseIdx k).map (Value.int .i64) := by
    rw [List.eraseIdx_eq_take_drop_succ]; simp
  have hn2 : (ys.eraseIdx k).length = n2 := by
    have := hown2.1
    rw [e] at this
    simpa using this
  have hR2 : RowI Z2 w0.heap.size v2 (ys.eraseIdx k) := RowI.mk hown2 hn2 e
  have a1 := NetAt.appended (X := [gl]) (u := .slice none 0 0) (v' := v1) hN (fun b hb => by cases hb) hgr1 hat1 (fun b hb => (World.ownsRow.lt hown1 b hb).2)
  have a2 := NetAt.appended (X := [gl]) (u := v1) (v' := v2) a1 (fun b hb => (World.ownsRow.lt hown1 b hb).1) hgr2 hat2 (fun b hb => (hR2.own b hb).2)
  exact ⟨a2.sub (fun b hb => by simp at hb ⊢; exact .inl hb), hR2, hn⟩
theorem firstAt_clr (l : List (Msg × Bool)) : firstAt (l.map clr) 0 = (0, decide (0 < l.length)) := by
  cases l with
  | nil => rfl
  | cons x l => simp [firstAt, clr]
end Go.Proofs.Ytipijkpjmpejlaa
