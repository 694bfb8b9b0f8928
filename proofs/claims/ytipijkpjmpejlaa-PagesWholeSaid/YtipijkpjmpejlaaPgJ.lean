import Derived.Test.YtipijkpjmpejlaaPgI
/- What a disk's sectors say: an image, told plainly; records in memory. -/
set_option linter.unusedVariables false
set_option linter.unusedSimpArgs false
namespace Go.Proofs.Ytipijkpjmpejlaa
open Go.RowKit
structure Img where
  gen : Int
  half : Int
  boot : Int
  recs : List (List Int)
deriving DecidableEq
def Img.zero : Img := ⟨0, 0, 0, []⟩
/-- The sector of a half behind so many. -/
def sct (S : Int → List Int) (half : Int) (used i : Nat) : List Int := S (1 + half * 1024 + used + i)
def partOk (S : Int → List Int) (g half boot n : Int) (k used i : Nat) : Bool := decide (used + i < 1024) && nums5 (sct S half used i) == [g % 4294967296, boot, ((k : Int) + 1) % 4294967296, (i : Int), n]
def loads (S : Int → List Int) (half : Int) (used m : Nat) : List Int := (List.range m).flatMap fun i => (sct S half used i).drop 20
/-- The record that begins at a sector: its parts, its boot, its bytes. -/
def recAt (S : Int → List Int) (g half most last : Int) (k used : Nat) : Option (Nat × Int × List Int) :=
  let boot := num4 (sct S half used 0) 1
  let n := num4 (sct S half used 0) 4
  if 1024 ≤ used ∨ boot < last ∨ most < boot ∨ n < 1 ∨ 745 < n then none
  else if ((List.range n.toNat).all fun i => partOk S g half boot n k used i) && partsN (numTo (loads S half used n.toNat) 0 4) == n then
    some (n.toNat, boot, ((loads S half used n.toNat).drop 4).take (numTo (loads S half used n.toNat) 0 4).toNat)
  else none
def scan (S : Int → List Int) (g half most : Int) : Nat → Int → Nat → List (List Int) → List (List Int) × Nat
  | 0, _, used, rs => (rs, used)
  | f + 1, last, used, rs => match recAt S g half most last rs.length used with
    | none => (rs, used)
    | some (n, boot, r) => scan S g half most f boot (used + n) (rs ++ [r])
/-- What the sectors say, where they are read. -/
def imageS (S : Int → List Int) : Img × Nat × Int :=
  let g := num8 (S 0) 0
  let h := num8 (S 0) 8
  let b := num8 (S 0) 16
  if g = 0 ∧ h = 0 ∧ b = 0 then (Img.zero, 0, 0)
  else if g < 1 ∨ b < 1 ∨ h < 0 ∨ 1 < h then (Img.zero, 0, 170)
  else (⟨g, h, b, (scan S g h (b % 4294967296) 1025 1 0 []).1⟩, (scan S g h (b % 4294967296) 1025 1 0 []).2, 0)
def imageOf (D : DS) : Img × Nat × Int := if D.down then (Img.zero, 0, 5) else imageS (secOf D.L)
theorem recAt_facts {S : Int → List Int} {g half most last : Int} {k used n : Nat} {boot : Int} {r : List Int} (h : recAt S g half most last k used = some (n, boot, r)) :
    used < 1024 ∧ last ≤ boot ∧ boot ≤ most ∧ 1 ≤ n ∧ n ≤ 745 ∧ used + n ≤ 1024 := by
  unfold recAt at h
  dsimp only at h
  split at h
  · cases h
  · rename_i h1
    split at h
    · rename_i h2
      simp only [Option.some.injEq, Prod.mk.injEq] at h
      obtain ⟨rfl, rfl, rfl⟩ := h
      simp only [Bool.and_eq_true, List.all_eq_true, List.mem_range] at h2
      have h3 := h2.1 ((num4 (sct S half used 0) 4).toNat - 1) (by omega)
      simp only [partOk, Bool.and_eq_true, decide_eq_true_eq] at h3
      omega
    · cases h
theorem loads_succ (S : Int → List Int) (half : Int) (used m : Nat) : loads S half used (m + 1) = loads S half used m ++ (sct S half used m).drop 20 := by
  simp [loads, List.range_succ, List.flatMap_append]
theorem loads_len {S : Int → List Int} (hS : ∀ k, (S k).length = 64) (half : Int) (used : Nat) : ∀ m, (loads S half used m).length = 44 * m
  | 0 => rfl
  | m + 1 => by rw [loads_succ, List.length_append, loads_len hS half used m]; simp [sct, hS]; omega
theorem loads_bytes {S : Int → List Int} (hS : ∀ k, Bytes (S k)) (half : Int) (used : Nat) : ∀ m, Bytes (loads S half used m)
  | 0 => fun x hx => by cases hx
  | m + 1 => by
    rw [loads_succ]
    intro x hx
    rcases List.mem_append.1 hx with h | h
    · exact loads_bytes hS half used m x h
    · exact hS _ x (List.mem_of_mem_drop h)
theorem num4_range {bs : List Int} (h : Bytes bs) (k : Nat) : 0 ≤ num4 bs k ∧ num4 bs k < 4294967296 := numTo_range h (4 * k) 4
/-! ### Records in memory -/
def RecsA (w : World) (base : Nat) (v : Value) (rs : List (List Int)) : Prop :=
  ∃ hs : List Value, w.ownsRow base 49 1 v rs.length hs ∧ ∀ (i : Nat) h r, hs[i]? = some h → rs[i]? = some r → RowB w 0 h r
theorem RecsA.nil (w : World) (base : Nat) : RecsA w base (.slice none 0 0) [] := ⟨[], World.ownsRow_nil _ _ _ _, fun i h r hh => by simp at hh⟩
theorem RecsA.slice {w : World} {base : Nat} {v : Value} {rs : List (List Int)} (h : RecsA w base v rs) : ∃ A c, v = .slice A rs.length c := by
  obtain ⟨hs, h1, _⟩ := h
  exact own_slice h1
theorem RecsA.kept {w w' : World} {base : Nat} {v : Value} {rs : List (List Int)} (h : RecsA w base v rs) {w0 : World} {T : List (Option TypeId)} (hc : ChgT w0 T w w') (h1 : some 5 ∉ T) (h2 : some 49 ∉ T) : RecsA w' base v rs := by
  obtain ⟨hs, h3, h4⟩ := h
  exact ⟨hs, hc.own h3 h2, fun i h r hh hr => hc.own (h4 i h r hh hr) h1⟩
theorem RecsA.kept0 {w w' : World} {base : Nat} {v : Value} {rs : List (List Int)} (h : RecsA w base v rs) (hc : Chg [] w w') : RecsA w' base v rs := h.kept (w0 := w) (T := []) (ChgT.of_nil hc) (by simp) (by simp)
theorem RecsA.base {w : World} {base base' : Nat} {v : Value} {rs : List (List Int)} (h : RecsA w base v rs) (hb : base' ≤ base) : RecsA w base' v rs := by
  obtain ⟨hs, h3, h4⟩ := h
  refine ⟨hs, ⟨h3.1, ?_⟩, h4⟩
  rcases h3.2 with h0 | ⟨g, cap, cur, rfl, hg, hh, r⟩
  · exact .inl h0
  · exact .inr ⟨g, cap, cur, rfl, Nat.le_trans hb hg, hh, r⟩
theorem RowB.base {w : World} {base base' : Nat} {v : Value} {bs : List Int} (h : RowB w base v bs) (hb : base' ≤ base) : RowB w base' v bs := by
  refine ⟨h.1, ?_⟩
  rcases h.2 with h0 | ⟨g, cap, cur, rfl, hg, hh, r⟩
  · exact .inl h0
  · exact .inr ⟨g, cap, cur, rfl, Nat.le_trans hb hg, hh, r⟩
/-- A record more. -/
theorem RecsA.push {w w' : World} {base base' : Nat} {v v' h : Value} {rs : List (List Int)} {r : List Int} {hs : List Value} {l : List Nat} (hrow : w.ownsRow base 49 1 v rs.length hs) (hh : ∀ (i : Nat) h r, hs[i]? = some h → rs[i]? = some r → RowB w 0 h r)
    (hr : RowB w 0 h r) (hw : w'.ownsRow base' 49 1 v' (rs.length + 1) (hs ++ [h])) (hc : Chg l w w') (hl : ∀ k ∈ l, ∀ cs fr, w.heap[k]? ≠ some (.cells cs 5 fr)) : RecsA w' base' v' (rs ++ [r]) := by
  have hk : ∀ u bs, RowB w 0 u bs → RowB w' 0 u bs := fun u bs hu => hu.kept hc (fun b hb hm => by
    rcases hu.2 with ⟨rfl, _⟩ | ⟨g, cap, cur, rfl, hg, hh, r⟩
    · cases hb
    · cases hb; exact hl _ hm _ _ hh)
  refine ⟨hs ++ [h], by simpa using hw, fun i u x hu hx => ?_⟩
  have hlen : hs.length = rs.length := by have := hrow.1; omega
  rcases Nat.lt_or_ge i rs.length with hi | hi
  · rw [List.getElem?_append_left (by omega)] at hu hx
    exact hk _ _ (hh i u x hu hx)
  · rw [List.getElem?_append_right (by omega)] at hu hx
    have : i - rs.length = 0 := by
      have := (List.getElem?_eq_some_iff.1 hx).1
      simp at this; omega
    rw [hlen, this] at hu
    rw [this] at hx
    simp at hu hx
    subst hu hx
    exact hk _ _ hr
/-- A row of byte slices is no row of bytes. -/
theorem own_kind {w : World} {base n : Nat} {e : TypeId} {size : Nat} {v : Value} {xs : List Value} (h : w.ownsRow base e size v n xs) : ∀ k ∈ v.ownBlock.toList, ∀ cs t fr, w.heap[k]? = some (.cells cs t fr) → t = e := fun k hk cs t fr hh => by
  rcases h.2 with ⟨rfl, _⟩ | ⟨g, cap, cur, rfl, hg, hb, r⟩
  · simp [Value.ownBlock] at hk
  · simp [Value.ownBlock] at hk
    subst hk
    rw [hb] at hh; cases hh; rfl
/-- The numbers of a sector's part. -/
theorem nums_list (bs : List Int) : nums5 bs = [num4 bs 0, num4 bs 1, num4 bs 2, num4 bs 3, num4 bs 4] := rfl
end Go.Proofs.Ytipijkpjmpejlaa
