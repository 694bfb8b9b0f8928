import Derived.Test.YtipijkpjmpejlaaPgV
import Derived.Test.YtipijkpjmpejlaaPgZ3
/- Rows of bytes that are left alone, and tables of such rows. -/
set_option linter.unusedVariables false
set_option linter.unusedSimpArgs false
namespace Go.Proofs.Ytipijkpjmpejlaa
open Go.RowKit
theorem conv_bytes {W : World} {A : Option Addr} {c : Nat} {bs : List Int} (hB : BytesAt W A bs) (hn : A = none → bs = [] ∧ c = 0) : (convert 49 9 (.slice A bs.length c)).run Try.prog W = .ok (.string (strOfNums bs)) W := by
  cases A with
  | none =>
    obtain ⟨rfl, rfl⟩ := hn rfl
    exact run_convert_bytes_nil W 49 5 Try.underlying49 Try.underlying5 0 0 9 Try.underlying9
  | some ad =>
    have hl : (loadCells ad bs.length).run Try.prog W = .ok (bs.map (Value.int .u8)).toArray W := by
      have := run_loadCells_list (P := Try.prog) W ad (bs.map (Value.int .u8)) (fun j v hj => by
        have hp : 0 < bs.length := by
          have := (List.getElem?_eq_some_iff.1 hj).1
          simp at this; omega
        obtain ⟨ad', e, _, hc⟩ := hB hp
        cases e
        exact hc j v hj)
      simpa using this
    rw [run_convert_bytes_string W 49 9 5 _ bs.length c Try.underlying49 Try.underlying5 Try.underlying9, run_bytesToString W _ bs.length c bs hl, foldl_push_bytes]
    simp [strOfNums, ByteArray.empty, ByteArray.emptyWithCapacity]
    rfl
/-- Bytes that are left alone, by their head. -/
def BK (w0 w : World) (h : Value) (r : List Int) : Prop := ∃ A c, h = .slice A r.length c ∧ BytesK w0 w A r ∧ (A = none → r = [] ∧ c = 0)
theorem BK.kept {w0 w w' : World} {h : Value} {r : List Int} (k : BK w0 w h r) {T : List (Option TypeId)} (hc : ChgT w0 T w w') (h1 : some 5 ∉ T) : BK w0 w' h r := by
  obtain ⟨A, c, e, hb, hn⟩ := k
  exact ⟨A, c, e, hb.kept hc h1, hn⟩
theorem BK.row {w0 w : World} {base : Nat} {h : Value} {r : List Int} (k : RowB w base h r) : BK w0 w h r := by
  obtain ⟨A, c, rfl⟩ := k.slice
  refine ⟨A, c, rfl, BytesK.row k, fun e => ?_⟩
  subst e
  exact k.none
def RecsK (w0 w : World) (base : Nat) (v : Value) (rs : List (List Int)) : Prop :=
  ∃ hs : List Value, w.ownsRow base 49 1 v rs.length hs ∧ ∀ (i : Nat) h r, hs[i]? = some h → rs[i]? = some r → BK w0 w h r
theorem RecsK.slice {w0 w : World} {base : Nat} {v : Value} {rs : List (List Int)} (h : RecsK w0 w base v rs) : ∃ A c, v = .slice A rs.length c := by
  obtain ⟨hs, h1, _⟩ := h
  exact own_slice h1
theorem RecsK.kept {w0 w w' : World} {base : Nat} {v : Value} {rs : List (List Int)} (h : RecsK w0 w base v rs) {T : List (Option TypeId)} (hc : ChgT w0 T w w') (h1 : some 5 ∉ T) (h2 : some 49 ∉ T) : RecsK w0 w' base v rs := by
  obtain ⟨hs, h3, h4⟩ := h
  exact ⟨hs, hc.own h3 h2, fun i h r hh hr => (h4 i h r hh hr).kept hc h1⟩
theorem RecsK.kept0 {w0 w w' : World} {base : Nat} {v : Value} {rs : List (List Int)} (h : RecsK w0 w base v rs) (hc : Chg [] w w') : RecsK w0 w' base v rs := h.kept (T := []) (ChgT.of_nil hc) (by simp) (by simp)
theorem RecsA.toK {w w0 : World} {base : Nat} {v : Value} {rs : List (List Int)} (h : RecsA w base v rs) : RecsK w0 w base v rs := by
  obtain ⟨hs, h3, h4⟩ := h
  exact ⟨hs, h3, fun i h r hh hr => BK.row (h4 i h r hh hr)⟩
theorem RecsK.at {w0 w : World} {base : Nat} {A : Option Addr} {c : Nat} {rs : List (List Int)} (h : RecsK w0 w base (.slice A rs.length c) rs) {i : Nat} (hi : i < rs.length) : ∃ g v, A = some ⟨g, 0, none⟩ ∧ w.cell? ⟨g, i, none⟩ = some v ∧ BK w0 w v (rs.getD i []) := by
  obtain ⟨hs, h1, h2⟩ := h
  have hlen : hs.length = rs.length := by have := h1.1; omega
  rcases id h1.2 with ⟨he, hz⟩ | ⟨g, c', cur, he, _⟩
  · omega
  · injection he with e1 e2 e3
    subst e1 e3
    obtain ⟨hv, e⟩ : ∃ hv, hs[i]? = some hv := ⟨hs[i], List.getElem?_eq_getElem (by omega)⟩
    refine ⟨g, hv, rfl, ?_, h2 i hv _ e ?_⟩
    · have := World.ownsRow.cells (g := g) h1 rfl i hv e
      rwa [Addr.add_mid, Nat.zero_add] at this
    · rw [List.getD_eq_getElem?_getD, List.getElem?_eq_getElem hi]; rfl
end Go.Proofs.Ytipijkpjmpejlaa
