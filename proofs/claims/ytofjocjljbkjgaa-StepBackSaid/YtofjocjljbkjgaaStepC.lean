import Derived.Test.YtofjocjljbkjgaaTreeW2
/- The contracts of the laws' own helpers: great, ids, place. -/
set_option linter.unusedVariables false
set_option linter.unusedSimpArgs false
namespace Go.Proofs.Ytofjocjljbkjgaa
open Go.RowKit
def GreatT (t : Tr) (w : World) (e : Ending) (w' : World) : Prop := ∃ r : Bool, e = .returned (.bool r) ∧ (r = false → t.nodes ≤ 250) ∧ Chg [] w w'
set_option maxHeartbeats 4000000 in
set_option maxRecDepth 100000 in
theorem great_t (t : Tr) (A : Option Addr) (c : Nat) (w : World) (hT : TrC (fun g => g < w.heap.size) w t [.int .i64 (Tr.id t), .int .i64 (Tr.kind t), .string (Tr.text t), .slice A (Tr.kids t).length c]) : Calls Try.prog 14 #[.agg #[.int .i64 (Tr.id t), .int .i64 (Tr.kind t), .string (Tr.text t), .slice A (Tr.kids t).length c]] w (GreatT t w) := by
  have hA : Chg [] w (w.alloc (.cells #[.int .i64 (Tr.id t), .int .i64 (Tr.kind t), .string (Tr.text t), .slice A (Tr.kids t).length c] 24)) := (by with_reducible repeat (first | exact Chg.refl _ _ | apply Chg.alloc | apply Chg.drew | apply Chg.drewN | (refine Chg.setCell ?_ _ _ (by simp))))
  have hc := walkT_any w.heap.size 251 (by omega) t A c (w.alloc (.cells #[.int .i64 (Tr.id t), .int .i64 (Tr.kind t), .string (Tr.text t), .slice A (Tr.kids t).length c] 24)) (hT.kept hA (by simp)) (by simp)
  have HC := Lib.hid (And.intro hc hA)
  clear hc hA hT
  go_enter Try.func14, Try.ntmps14
  go_wp2_with (go_at_call 16; refine HC.out.1.mono ?_; rintro e X ⟨v, rfl, hR, hX⟩
               obtain ⟨A', c', rfl⟩ := hR.slice
               have hlen : ((t.walk 1).take 251).length ≤ 251 := by simp; omega
               have hnodes : ((t.walk 1).take 251).length ≤ 250 → t.nodes ≤ 250 := by rw [List.length_take, Tr.walk_length]; omega
               generalize (t.walk 1).take 251 = l at hR hlen hnodes ⊢
               have HX := Lib.hid (And.intro hR (And.intro (HC.out.2.trans hX) hnodes)); clear hR hX hnodes)
  go_loop [4, 10] (fun n i => ∃ (k : Nat) (s : Int), k ≤ l.length ∧ i = .int .i64 k ∧ n = .int .i64 s ∧ 0 ≤ s ∧ s ≤ 20000) (fun _ i => l.length - (intOf i).toNat)
  case atStart => exact ⟨0, 0, Nat.zero_le _, rfl, rfl, by omega, by omega⟩
  case round =>
    obtain ⟨k, s, hk, rfl, rfl, hs0, hs1⟩ := hrel
    by_cases hlt : k < l.length
    · obtain ⟨g, c2, A2, cA, e, _, hT, hr⟩ := HX.out.1.at hlt
      injection e with e1 e2 e3
      subst e1 e3
      have r2 : X.cell? ⟨g, k * 5 + 2, none⟩ = some (.string (l[k]).1.text) := hr 2 _ rfl
      obtain ⟨_, _, _, _, _, ht, _⟩ := hT.opens
      clear hr hT
      by_cases hb : 20000 - s < ((l[k]).1.text.size : Int)
      · have hbb : decide (20000 - s < ((l[k]).1.text.size : Int)) = true := by simpa using hb
        go_wp2
        go_ret
        exact ⟨true, rfl, (fun h => by cases h), HX.out.2.1⟩
      · have hbb : decide (20000 - s < ((l[k]).1.text.size : Int)) = false := by simpa using hb
        go_wp2
        go_round
        case rel => exact ⟨k + 1, s + (l[k]).1.text.size, by omega, by go_num, rfl, by omega, by omega⟩
        case measure => simp [intOf]; omega
    · go_wp2
      go_ret
      exact ⟨decide (250 < (l.length : Int)), rfl, fun h => HX.out.2.2 (by simp at h; omega), HX.out.2.1⟩
/-! ### The ids of a tree -/
/-- The last node of an id. -/
def lastOf (n : Int) : List Tr → Option Tr
  | [] => none
  | x :: l => match lastOf n l with
    | some y => some y
    | none => if x.id = n then some x else none
theorem lastOf_snoc (n : Int) (l : List Tr) (x : Tr) : lastOf n (l ++ [x]) = if x.id = n then some x else lastOf n l := by
  induction l with
  | nil => simp [lastOf]
  | cons y l ih =>
    simp only [List.cons_append, lastOf, ih]
    by_cases h : x.id = n
    · simp [h]
    · simp only [h, if_false]
def IsNode (B : Nat) (w : World) (v : Option Value) (x : Option Tr) : Prop := match x with
  | none => v = none
  | some x => ∃ A c, v = some (.agg #[.int .i64 (Tr.id x), .int .i64 (Tr.kind x), .string (Tr.text x), .slice A (Tr.kids x).length c]) ∧ TrC (fun g => g < B) w x [.int .i64 (Tr.id x), .int .i64 (Tr.kind x), .string (Tr.text x), .slice A (Tr.kids x).length c]
theorem IsNode.kept {B : Nat} {w w' : World} {v : Option Value} {x : Option Tr} {l : List Nat} (h : IsNode B w v x) (hc : Chg l w w') (hl : ∀ g, g < B → g ∉ l) : IsNode B w' v x := by
  cases x with
  | none => exact h
  | some x => obtain ⟨A, c, h1, h2⟩ := h; exact ⟨A, c, h1, h2.kept hc hl⟩
/-- A map from ids to the last nodes of them. -/
def MapT (B : Nat) (w : World) (b : Nat) (l : List Tr) : Prop := ∃ m, MapI w b m ∧ ∀ n, IsNode B w (m n) (lastOf n l)
theorem MapT.kept {B : Nat} {w w' : World} {b : Nat} {ts : List Tr} {l : List Nat} (h : MapT B w b ts) (hc : Chg l w w') (hb : b ∉ l) (hl : ∀ g, g < B → g ∉ l) : MapT B w' b ts := by
  obtain ⟨m, h1, h2⟩ := h; exact ⟨m, h1.kept hc hb, fun n => (h2 n).kept hc hl⟩
set_option maxHeartbeats 4000000 in
set_option maxRecDepth 100000 in
theorem ids_any (t : Tr) (A : Option Addr) (c : Nat) (w : World) (hT : TrC (fun g => g < w.heap.size) w t [.int .i64 (Tr.id t), .int .i64 (Tr.kind t), .string (Tr.text t), .slice A (Tr.kids t).length c]) : Calls Try.prog 15 #[.agg #[.int .i64 (Tr.id t), .int .i64 (Tr.kind t), .string (Tr.text t), .slice A (Tr.kids t).length c]] w fun e w' => ∃ b, e = .returned (.map (some b)) ∧ MapT w.heap.size w' b (((t.walk 1).take 1000).map (·.1)) ∧ w.heap.size ≤ b ∧ Chg [] w w' := by
  have hmm := @run_makeMap Try.prog
  have hA : Chg [] w ((w.alloc (.cells #[.int .i64 (Tr.id t), .int .i64 (Tr.kind t), .string (Tr.text t), .slice A (Tr.kids t).length c] 24)).alloc (.map #[] 0)) := (by with_reducible repeat (first | exact Chg.refl _ _ | apply Chg.alloc | apply Chg.drew | apply Chg.drewN | (refine Chg.setCell ?_ _ _ (by simp))))
  have hM : MapI ((w.alloc (.cells #[.int .i64 (Tr.id t), .int .i64 (Tr.kind t), .string (Tr.text t), .slice A (Tr.kids t).length c] 24)).alloc (.map #[] 0)) (w.heap.size + 1) (fun _ => none) := by have := MapI.made (w.alloc (.cells #[.int .i64 (Tr.id t), .int .i64 (Tr.kind t), .string (Tr.text t), .slice A (Tr.kids t).length c] 24)); simpa using this
  have hc := walkT_any w.heap.size 1000 (by omega) t A c ((w.alloc (.cells #[.int .i64 (Tr.id t), .int .i64 (Tr.kind t), .string (Tr.text t), .slice A (Tr.kids t).length c] 24)).alloc (.map #[] 0)) (hT.kept hA (by simp)) (by simp; omega)
  have HC := Lib.hid (And.intro hc (And.intro hA (And.intro hM hT)))
  clear hc hA hM hT
  go_enter Try.func15, Try.ntmps15
  go_wp2_with (go_at_call 16; refine HC.out.1.mono ?_; rintro e X ⟨v, rfl, hR, hX⟩
               obtain ⟨A', c', rfl⟩ := hR.slice
               obtain ⟨l, HL⟩ : ∃ l, Hid (l = (t.walk 1).take 1000) := ⟨_, rfl⟩
               have hlen : ((t.walk 1).take 1000).length ≤ 1000 := by simp; omega
               rw [← HL.out] at hR hlen ⊢
               have HX := Lib.hid (And.intro hR (And.intro (HC.out.2.1.trans hX) (show MapT w.heap.size X (w.heap.size + 1) [] from ⟨_, HC.out.2.2.1.kept hX (by simp), fun n => rfl⟩))); clear hR hX)
  go_loopw [10] (fun i wr => ∃ k : Nat, k ≤ l.length ∧ i = .int .i64 k ∧ Hid (MapT w.heap.size wr (w.heap.size + 1) ((l.take k).map (·.1)) ∧ RowS wr w.heap.size (w.heap.size + 2) (.slice A' l.length c') l ∧ Chg [] w wr)) (fun i _ => l.length - (intOf i).toNat)
  case atStart => exact ⟨0, Nat.zero_le _, rfl, HX.out.2.2, by have := HX.out.1; simpa using this, HX.out.2.1⟩
  case round =>
    obtain ⟨k, hk, rfl, H⟩ := hrel
    clear HX HC
    by_cases hlt : k < l.length
    · obtain ⟨g, c2, A2, cA, e, _, hT, hr⟩ := H.out.2.1.at hlt
      injection e with e1 e2 e3
      subst e1 e3
      obtain ⟨m, hM, hv⟩ := H.out.1
      have hsz : w.heap.size + 1 < wr.heap.size := by
        have := hM.lt; omega
      have HR := Lib.hid (And.intro hr (And.intro hT hv))
      have hMm := hM
      have HM := Lib.hid hM
      clear hr hT hv hM hMm
      have hCx : Chg [] wr (wr.alloc (.cells #[.int .i64 (l[k]).1.id, .int .i64 (l[k]).1.kind, .string (l[k]).1.text, .slice A2 (l[k]).1.kids.length cA, .int .i64 (l[k]).2] 95)) := (by with_reducible repeat (first | exact Chg.refl _ _ | apply Chg.alloc | apply Chg.drew | apply Chg.drewN | (refine Chg.setCell ?_ _ _ (by simp))))
      have HCx := Lib.hid hCx
      clear hCx
      go_wp2_with (first
        | (refine wpList_load_mid rfl 95 (.tmp 12) rfl g (k * 5) rfl _ _ HR.out.1 Try.underlying95 rfl szSpot ?_)
        | (refine wpList_update_I (T := 29) rfl (.tmp 14) (.tmp 17) (.tmp 19) rfl Try.underlying29 Try.underlying3 (HM.out.kept HCx.out (by simp)) (l[k]).1.id (.agg #[.int .i64 (l[k]).1.id, .int .i64 (l[k]).1.kind, .string (l[k]).1.text, .slice A2 (l[k]).1.kids.length cA]) rfl rfl rfl ?_
           intro Y hmY hcY hzY
           have HY := Lib.hid (And.intro hmY hcY)
           clear hmY hcY hzY)
        | fail)
      go_roundw
      case rel =>
        have hc1 : Chg [w.heap.size + 1] wr Y := (HCx.out.mono (by simp)).trans HY.out.2
        refine ⟨k + 1, by omega, by go_num, ⟨_, HY.out.1, fun n => ?_⟩, H.out.2.1.kept hc1 (fun b hb => by have := H.out.2.1.own b hb; simp; omega) (fun g hg => by simp; omega), H.out.2.2.andThen hc1 (by simp)⟩
        rw [take_snoc' _ _ hlt, List.map_append, List.map_cons, List.map_nil, lastOf_snoc]
        by_cases hn : (l[k]).1.id = n
        · subst hn
          rw [if_pos rfl, updI_same]
          exact ⟨A2, cA, rfl, HR.out.2.1.kept hc1 (fun g hg => by simp; omega)⟩
        · rw [if_neg hn, updI_other _ _ (fun e => hn e.symm)]
          exact (HR.out.2.2 n).kept hc1 (fun g hg => by simp; omega)
      case measure => simp [intOf]; omega
    · obtain rfl : k = l.length := by omega
      go_wp2
      go_ret
      have h := H.out.1
      rw [List.take_of_length_le (Nat.le_refl _)] at h
      rw [HL.out] at h
      exact ⟨_, rfl, h, by omega, H.out.2.2⟩
/-! ### Where a node stands -/
def kidOf (id : Int) : List Tr → Nat → Option Nat
  | [], _ => none
  | x :: l, n => if x.id = id then some n else kidOf id l (n + 1)
theorem kidOf_none (id : Int) : ∀ (l : List Tr) (n : Nat), (∀ (j : Nat) (h : j < l.length), (l[j]).id ≠ id) → kidOf id l n = none
  | [], _, _ => rfl
  | x :: l, n, h => by
    have h0 := h 0 (by simp)
    rw [kidOf, if_neg (by simpa using h0)]
    exact kidOf_none id l (n + 1) (fun j hj => by have := h (j + 1) (by simpa using hj); simpa using this)
theorem kidOf_some (id : Int) : ∀ (l : List Tr) (n i : Nat) (h : i < l.length), (l[i]).id = id → (∀ (j : Nat) (hj : j < i), (l[j]'(by omega)).id ≠ id) → kidOf id l n = some (n + i)
  | [], _, _, h, _, _ => by simp at h
  | x :: l, n, 0, h, h1, _ => by rw [kidOf, if_pos (by simpa using h1)]; rfl
  | x :: l, n, i + 1, h, h1, h2 => by
    have h0 := h2 0 (by omega)
    rw [kidOf, if_neg (by simpa using h0), kidOf_some id l (n + 1) i (by simpa using h) (by simpa using h1) (fun j hj => by have := h2 (j + 1) (by omega); simpa using this)]
    congr 1; omega
def placeL (id : Int) : List (Tr × Int) → Option (Int × Nat)
  | [] => none
  | x :: l => match kidOf id x.1.kids 0 with
    | some i => some (x.1.id, i)
    | none => placeL id l
theorem placeL_none (id : Int) : ∀ (l : List (Tr × Int)), (∀ (j : Nat) (h : j < l.length), kidOf id (l[j]).1.kids 0 = none) → placeL id l = none
  | [], _ => rfl
  | x :: l, h => by
    have h0 := h 0 (by simp)
    simp at h0
    rw [placeL, h0]
    exact placeL_none id l (fun j hj => by have := h (j + 1) (by simpa using hj); simpa using this)
theorem placeL_some (id : Int) : ∀ (l : List (Tr × Int)) (k i : Nat) (h : k < l.length), kidOf id (l[k]).1.kids 0 = some i → (∀ (j : Nat) (hj : j < k), kidOf id (l[j]'(by omega)).1.kids 0 = none) → placeL id l = some ((l[k]).1.id, i)
  | [], _, _, h, _, _ => by simp at h
  | x :: l, 0, i, h, h1, _ => by simp at h1; rw [placeL, h1]; rfl
  | x :: l, k + 1, i, h, h1, h2 => by
    have h0 := h2 0 (by omega)
    simp at h0
    rw [placeL, h0, placeL_some id l k i (by simpa using h) (by simpa using h1) (fun j hj => by have := h2 (j + 1) (by omega); simpa using this)]
    rfl
def placeV : Option (Int × Nat) → Value
  | none => .tuple #[.int .i64 0, .int .i64 0, .bool false]
  | some (p, i) => .tuple #[.int .i64 p, .int .i64 i, .bool true]
set_option maxHeartbeats 4000000 in
set_option maxRecDepth 100000 in
theorem place_any (t : Tr) (A : Option Addr) (c : Nat) (id : Int) (w : World) (hT : TrC (fun g => g < w.heap.size) w t [.int .i64 (Tr.id t), .int .i64 (Tr.kind t), .string (Tr.text t), .slice A (Tr.kids t).length c]) : Calls Try.prog 18 #[.agg #[.int .i64 (Tr.id t), .int .i64 (Tr.kind t), .string (Tr.text t), .slice A (Tr.kids t).length c], .int .i64 id] w fun e w' => e = .returned (placeV (placeL id ((t.walk 1).take 251))) ∧ Chg [] w w' := by
  have hA : Chg [] w (w.alloc (.cells #[.int .i64 (Tr.id t), .int .i64 (Tr.kind t), .string (Tr.text t), .slice A (Tr.kids t).length c] 24)) := (by with_reducible repeat (first | exact Chg.refl _ _ | apply Chg.alloc | apply Chg.drew | apply Chg.drewN | (refine Chg.setCell ?_ _ _ (by simp))))
  have hc := walkT_any w.heap.size 251 (by omega) t A c (w.alloc (.cells #[.int .i64 (Tr.id t), .int .i64 (Tr.kind t), .string (Tr.text t), .slice A (Tr.kids t).length c] 24)) (hT.kept hA (by simp)) (by simp)
  have HC := Lib.hid (And.intro hc hA)
  clear hc hA hT
  go_enter Try.func18, Try.ntmps18
  go_wp2_with (go_at_call 16; refine HC.out.1.mono ?_; rintro e X ⟨v, rfl, hR, hX⟩
               obtain ⟨A', c', rfl⟩ := hR.slice
               obtain ⟨l, HL⟩ : ∃ l, Hid (l = (t.walk 1).take 251) := ⟨_, rfl⟩
               have hlen : ((t.walk 1).take 251).length ≤ 251 := by simp; omega
               rw [← HL.out] at hR hlen ⊢
               have HX := Lib.hid (And.intro hR (HC.out.2.trans hX)); clear hR hX)
  go_loopw [13] (fun i wr => ∃ k : Nat, k ≤ l.length ∧ i = .int .i64 k ∧ Hid (RowS wr w.heap.size (w.heap.size + 1) (.slice A' l.length c') l ∧ Chg [] w wr ∧ ∀ (j : Nat) (hj : j < k) (hl : j < l.length), kidOf id (l[j]).1.kids 0 = none)) (fun i _ => l.length - (intOf i).toNat)
  case atStart => exact ⟨0, Nat.zero_le _, rfl, by have := HX.out.1; simpa using this, HX.out.2, fun j hj => by omega⟩
  case round =>
    obtain ⟨k, hk, rfl, H⟩ := hrel
    clear HX HC
    by_cases hlt : k < l.length
    · obtain ⟨g, c2, A2, cA, e, _, hT, hr⟩ := H.out.1.at hlt
      injection e with e1 e2 e3
      subst e1 e3
      obtain ⟨A3, c3, hcs, hlc, hcm, htx, hK⟩ := hT.opens
      simp only [List.cons.injEq, Value.slice.injEq, true_and, and_true] at hcs
      obtain ⟨rfl, rfl⟩ := hcs
      have HR := Lib.hid (And.intro hr hK)
      clear hr hT hK
      have hCx : Chg [] wr (wr.alloc (.cells #[.int .i64 (l[k]).1.id, .int .i64 (l[k]).1.kind, .string (l[k]).1.text, .slice A2 (l[k]).1.kids.length cA, .int .i64 (l[k]).2] 95)) := (by with_reducible repeat (first | exact Chg.refl _ _ | apply Chg.alloc | apply Chg.drew | apply Chg.drewN | (refine Chg.setCell ?_ _ _ (by simp))))
      have HCx := Lib.hid hCx
      clear hCx
      go_wp2_with (first
        | (refine wpList_load_mid rfl 95 (.tmp 15) rfl g (k * 5) rfl _ _ HR.out.1 Try.underlying95 rfl szSpot ?_)
        | fail)
      go_loop [21] (fun i => ∃ n : Nat, n ≤ (l[k]).1.kids.length ∧ i = .int .i64 n ∧ Hid (∀ (j : Nat) (hj : j < n) (hl : j < (l[k]).1.kids.length), ((l[k]).1.kids[j]).id ≠ id)) (fun i => (l[k]).1.kids.length - (intOf i).toNat)
      case atStart => exact ⟨0, Nat.zero_le _, rfl, fun j hj => by omega⟩
      case round =>
        obtain ⟨n, hn, rfl, HN⟩ := hrel
        by_cases hlt2 : n < (l[k]).1.kids.length
        · obtain ⟨gk, ok, cs, rfl, _, hrk, hTk⟩ := HR.out.2 n _ (List.getElem?_eq_getElem hlt2)
          obtain ⟨Ak, ck, rfl, _⟩ := hTk.opens
          have k0 : (wr.alloc (.cells #[.int .i64 (l[k]).1.id, .int .i64 (l[k]).1.kind, .string (l[k]).1.text, .slice (some ⟨gk, ok, none⟩) (l[k]).1.kids.length cA, .int .i64 (l[k]).2] 95)).cell? ⟨gk, ok + n * 4, none⟩ = some (.int .i64 ((l[k]).1.kids[n]).id) := HCx.out.cell (hrk 0 _ rfl) (by simp)
          clear hrk hTk
          by_cases hid : ((l[k]).1.kids[n]).id = id
          · have hb : (((l[k]).1.kids[n]).id == id) = true := by simpa using hid
            have HI := Lib.hid hid
            clear hid
            go_wp2
            go_ret3
            have hp : placeL id ((t.walk 1).take 251) = some ((l[k]).1.id, n) := by
              rw [← HL.out]
              exact placeL_some id l k n hlt (by rw [kidOf_some id _ 0 n hlt2 HI.out (fun j hj => HN.out j hj (by omega))]; simp) (fun j hj => H.out.2.2 j hj (by omega))
            exact ⟨by rw [hp]; rfl, H.out.2.1.trans HCx.out⟩
          · have hb : (((l[k]).1.kids[n]).id == id) = false := by simpa using hid
            have HI := Lib.hid hid
            clear hid
            go_wp2
            go_round
            case rel => exact ⟨n + 1, by omega, by go_num, fun j hj hl => by
              rcases Nat.lt_or_ge j n with h | h
              · exact HN.out j h hl
              · obtain rfl : j = n := by omega
                exact HI.out⟩
            case measure => simp [intOf]; omega
        · go_wp2_with fail
          go_roundw
          case rel => exact ⟨k + 1, by omega, by go_num, H.out.1.kept HCx.out (by simp) (by simp), H.out.2.1.trans HCx.out, fun j hj hl => by
            rcases Nat.lt_or_ge j k with h | h
            · exact H.out.2.2 j h hl
            · obtain rfl : j = k := by omega
              exact kidOf_none id _ _ (fun i hi => HN.out i (by omega) hi)⟩
          case measure => simp [intOf]; omega
    · go_wp2
      go_ret3
      have hp : placeL id ((t.walk 1).take 251) = none := by
        rw [← HL.out]
        exact placeL_none id l (fun j hj => H.out.2.2 j (by omega) hj)
      exact ⟨by rw [hp]; rfl, H.out.2.1⟩
end Go.Proofs.Ytofjocjljbkjgaa
