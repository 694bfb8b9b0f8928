/- Parts of the proof of the law ChangesBack, number 5 of 6: laws over memory, contracts of functions, walks. No condition. -/
import Derived.Deep.CutBlock
import Derived.Deep.DeepCutAuto
import Derived.Test.YtofjocjljbkjgaaQChangesBack4
set_option linter.unusedVariables false
set_option linter.unusedSimpArgs false
namespace Go.Proofs.Ytofjocjljbkjgaa
open Go.RowKit
theorem kidOf_path (id : Int) : ∀ (ks : List Tr) (n m i : Nat), (idsL ks).Nodup → kidOf id ks n = some i → pathL id ks m = some [m + (i - n)] ∧ n ≤ i
  | [], n, m, i, _, h => by simp [kidOf] at h
  | k :: ks, n, m, i, hn, h => by
    rw [kidOf] at h
    rw [pathL]
    by_cases hk : k.id = id
    · rw [if_pos hk] at h
      simp only [Option.some.injEq] at h
      subst h
      rw [Tr.path_eq, if_pos hk]
      simp
    · rw [if_neg hk] at h
      obtain ⟨h1, h2⟩ := kidOf_path id ks (n + 1) (m + 1) i (by simp only [idsL] at hn; exact (List.nodup_append.1 hn).2.1) h
      have hin : id ∈ idsL ks := (pathL_iff id ks (m + 1)).1 (by rw [h1]; rfl)
      rw [path_none (fun hm => nodup_apart (by simpa only [idsL] using hn) hm hin)]
      simp only []
      rw [h1]
      exact ⟨by congr 2; omega, by omega⟩
mutual
theorem place_par (id : Int) : ∀ (t : Tr) (d : Int), t.ids.Nodup → t.id ≠ id → placeL id (t.walk d) = (parT id t).map (fun x => (x.1.id, x.2))
  | ⟨i0, k0, x0, ks⟩, d, hn, h0 => by
    have hnk : (idsL ks).Nodup := by rw [Tr.ids] at hn; exact (List.nodup_cons.1 hn).2
    simp only [Tr.walk, placeL]
    cases hko : kidOf id ks 0 with
    | some i =>
      obtain ⟨h1, _⟩ := kidOf_path id ks 0 0 i hnk hko
      simp only [Nat.zero_add, Nat.sub_zero] at h1
      unfold parT
      rw [Tr.path, if_neg h0, h1]
      rfl
    | none =>
      have := placeL_par id ks (d + 1) 0 hnk hko
      simp only []
      rw [this]
      unfold parT
      rw [Tr.path, if_neg h0]
      cases hp : pathL id ks 0 with
      | none => rfl
      | some p =>
        simp only []
        cases p with
        | nil => rfl
        | cons j q =>
          simp only [Nat.sub_zero]
          rcases List.eq_nil_or_concat q with rfl | ⟨q', n, rfl⟩
          · exfalso
            exact pathL_kid id ks 0 0 j hnk hp hko
          · simp only [List.concat_eq_append, ← List.cons_append, List.getLast?_append, List.getLast?_singleton, Option.some_or, List.dropLast_concat]
            simp only [List.cons_append, Tr.at?]
            cases ks[j]? with
            | none => rfl
            | some k => simp only [Option.map_map]; rfl
theorem pathL_kid (id : Int) : ∀ (ks : List Tr) (n m j : Nat), (idsL ks).Nodup → pathL id ks n = some [j] → kidOf id ks m = none → False
  | [], n, m, j, _, h, _ => by simp [pathL] at h
  | k :: ks, n, m, j, hn, h, h2 => by
    rw [pathL] at h
    rw [kidOf] at h2
    by_cases hk : k.id = id
    · rw [if_pos hk] at h2; cases h2
    · rw [if_neg hk] at h2
      rw [Tr.path_eq, if_neg hk] at h
      cases hp : pathL id k.kids 0 with
      | some p =>
        rw [hp] at h
        simp only [Option.some.injEq, List.cons.injEq] at h
        obtain ⟨_, rfl⟩ := h
        exact pathL_ne_nil id k.kids 0 hp
      | none =>
        rw [hp] at h
        simp only [] at h
        exact pathL_kid id ks (n + 1) (m + 1) j (by simp only [idsL] at hn; exact (List.nodup_append.1 hn).2.1) h h2
theorem pathL_ne_nil (id : Int) : ∀ (ks : List Tr) (n : Nat), pathL id ks n = some [] → False
  | [], n, h => by simp [pathL] at h
  | k :: ks, n, h => by
    rw [pathL] at h
    cases hp : k.path id with
    | some p => rw [hp] at h; simp at h
    | none => rw [hp] at h; exact pathL_ne_nil id ks (n + 1) h
theorem placeL_par (id : Int) : ∀ (ks : List Tr) (d : Int) (n : Nat), (idsL ks).Nodup → kidOf id ks n = none → placeL id (walkL ks d) = match pathL id ks n with
    | none => none
    | some p => match p with
      | [] => none
      | j :: q => match q.getLast? with
        | none => none
        | some m => match ks[j - n]? with
          | some k => (Tr.at? q.dropLast k).map (fun y => (y.id, m))
          | none => none
  | [], d, n, _, _ => rfl
  | k :: ks, d, n, hn, hko => by
    rw [kidOf] at hko
    have hn' : (k.ids ++ idsL ks).Nodup := by simpa only [idsL] using hn
    by_cases hk : k.id = id
    · rw [if_pos hk] at hko; cases hko
    · rw [if_neg hk] at hko
      simp only [walkL]
      rw [placeL_append, pathL]
      have hpk := place_par id k d (List.nodup_append.1 hn').1 hk
      cases hp : k.path id with
      | none =>
        have hno : parT id k = none := by unfold parT; rw [hp]
        rw [hpk, hno]
        simp only [Option.map_none]
        rw [placeL_par id ks d (n + 1) (List.nodup_append.1 hn').2.1 hko]
        cases hq : pathL id ks (n + 1) with
        | none => rfl
        | some p =>
          cases p with
          | nil => rfl
          | cons j q =>
            have hj : n + 1 ≤ j := pathL_ge id ks (n + 1) j q hq
            obtain ⟨e, rfl⟩ : ∃ e, j = n + 1 + e := ⟨j - (n + 1), by omega⟩
            simp only [show n + 1 + e - (n + 1) = e by omega, show n + 1 + e - n = e + 1 by omega, List.getElem?_cons_succ]
      | some p =>
        have hpar : parT id k = match p.getLast? with | none => none | some m => (Tr.at? p.dropLast k).map (fun y => (y, m)) := by unfold parT; rw [hp]; rfl
        rw [hpk, hpar]
        simp only [Nat.sub_self, List.getElem?_cons_zero]
        cases hl : p.getLast? with
        | none =>
          exfalso
          rw [List.getLast?_eq_none_iff] at hl
          subst hl
          rw [Tr.path_eq, if_neg hk] at hp
          exact pathL_ne_nil id k.kids 0 hp
        | some m =>
          have hin : id ∈ k.ids := (Tr.path_iff id k).1 (by rw [hp]; rfl)
          cases ha : Tr.at? p.dropLast k with
          | some y => simp [ha]
          | none =>
            simp only [ha, Option.map_none]
            rw [placeL_absent id ks d (fun hm => nodup_apart hn' hin hm)]
theorem pathL_ge (id : Int) : ∀ (ks : List Tr) (n j : Nat) (q : List Nat), pathL id ks n = some (j :: q) → n ≤ j
  | [], n, j, q, h => by simp [pathL] at h
  | k :: ks, n, j, q, h => by
    rw [pathL] at h
    cases hp : k.path id with
    | some p => rw [hp] at h; simp at h; omega
    | none => rw [hp] at h; have := pathL_ge id ks (n + 1) j q h; omega
end
theorem parI_place {id : Int} {t : Tr} {P : Int} {k : Nat} (hn : t.ids.Nodup) (h0 : t.id ≠ id) (h : placeL id (t.walk 1) = some (P, k)) : parI (parT id t) = (P, (k : Int)) := by
  rw [place_par id t 1 hn h0] at h
  cases hp : parT id t with
  | none => rw [hp] at h; cases h
  | some x =>
    obtain ⟨y, m⟩ := x
    rw [hp] at h
    simp only [Option.map_some, Option.some.injEq, Prod.mk.injEq] at h
    obtain ⟨rfl, rfl⟩ := h
    rfl
theorem inv_back {t y : Tr} {s : Stp} (ht : t.ids.Nodup) (hr : ∀ i ∈ t.ids, InRange i) (h : doT t s = .ok y) : doT y (invT t s) = .ok t := by
  unfold doT at h
  by_cases h1 : s.op = 1
  · rw [if_pos h1] at h
    obtain ⟨p, n, hp, hn, hpl, hir, hfr, rfl⟩ := insertT_ok h
    have hid : s.sub.id ∉ t.ids := hfr.2 _ (id_mem _)
    obtain ⟨e1, e2, e3⟩ := out_of_put s.sub.id s.sub rfl s.place.toNat p t n hn (by omega) hid
    unfold doT invT
    rw [if_pos h1]
    simp only [show ((2 : Int) = 1) = False by decide, if_false, if_true]
    unfold deleteT
    obtain ⟨q, hq⟩ := path_some (id := s.sub.id) (t := Tr.upd p t { n with kids := insAt n.kids s.place.toNat s.sub }) (by rw [e3.mem_iff]; simp [id_mem])
    rw [hq]
    simp only []
    rw [if_neg (by rw [e2]; exact fun e => hid (by rw [← e]; exact id_mem _)), e1]
  rw [if_neg h1] at h
  by_cases h2 : s.op = 2
  · rw [if_pos h2] at h
    obtain ⟨h0, x, ho⟩ := deleteT_ok h
    obtain ⟨P, k, q, n, g1, g2, g3, g4, g5, g6⟩ := stood s.id t x y 1 ho ht
    obtain ⟨hperm, hxid, _⟩ := Tr.out_perm s.id t x y ho
    obtain ⟨p, hp1, hp2⟩ := Tr.out_path s.id t x y ho h0
    have hsub : t.subT s.id = some x := by unfold Tr.subT; rw [hp1]; exact hp2
    have hpar := parI_place ht h0 g1
    unfold doT invT
    rw [if_neg h1, if_pos h2, hpar, hsub]
    simp only [if_true, Option.getD_some]
    unfold insertT
    rw [g3]
    simp only []
    rw [g4]
    simp only []
    rw [if_pos (by omega), if_pos (fun i hi => hr i (by rw [hperm.mem_iff]; simp [hi])), if_pos]
    · rw [Int.toNat_natCast, g6]
    · have hnd := hperm.nodup_iff.1 ht
      exact ⟨(List.nodup_append.1 hnd).2.1, fun i hi hm => nodup_apart hnd hm hi⟩
  rw [if_neg h2] at h
  by_cases h3 : s.op = 3
  · rw [if_pos h3] at h
    obtain ⟨P, k, g1, g2, _⟩ := move_back ht h
    have h0 := (moveT_ok h).1
    have hpar := parI_place ht h0 g1
    unfold doT invT
    rw [if_neg h1, if_neg h2, if_pos h3, hpar]
    simp only [show ((3 : Int) = 1) = False by decide, show ((3 : Int) = 2) = False by decide, if_false, if_true]
    exact g2
  rw [if_neg h3] at h
  by_cases h4 : s.op = 4
  · rw [if_pos h4] at h
    obtain ⟨p, n, hp, hn, rfl⟩ := textT_ok h
    have hnid : n.id = s.id := by
      obtain ⟨x, e1, e2⟩ := Tr.path_at s.id t p hp
      rw [hn] at e1; cases e1; exact e2
    have hsub : t.subT s.id = some n := by unfold Tr.subT; rw [hp]; exact hn
    have hat := at_upd p t n { n with text := s.text } hn
    obtain ⟨l1, l2, i1, i2⟩ := upd_ids hn
    have hids : (Tr.upd p t { n with text := s.text }).ids = t.ids := by rw [i2, i1, Tr.ids_eq n, Tr.ids_eq { n with text := s.text }]
    have hpath := path_comp (id := s.id) p _ _ [] hat (by rw [hids]; exact ht) (by rw [Tr.path_eq, if_pos hnid])
    unfold doT invT
    rw [if_neg h1, if_neg h2, if_neg h3, hsub]
    simp only [show ((4 : Int) = 1) = False by decide, show ((4 : Int) = 2) = False by decide, show ((4 : Int) = 3) = False by decide, if_false, if_true, Option.getD_some]
    unfold textT
    rw [hpath, List.append_nil]
    simp only []
    rw [hat]
    simp only []
    rw [upd_upd p t n _ _ hn]
    exact congrArg Except.ok (by rw [Tr.eta n]; exact upd_self p t n hn)
  rw [if_neg h4] at h
  cases h
end Go.Proofs.Ytofjocjljbkjgaa
namespace Go.Proofs.Ytofjocjljbkjgaa
open Go.RowKit
structure Way (f : Tr → Stp → Except Int Tr) (t : Tr) (ss : List Stp) (x : Tr) (S : Nat → Tr) : Prop where
  start : S 0 = t
  stop : S ss.length = x
  step : ∀ i (h : i < ss.length), f (S i) ss[i] = .ok (S (i + 1))
theorem Way.of {f : Tr → Stp → Except Int Tr} (hf : ∀ x s n, f x s = .error n → n ≠ 0) : ∀ (ss : List Stp) (t : Tr) (k : Nat), (foldF f t ss k).2.2 = 0 → ∃ S, Way f t ss (foldF f t ss k).1 S
  | [], t, k, _ => ⟨fun _ => t, rfl, rfl, fun i h => by simp at h⟩
  | s :: ss, t, k, h => by
    cases hx : f t s with
    | error n => rw [foldF_err hx] at h; exact absurd h (hf t s n hx)
    | ok y =>
      rw [foldF_yes hx] at h ⊢
      obtain ⟨S, h1, h2, h3⟩ := Way.of hf ss y (k + 1) h
      refine ⟨fun i => if i = 0 then t else S (i - 1), rfl, by simpa using h2, fun i hi => ?_⟩
      cases i with
      | zero => simpa [h1] using hx
      | succ i => simpa using h3 i (by simpa using hi)
theorem Way.other {f f' : Tr → Stp → Except Int Tr} {t x : Tr} {ss : List Stp} {S : Nat → Tr} (h : Way f t ss x S) (hf : ∀ x s y, f x s = .ok y → f' x s = .ok y) : Way f' t ss x S := ⟨h.start, h.stop, fun i hi => hf _ _ _ (h.step i hi)⟩
theorem Way.tail {f : Tr → Stp → Except Int Tr} {t x : Tr} {s : Stp} {ss : List Stp} {S : Nat → Tr} (h : Way f t (s :: ss) x S) : f t s = .ok (S 1) ∧ Way f (S 1) ss x (fun i => S (i + 1)) :=
  ⟨by have := h.step 0 (by simp); rw [h.start] at this; exact this, rfl, h.stop, fun i hi => by have := h.step (i + 1) (by simpa using hi); simpa using this⟩
theorem Way.fold {f : Tr → Stp → Except Int Tr} : ∀ {ss : List Stp} {t x : Tr} {S : Nat → Tr} (k : Nat), Way f t ss x S → foldF f t ss k = (x, k + ss.length, 0)
  | [], t, x, S, k, h => by have h1 := h.start; have h2 := h.stop; simp at h2; simp only [foldF, ← h1, ← h2]; rfl
  | s :: ss, t, x, S, k, h => by
    obtain ⟨h1, h2⟩ := h.tail
    rw [foldF_yes h1, h2.fold (k + 1), List.length_cons]
    congr 2; omega
theorem Way.inv : ∀ {ss : List Stp} {t x : Tr} {S : Nat → Tr}, Way applyT t ss x S → (invL t ss).length = ss.length ∧ ∀ i (h : i < ss.length), (invL t ss)[i]? = some (invT (S i) ss[i])
  | [], t, x, S, h => ⟨rfl, fun i hi => by simp at hi⟩
  | s :: ss, t, x, S, h => by
    obtain ⟨h1, h2⟩ := h.tail
    obtain ⟨h3, h4⟩ := h2.inv
    rw [invL, h1]
    simp only []
    refine ⟨by simp [h3], fun i hi => ?_⟩
    cases i with
    | zero => simp [h.start]
    | succ i => simpa using h4 i (by simpa using hi)
theorem invT_nodes (t : Tr) (s : Stp) (h : t.nodes ≤ 2000) : (invT t s).sub.nodes ≤ 2000 := by
  have hz : zeroT.nodes ≤ 2000 := by decide
  have hs : ((t.subT s.id).getD zeroT).nodes ≤ 2000 := by
    cases hx : t.subT s.id with
    | none => exact hz
    | some x => obtain ⟨p, _, hat, _⟩ := subT_path hx; have := Tr.at_nodes p t x hat; simp only [Option.getD_some]; omega
  unfold invT
  split
  · exact hz
  split
  · exact hs
  split
  · exact hz
  · exact hz
theorem SubOk.range {g : Gr} {t : Tr} (h : SubOk g t) : ∀ i ∈ t.ids, InRange i := fun i hi => by
  rw [← Tr.walk_ids t 1] at hi
  obtain ⟨x, hx, rfl⟩ := List.mem_map.1 hi
  obtain ⟨k, hk, rfl⟩ := List.getElem_of_mem hx
  have := (h.2 k _ hk (List.getElem?_eq_getElem hk)).1
  exact ⟨this.2.1, this.2.2.1⟩
theorem back_law {j : GJ} {g : Gr} (hj : j.Of g) {t : Tr} {ss : List Stp} (ht : SubOk g t) (hc : checkB ss = true) (h : (applyL j t ss).2.2 = 0) :
    (foldF applyT t ss 0).2.2 = 0 ∧ (invL t ss).reverse.length = ss.length ∧ ∃ S : Nat → Tr, S 0 = (applyL j t ss).1 ∧ S ss.length = t ∧ ∀ i (hi : i < ss.length), ∃ s, (invL t ss).reverse[i]? = some s ∧ applyT (S i) s = .ok (S (i + 1)) := by
  have hne : ∀ x s n, doJ j x s = .error n → n ≠ 0 := fun x s n => doJ_ne
  unfold applyL at h ⊢
  rw [if_pos hc] at h ⊢
  by_cases hz : (foldF (doJ j) t ss 0).2.2 = 0
  · rw [if_pos hz]
    obtain ⟨S, hw⟩ := Way.of hne ss t 0 hz
    have hw2 : Way applyT t ss _ S := hw.other (fun x s y h => (doJ_ok h).2.2)
    obtain ⟨h1, h2⟩ := hw2.inv
    have hok : ∀ i, i ≤ ss.length → SubOk g (S i) := fun i hi => by
      cases i with
      | zero => rw [hw.start]; exact ht
      | succ i => exact (doJ_fit hj (hw.step i (by omega))).2
    refine ⟨by rw [hw2.fold 0], by simp [h1], fun i => S (ss.length - i), by simpa using hw.stop, by simpa using hw.start, fun i hi => ?_⟩
    obtain ⟨m, hm⟩ : ∃ m, ss.length - i = m + 1 := ⟨ss.length - i - 1, by omega⟩
    have hml : m < ss.length := by omega
    refine ⟨invT (S m) ss[m], ?_, ?_⟩
    · rw [List.getElem?_reverse (by omega), h1, show ss.length - 1 - i = m by omega]
      exact h2 m hml
    · simp only []
      rw [show ss.length - (i + 1) = m by omega, hm]
      have hst := hw2.step m hml
      have hdo : doT (S m) ss[m] = .ok (S (m + 1)) := by
        unfold applyT at hst
        split at hst
        · exact hst
        · cases hst
      unfold applyT
      rw [if_pos ⟨by have := (hok (m + 1) (by omega)).1; omega, invT_nodes _ _ (by have := (hok m (by omega)).1; omega)⟩]
      exact inv_back (hok m (by omega)).nodup (hok m (by omega)).range hdo
  · rw [if_neg hz] at h
    exact absurd h hz
end Go.Proofs.Ytofjocjljbkjgaa
namespace Go.Proofs.Ytofjocjljbkjgaa
open Go.RowKit
structure Cop2 (w wr : World) (t : Tr) (A : Option Addr) (c k : Nat) (v : Value) : Prop where
  arg : wr.heap[w.heap.size]? = some (.cells #[.int .i64 (Tr.id t), .int .i64 (Tr.kind t), .string (Tr.text t), .slice A (Tr.kids t).length c] 24 (0, 0))
  res : wr.heap[w.heap.size + 1]? = some (.cells #[.int .i64 0, .int .i64 0, .string ⟨#[]⟩, .slice none 0 0] 24 (0, 0))
  out : wr.heap[w.heap.size + 2]? = some (.cells #[.int .i64 t.id, .int .i64 t.kind, .string t.text, v] 24 (0, 0))
  chg : Chg [] w wr
  row : RowV wr (w.heap.size + 3) v (t.kids.take k) (fun g => w.heap.size + 3 ≤ g)
set_option maxHeartbeats 4000000 in
set_option maxRecDepth 100000 in
theorem copy_any : ∀ (t : Tr) (A : Option Addr) (c : Nat) (w : World), TrC (fun _ => True) w t [.int .i64 (Tr.id t), .int .i64 (Tr.kind t), .string (Tr.text t), .slice A (Tr.kids t).length c] → t.nodes ≤ 100000 → Calls Try.prog 65 #[.agg #[.int .i64 (Tr.id t), .int .i64 (Tr.kind t), .string (Tr.text t), .slice A (Tr.kids t).length c]] w (NewPost t w) := by
  intro t
  induction t using Tr.ind with
  | h t ih =>
  intro A c w hT hN
  obtain ⟨ip, hi, hz0, hz1, hz2⟩ := info_parts infoNode
  obtain ⟨A', c', hcs, hlc, hcm, htx, hK⟩ := hT.opens
  simp only [List.cons.injEq, Value.slice.injEq, true_and, and_true] at hcs
  obtain ⟨rfl, rfl⟩ := hcs
  have hlen : t.kids.length ≤ 100000 := by have := nodesL_len t.kids; rw [Tr.nodes_eq] at hN; omega
  have HI := Lib.hid (And.intro hi (And.intro hz0 (And.intro hz1 hz2)))
  have HH := Lib.hid (And.intro ih (And.intro hN (And.intro hcm (And.intro hlc (And.intro htx hK)))))
  clear hi hz0 hz1 hz2 hT hK ih hN hcm hlc htx
  go_enter Try.func65, Try.ntmps65
  go_wp2
  refine wp_world (fun W => Cop2 w W t A c 0 (.slice none 0 0)) ⟨heap_old (heap_old (heap_new _ _ rfl) _) _, heap_old (heap_new _ _ (by simp)) _, heap_new _ _ (by simp), (by with_reducible repeat (first | exact Chg.refl _ _ | apply Chg.alloc | apply Chg.drew | apply Chg.drewN | (refine Chg.setCell ?_ _ _ (by simp)))), RowV.nil _ _ _⟩ ?_
  intro W hCop
  have HX := Lib.hid hCop
  clear hCop
  go_loopw [4] (fun i wr => ∃ (k : Nat) (v : Value), k ≤ t.kids.length ∧ i = .int .i64 k ∧ Hid (Cop2 w wr t A c k v)) (fun i _ => t.kids.length - (intOf i).toNat)
  case atStart => exact ⟨0, _, Nat.zero_le _, rfl, HX.out⟩
  case round =>
    obtain ⟨k, v, hk, rfl, H⟩ := hrel
    clear HX
    obtain ⟨p0, p1, p2, p3⟩ := blk4 H.out.arg
    obtain ⟨Av, cv, rfl⟩ : ∃ Av cv, v = .slice Av k cv := by
      obtain ⟨css, fs, ho, _⟩ := H.out.row
      obtain ⟨Av, cv, e⟩ := own_slice ho
      rw [show (t.kids.take k).length = k from by simp; omega] at e
      exact ⟨Av, cv, e⟩
    by_cases hlt : k < t.kids.length
    · obtain ⟨gk, ok, cs, rfl, _, hr, hat⟩ := HH.out.2.2.2.2.2 k _ (List.getElem?_eq_getElem hlt)
      obtain ⟨Ak, ck, rfl, _⟩ := hat.opens
      have hr' := H.out.chg.range hr (by simp)
      have hkn : (t.kids[k]).nodes ≤ 100000 := by have := nodesL_mem (List.getElem_mem hlt); have h2 := HH.out.2.1; rw [Tr.nodes_eq] at h2; omega
      have hcall := HH.out.1 (t.kids[k]) (List.getElem_mem hlt) Ak ck wr (hat.kept H.out.chg (by simp)) hkn
      have HC := Lib.hid (And.intro hcall hr')
      clear hcall hat hkn hr hr'
      go_wp2_with (first
        | (refine wpList_load_mid rfl 24 (.tmp 23) rfl gk (ok + k * 4) rfl _ _ HC.out.2 Try.underlying24 rfl szNode ?_)
        | (go_at_call 65; refine HC.out.1.mono ?_; rintro e X ⟨A1, c1, rfl, hV, hX⟩; have HX := Lib.hid (And.intro hV hX); have hXa : Chg [] X (X.alloc (.cells #[.int .i64 (Tr.id (t.kids[k])), .int .i64 (Tr.kind (t.kids[k])), .string (Tr.text (t.kids[k])), .slice A1 (Tr.kids (t.kids[k])).length c1] 24)) := (by with_reducible repeat (first | exact Chg.refl _ _ | apply Chg.alloc | apply Chg.drew | apply Chg.drewN | (refine Chg.setCell ?_ _ _ (by simp)))); have hXX := H.out.chg.trans (hX.trans hXa); have hou := (hX.trans hXa).at H.out.out (by simp); obtain ⟨o0, o1, o2, o3⟩ := blk4 hou; have of3 := blkF hou 3; clear hV hX hXa hXX hou)
        | (have hwr := lt_of_block H.out.out
           have hXs := HX.out.2.size
           have hXa : Chg [] X ((X.alloc (.cells #[.int .i64 (Tr.id (t.kids[k])), .int .i64 (Tr.kind (t.kids[k])), .string (Tr.text (t.kids[k])), .slice A1 (Tr.kids (t.kids[k])).length c1] 24)).alloc (.cells #[.int .i64 (Tr.id (t.kids[k])), .int .i64 (Tr.kind (t.kids[k])), .string (Tr.text (t.kids[k])), .slice A1 (Tr.kids (t.kids[k])).length c1] 24)) := (by with_reducible repeat (first | exact Chg.refl _ _ | apply Chg.alloc | apply Chg.drew | apply Chg.drewN | (refine Chg.setCell ?_ _ _ (by simp))))
           obtain ⟨xs, hown, hgrow⟩ := H.out.row.grow (HX.out.2.trans hXa)
           rw [show (t.kids.take k).length = k from by simp; omega] at hown hgrow
           have HG := Lib.hid (And.intro hgrow hXa)
           clear hgrow hXa
           refine wpList_append_own_at _ rfl (.tmp 27) (.tmp 29) 22 rfl _ 24 ip _ 4 56 Try.underlying22 HI.out.1 HI.out.2.1 HI.out.2.2.1 HI.out.2.2.2 rfl (by omega) (.slice Av k cv) _ _ rfl hown ⟨X.heap.size + 1, 0, none⟩ 1 1 _ rfl rfl (fun j u hu => by rw [Addr.add_mid]; exact range_all (heap_new (X.alloc _) _ (by simp)) j u hu) (HX.out.1.one) (by unfold maxLen; omega) (by omega) (by simp; omega) ?_
           intro v' X3 hown' hgr _ hat
           have hrow3 := HG.out.1 _ _ _ X3 v' (HX.out.1.kept HG.out.2 (by simp)) (fun x hx => ⟨by omega, hx.1, Nat.lt_of_lt_of_le hx.2 HG.out.2.size⟩) hown' hgr hat
           rw [← take_snoc' _ _ hlt] at hrow3
           have hC3 : Chg (Value.slice Av k cv).ownBlock.toList wr X3 := ((HX.out.2.trans HG.out.2).mono (by simp)).grown hgr (by intro k hk; rw [hk]; simp)
           have hnb : ∀ b, b ∈ (Value.slice Av k cv).ownBlock.toList → w.heap.size + 3 ≤ b := fun b hb => by have := H.out.row.own b (by simpa using hb); omega
           have hout3 := hC3.at H.out.out (fun hm => by have := hnb _ hm; omega)
           have s3 := (blk4 hout3).2.2.2
           have f3 := blkF hout3 3
           obtain ⟨A', c', rfl⟩ := own_slice hown'
           have H3 := Lib.hid (And.intro hrow3 (And.intro hC3 (And.intro hnb hout3)))
           clear hrow3 hgr hat hown' hC3 hnb hout3 HG)
        | fail)
      go_roundw
      case rel =>
        have hnb := H3.out.2.2.1
        have hCs : Chg [w.heap.size + 2] X3 (X3.setCell ⟨w.heap.size + 2, 3, none⟩ (.slice A' (k + 1) c')) := (Chg.refl _ _).setCell _ _ (by simp)
        have hnb3 : ∀ b, (Value.slice A' (k + 1) c').ownBlock = some b → w.heap.size + 3 ≤ b := fun b hb => by have := H3.out.1.own b hb; omega
        refine ⟨k + 1, .slice A' (k + 1) c', by omega, by go_num, ?_, ?_, ?_, ?_, ?_⟩
        · exact hCs.at (H3.out.2.1.at H.out.arg (fun hm => by have := hnb _ hm; omega)) (by simp)
        · exact hCs.at (H3.out.2.1.at H.out.res (fun hm => by have := hnb _ hm; omega)) (by simp)
        · exact heap_setCell_same _ _ 3 _ _ _ H3.out.2.2.2
        · exact (H.out.chg.andThen H3.out.2.1 (fun i hi => .inr (by have := hnb i hi; omega))).andThen hCs (fun i hi => .inr (by simp at hi; omega))
        · exact H3.out.1.kept hCs (fun b hb => by have := hnb3 b hb; simp; omega) (fun g hg => by simp; omega)
      case measure => simp [intOf]; omega
    · obtain rfl : k = t.kids.length := by omega
      have hrow := H.out.row
      rw [List.take_of_length_le (Nat.le_refl _)] at hrow
      obtain ⟨A', c', he, hV⟩ := hrow.node t HH.out.2.2.2.2.1
      injection he with hA1 _ hc1
      subst hA1 hc1
      have HV := Lib.hid hV
      clear hrow hV
      obtain ⟨q0, q1, q2, q3⟩ := blk4 H.out.out
      obtain ⟨r0, r1, r2, r3⟩ := blk4 H.out.res
      have f0 := blkF H.out.res 0
      have f1 := blkF H.out.res 1
      have f2 := blkF H.out.res 2
      have f3 := blkF H.out.res 3
      go_wp2
      have hC0 := chg4 wr (w.heap.size + 1) (.int .i64 t.id) (.int .i64 t.kind) (.string t.text) (.slice Av t.kids.length cv)
      have hsz := H.out.chg.size
      have hlt1 := lt_of_block H.out.out
      have hF : ∀ g, w.heap.size + 3 ≤ g ∨ (Value.slice Av t.kids.length cv).ownBlock = some g → w.heap.size + 3 ≤ g := fun g hg => by
        rcases hg with hg | hg
        · omega
        · have := H.out.row.own g hg; omega
      refine bodyPost_ret (v := .agg #[.int .i64 (Tr.id t), .int .i64 (Tr.kind t), .string (Tr.text t), .slice Av (Tr.kids t).length cv]) (results_cell_row rfl _ _ (w.heap.size + 1) _ _ _ _ rfl (set4 H.out.res) Try.underlying24 rfl szNode) rfl ⟨Av, cv, rfl, ?_, H.out.chg.andThen hC0 (fun i hi => by simp at hi; omega)⟩
      exact ((HV.out.bound.weak (F' := fun g => w.heap.size + 3 ≤ g ∧ g < wr.heap.size) (fun g hg => ⟨hF g hg.1, hg.2⟩)).kept hC0 (fun g hg => by simp; omega)).weak (fun g hg => ⟨by omega, Nat.lt_of_lt_of_le hg.2 hC0.size⟩)
end Go.Proofs.Ytofjocjljbkjgaa
namespace Go.Proofs.Ytofjocjljbkjgaa
open Go.RowKit
def SrcN (ok : Nat → Prop) (w : World) (A : Option Addr) (ks : List Tr) : Prop := ∀ i k, ks[i]? = some k → ∃ g o cs, A = some ⟨g, o, none⟩ ∧ w.rangeAt g (o + i * 4) cs ∧ TrC ok w k cs
theorem SrcN.of {ok : Nat → Prop} {w : World} {A : Option Addr} {ks : List Tr} (h : KidsC ok w A ks) : SrcN ok w A ks := fun i k hk => by
  obtain ⟨g, o, cs, h1, _, h2, h3⟩ := h i k hk; exact ⟨g, o, cs, h1, h2, h3⟩
theorem SrcN.one {ok : Nat → Prop} {w : World} {g : Nat} {t : Tr} {cs : List Value} (hb : w.heap[g]? = some (.cells cs.toArray 24 (0, 0))) (h : TrC ok w t cs) : SrcN ok w (some ⟨g, 0, none⟩) [t] := fun i k hk => by
  match i, hk with
  | 0, hk => simp at hk; subst hk; exact ⟨g, 0, cs, rfl, by simpa using range_all hb, h⟩
  | i + 1, hk => simp at hk
theorem SrcN.take {ok : Nat → Prop} {w : World} {A : Option Addr} {ks : List Tr} (h : SrcN ok w A ks) (n : Nat) : SrcN ok w A (ks.take n) := fun i k hk => by
  rw [List.getElem?_take] at hk
  split at hk
  · exact h i k hk
  · cases hk
theorem SrcN.drop {ok : Nat → Prop} {w : World} {A : Option Addr} {ks : List Tr} {cap n : Nat} (h : SrcN ok w A ks) (hc : ks.length ≤ cap) : SrcN ok w (tailA A cap n) (ks.drop n) := fun i k hk => by
  rw [List.getElem?_drop] at hk
  have hlt := (List.getElem?_eq_some_iff.1 hk).1
  obtain ⟨g, o, cs, rfl, h2, h3⟩ := h _ _ hk
  refine ⟨g, o + n * 4, cs, ?_, by rw [Nat.add_assoc, ← Nat.add_mul]; exact h2, h3⟩
  unfold tailA
  rw [if_neg (by omega)]
  simp [Addr.add]
structure RowN (w : World) (ok : Nat → Prop) (base : Nat) (v : Value) (ks : List Tr) : Prop where
  ex : ∃ css, RowR w 4 24 base v css ∧ css.length = ks.length ∧ ∀ (i : Nat) k cs, ks[i]? = some k → css[i]? = some cs → TrC (fun b => ok b ∧ b < w.heap.size ∧ v.ownBlock ≠ some b) w k cs
theorem RowN.nil (w : World) (ok : Nat → Prop) (base : Nat) : RowN w ok base (.slice none 0 0) [] := ⟨[], .nil _ _ _ _, rfl, fun k s cs h => by simp at h⟩
theorem RowN.own {w : World} {ok : Nat → Prop} {base : Nat} {v : Value} {ks : List Tr} (h : RowN w ok base v ks) : ∀ b, v.ownBlock = some b → base ≤ b ∧ b < w.heap.size := by
  obtain ⟨css, h1, _⟩ := h.ex; exact h1.own
theorem RowN.slice {w : World} {ok : Nat → Prop} {base : Nat} {v : Value} {ks : List Tr} (h : RowN w ok base v ks) : ∃ A c, v = .slice A ks.length c := by
  obtain ⟨css, h1, h2, _⟩ := h.ex; rw [← h2]; exact h1.slice
theorem RowN.kept {w w' : World} {ok : Nat → Prop} {base : Nat} {v : Value} {ks : List Tr} {l : List Nat} (h : RowN w ok base v ks) (hc : Chg l w w') (h1 : ∀ b ∈ l, v.ownBlock ≠ some b ∧ ¬ ok b) : RowN w' ok base v ks := by
  obtain ⟨css, h2, h3, h4⟩ := h.ex
  refine ⟨css, h2.kept hc (fun b hb hm => (h1 b hm).1 hb), h3, fun i k cs hs hcs => ?_⟩
  exact ((h4 i k cs hs hcs).kept hc (fun b hb hm => (h1 b hm).2 hb.1)).weak (fun b hb _ => ⟨hb.1, Nat.lt_of_lt_of_le hb.2.1 hc.size, hb.2.2⟩)
theorem RowN.toC {w : World} {ok : Nat → Prop} {base : Nat} {A : Option Addr} {n c : Nat} {ks : List Tr} (h : RowN w ok base (.slice A n c) ks) : n = ks.length ∧ ks.length ≤ c ∧ c ≤ 9223372036854775807 ∧ KidsC (fun b => b < w.heap.size) w A ks := by
  obtain ⟨css, h1, h2, h3⟩ := h.ex
  rcases Nat.eq_zero_or_pos ks.length with h0 | hp
  · have hk : ks = [] := List.length_eq_zero_iff.1 h0
    subst hk
    obtain ⟨A', c', e⟩ := h1.slice
    rw [h2] at e
    injection e with e1 e2 e3
    subst e1 e2 e3
    rcases h1.row.2 with ⟨h5, _⟩ | ⟨g, cap, cur, h5, _, _, h6, h7, _⟩
    · injection h5 with q1 q2 q3; subst q3
      exact ⟨rfl, by simp, by omega, KidsC.nil _ _ _⟩
    · injection h5 with q1 q2 q3; subst q3
      unfold maxLen at h7
      exact ⟨rfl, by simp, by omega, KidsC.nil _ _ _⟩
  · obtain ⟨g, c', C, e, hb, hg, hcl, hcm, _, _, hr⟩ := h1.block (by omega)
    injection e with e1 e2 e3
    subst e1 e2 e3
    unfold maxLen at hcm
    refine ⟨h2, by omega, by omega, fun i k hk => ?_⟩
    have hlt := (List.getElem?_eq_some_iff.1 hk).1
    have hlt' : i < css.length := by omega
    exact ⟨g, 0, _, rfl, lt_of_block hg, by rw [Nat.zero_add]; exact hr i hlt', (h3 i k _ hk (List.getElem?_eq_getElem hlt')).weak (fun b hb _ => hb.2.1)⟩
theorem RowN.push {w w1 w' : World} {ok : Nat → Prop} {base : Nat} {v v' : Value} {ks ns : List Tr} {css ds : List (List Value)} {l : List Nat} (h1 : RowR w 4 24 base v css) (h2 : css.length = ks.length) (h3 : ∀ (i : Nat) k cs, ks[i]? = some k → css[i]? = some cs → TrC (fun b => ok b ∧ b < w.heap.size ∧ v.ownBlock ≠ some b) w k cs)
    (hc0 : Chg l w w1) (hl : ∀ b ∈ l, v.ownBlock ≠ some b ∧ ¬ ok b) (ho : w'.ownsRow base 24 4 v' (css.length + ds.length) (css.flatten ++ ds.flatten)) (hd : ds.length = ns.length) (h4 : ∀ (i : Nat) k cs, ns[i]? = some k → ds[i]? = some cs → TrC (fun b => ok b ∧ b < w1.heap.size ∧ v.ownBlock ≠ some b) w1 k cs)
    (hc : Chg v.ownBlock.toList w1 w') (hat : v'.ownBlock = v.ownBlock ∨ v'.ownBlock = some w1.heap.size) : RowN w' ok base v' (ks ++ ns) := by
  have h1' := h1.kept hc0 (fun b hb hm => (hl b hm).1 hb)
  have hd4 : ∀ cs ∈ ds, cs.length = 4 := fun cs hcs => by
    obtain ⟨i, hi, rfl⟩ := List.getElem_of_mem hcs
    have hi' : i < ns.length := by omega
    exact (h4 i _ _ (List.getElem?_eq_getElem hi') (List.getElem?_eq_getElem hi)).four
  have hsz := hc.size
  have hsz0 := hc0.size
  have hmv : ∀ k cs, TrC (fun b => ok b ∧ b < w1.heap.size ∧ v.ownBlock ≠ some b) w1 k cs → TrC (fun b => ok b ∧ b < w'.heap.size ∧ v'.ownBlock ≠ some b) w' k cs := fun k cs h => by
    refine (h.kept hc (fun b hb hm => hb.2.2 (by simpa using hm))).weak (fun b hb _ => ⟨hb.1, by omega, ?_⟩)
    rcases hat with e | e
    · rw [e]; exact hb.2.2
    · rw [e]; intro he; injection he; omega
  refine ⟨css ++ ds, h1'.pushN ho hd4, by simp [h2, hd], fun i k cs hk hcs => ?_⟩
  rcases Nat.lt_or_ge i ks.length with hi | hi
  · rw [List.getElem?_append_left hi] at hk
    rw [List.getElem?_append_left (by omega)] at hcs
    refine hmv k cs (((h3 i k cs hk hcs).kept hc0 (fun b hb hm => (hl b hm).2 hb.1)).weak (fun b hb _ => ⟨hb.1, by omega, hb.2.2⟩))
  · rw [List.getElem?_append_right hi] at hk
    rw [List.getElem?_append_right (by omega), h2] at hcs
    exact hmv k cs (h4 _ k cs hk hcs)
theorem wpList_append_nodes {ops : Array Oper} {rest : List Oper} {o : Oper} {a : Act} {w w1 : World} {Q : Exit → Act → World → Prop} (hgd : o.guard = none) (s x : Operand) (ho : o.op = .call { callee := .builtin .append, args := #[s, x], argTypes := #[22, 22] }) (ok : Nat → Prop) (base : Nat) (v : Value) (ks : List Tr) (hs : a.eval s = v) (hv : RowN w ok base v ks) {l : List Nat} (hc0 : Chg l w w1) (hl : ∀ b ∈ l, v.ownBlock ≠ some b ∧ ¬ ok b) (hb : base ≤ w.heap.size)
    (A : Option Addr) (m c : Nat) (ns : List Tr) (hx : a.eval x = .slice A m c) (hm : m = ns.length) (hA : SrcN (fun b => ok b ∧ b < w1.heap.size ∧ v.ownBlock ≠ some b) w1 A ns) (hk : ks.length ≤ 1000000) (hn : ns.length ≤ 1000000)
    (h : ∀ v' w', RowN w' ok base v' (ks ++ ns) → Chg v.ownBlock.toList w1 w' → (v'.ownBlock = v.ownBlock ∨ v'.ownBlock = some w1.heap.size) → wpList Try.prog ops Q rest (a.put o.dst v') w') : wpList Try.prog ops Q (o :: rest) a w1 := by
  subst hm
  obtain ⟨ip, hi, hz0, hz1, hz2⟩ := info_parts infoNode
  rcases Nat.eq_zero_or_pos ns.length with h0 | hp
  · have hn0 : ns = [] := List.length_eq_zero_iff.1 h0
    subst hn0
    obtain ⟨Av, cv, rfl⟩ := hv.slice
    have hcap : ks.length ≤ cv := (hv.toC).2.1
    refine wpList_append_zero hgd s x 22 24 ho ip Try.underlying22 hi Av ks.length cv hcap A c hs hx ?_
    exact h _ _ (by rw [List.append_nil]; exact hv.kept hc0 hl) (Chg.refl _ _) (.inl rfl)
  · obtain ⟨css, h1, h2, h3⟩ := hv.ex
    have h1' := h1.kept hc0 (fun b hb hm => (hl b hm).1 hb)
    obtain ⟨g, o', _, rfl, _, _⟩ := hA 0 _ (List.getElem?_eq_getElem hp)
    have hk' : ∀ i, i < ns.length → ∃ cs, w1.rangeAt g (o' + i * 4) cs ∧ TrC (fun b => ok b ∧ b < w1.heap.size ∧ v.ownBlock ≠ some b) w1 (ns.getD i ⟨0, 0, ⟨#[]⟩, []⟩) cs := fun i hi => by
      obtain ⟨g2, o2, cs, e, hr, ht⟩ := hA i _ (List.getElem?_eq_getElem hi)
      simp only [Option.some.injEq, Addr.mk.injEq, and_true] at e
      obtain ⟨rfl, rfl⟩ := e
      exact ⟨cs, hr, by rw [List.getD_eq_getElem?_getD, List.getElem?_eq_getElem hi]; exact ht⟩
    let fs : Nat → List Value := fun i => if h : i < ns.length then (hk' i h).choose else []
    have hfs : ∀ i, i < ns.length → w1.rangeAt g (o' + i * 4) (fs i) ∧ TrC (fun b => ok b ∧ b < w1.heap.size ∧ v.ownBlock ≠ some b) w1 (ns.getD i ⟨0, 0, ⟨#[]⟩, []⟩) (fs i) := fun i hi => by
      have := (hk' i hi).choose_spec
      simpa [fs, hi] using this
    obtain ⟨ds, hds⟩ : ∃ ds, ds = (List.range ns.length).map fs := ⟨_, rfl⟩
    have hdl : ds.length = ns.length := by rw [hds]; simp
    have hdg : ∀ (i : Nat) cs, ds[i]? = some cs → i < ns.length ∧ cs = fs i := fun i cs hcs => by
      have hlt := (List.getElem?_eq_some_iff.1 hcs).1
      rw [hdl] at hlt
      refine ⟨hlt, ?_⟩
      rw [hds] at hcs
      simp [hlt] at hcs
      exact hcs.symm
    have hd4 : ∀ cs ∈ ds, cs.length = 4 := fun cs hcs => by
      obtain ⟨i, hi, rfl⟩ := List.getElem_of_mem hcs
      obtain ⟨q1, q2⟩ := hdg i _ (List.getElem?_eq_getElem hi)
      rw [q2]; exact (hfs i q1).2.four
    have hfl := range_flat (w := w1) (b := g) ds o' hd4 (fun i cs hcs => by obtain ⟨q1, q2⟩ := hdg i cs hcs; rw [q2]; exact (hfs i q1).1)
    have hone := flat_one (w := w1) (css := ds) (fun cs hcs => by
      obtain ⟨i, hi, rfl⟩ := List.getElem_of_mem hcs
      obtain ⟨q1, q2⟩ := hdg i _ (List.getElem?_eq_getElem hi)
      rw [q2]; exact one4 (hfs i q1).2)
    refine wpList_append_own_at _ hgd s x 22 ho base 24 ip _ 4 56 Try.underlying22 hi hz0 hz1 hz2 rfl (by omega) v css.length _ hs h1'.row ⟨g, o', none⟩ ns.length c ds.flatten hx (by rw [flat_len4 ds hd4, hdl]) (fun j u hu => by rw [Addr.add_mid]; exact hfl j u hu) hone (by unfold maxLen; omega) (by omega) (Nat.le_trans hb hc0.size) ?_
    intro v' X hown hgr _ hat
    have hc : Chg v.ownBlock.toList w1 X := Chg.grown (Chg.refl _ _) hgr (by intro k hk; rw [hk]; simp)
    rw [← hdl] at hown
    exact h v' X (RowN.push h1 h2 h3 hc0 hl hown hdl (fun i k cs hk hcs => by
      obtain ⟨q1, q2⟩ := hdg i cs hcs
      have := (hfs i q1).2
      rw [List.getD_eq_getElem?_getD, hk] at this
      rw [q2]; exact this) hc hat) hc hat
end Go.Proofs.Ytofjocjljbkjgaa
namespace Go.Proofs.Ytofjocjljbkjgaa
open Go.RowKit
mutual
def makesT (id : Int) (ks : List Tr) (tx : ByteArray) : Tr → Bool → Tr × Bool
  | ⟨i, k, x, cs⟩, d => if d = false ∧ i = id then (⟨i, k, tx, ks⟩, true) else (⟨i, k, x, (makesL id ks tx cs d).1⟩, (makesL id ks tx cs d).2)
def makesL (id : Int) (ks : List Tr) (tx : ByteArray) : List Tr → Bool → List Tr × Bool
  | [], d => ([], d)
  | c :: cs, d => ((makesT id ks tx c d).1 :: (makesL id ks tx cs (makesT id ks tx c d).2).1, (makesL id ks tx cs (makesT id ks tx c d).2).2)
end
theorem makesT_eq (id : Int) (ks : List Tr) (tx : ByteArray) (t : Tr) (d : Bool) : makesT id ks tx t d = if d = false ∧ t.id = id then ({ t with text := tx, kids := ks }, true) else ({ t with kids := (makesL id ks tx t.kids d).1 }, (makesL id ks tx t.kids d).2) := by
  cases t; rw [makesT]
theorem makesL_len (id : Int) (ks : List Tr) (tx : ByteArray) : ∀ (cs : List Tr) (d : Bool), (makesL id ks tx cs d).1.length = cs.length
  | [], d => rfl
  | c :: cs, d => by simp only [makesL, List.length_cons, makesL_len id ks tx cs]
theorem makesL_take (id : Int) (ks : List Tr) (tx : ByteArray) : ∀ (cs : List Tr) (k : Nat) (d : Bool) (h : k < cs.length), makesL id ks tx (cs.take (k + 1)) d = ((makesL id ks tx (cs.take k) d).1 ++ [(makesT id ks tx cs[k] (makesL id ks tx (cs.take k) d).2).1], (makesT id ks tx cs[k] (makesL id ks tx (cs.take k) d).2).2)
  | [], k, d, h => by simp at h
  | c :: cs, 0, d, h => by simp [makesL]
  | c :: cs, k + 1, d, h => by
    simp only [List.take_succ_cons, makesL, List.getElem_cons_succ]
    rw [makesL_take id ks tx cs k _ (by simpa using h)]
    rfl
mutual
theorem makesT_done (id : Int) (ks : List Tr) (tx : ByteArray) : ∀ t : Tr, makesT id ks tx t true = (t, true)
  | ⟨i, k, x, cs⟩ => by rw [makesT, if_neg (by simp), makesL_done id ks tx cs]
theorem makesL_done (id : Int) (ks : List Tr) (tx : ByteArray) : ∀ cs : List Tr, makesL id ks tx cs true = (cs, true)
  | [] => rfl
  | c :: cs => by simp only [makesL, makesT_done id ks tx c, makesL_done id ks tx cs]
end
mutual
theorem makesT_none (id : Int) (ks : List Tr) (tx : ByteArray) : ∀ t : Tr, t.path id = none → makesT id ks tx t false = (t, false)
  | ⟨i, k, x, cs⟩, h => by
    rw [Tr.path] at h
    by_cases hi : i = id
    · rw [if_pos hi] at h; cases h
    · rw [if_neg hi] at h
      rw [makesT, if_neg (by simp [hi]), makesL_none id ks tx cs 0 h]
theorem makesL_none (id : Int) (ks : List Tr) (tx : ByteArray) : ∀ (cs : List Tr) (n : Nat), pathL id cs n = none → makesL id ks tx cs false = (cs, false)
  | [], n, h => rfl
  | c :: cs, n, h => by
    rw [pathL] at h
    cases hp : c.path id with
    | some p => rw [hp] at h; cases h
    | none =>
      rw [hp] at h
      simp only [makesL, makesT_none id ks tx c hp, makesL_none id ks tx cs (n + 1) h]
end
mutual
theorem makesT_path (id : Int) (ks : List Tr) (tx : ByteArray) : ∀ (t n : Tr) (p : List Nat), t.path id = some p → Tr.at? p t = some n → makesT id ks tx t false = (Tr.upd p t { n with text := tx, kids := ks }, true)
  | ⟨i, k, x, cs⟩, n, p, h, hn => by
    rw [Tr.path] at h
    by_cases hi : i = id
    · rw [if_pos hi] at h
      simp only [Option.some.injEq] at h
      subst h
      simp only [Tr.at?, Option.some.injEq] at hn
      subst hn
      rw [makesT, if_pos ⟨rfl, hi⟩]; rfl
    · rw [if_neg hi] at h
      obtain ⟨j, q, c, rfl, hc, hq, hm⟩ := makesL_path id ks tx cs 0 p h
      rw [Nat.zero_add] at hn ⊢
      simp only [Tr.at?, hc] at hn
      rw [makesT, if_neg (by simp [hi]), hm n hn]
      simp only [Tr.upd, hc]
theorem makesL_path (id : Int) (ks : List Tr) (tx : ByteArray) : ∀ (cs : List Tr) (m : Nat) (p : List Nat), pathL id cs m = some p → ∃ j q c, p = (m + j) :: q ∧ cs[j]? = some c ∧ c.path id = some q ∧ ∀ n, Tr.at? q c = some n → makesL id ks tx cs false = (cs.set j (Tr.upd q c { n with text := tx, kids := ks }), true)
  | [], m, p, h => by simp [pathL] at h
  | c :: cs, m, p, h => by
    rw [pathL] at h
    cases hp : c.path id with
    | some q =>
      rw [hp] at h
      simp only [Option.some.injEq] at h
      subst h
      refine ⟨0, q, c, rfl, rfl, hp, fun n hn => ?_⟩
      simp only [makesL, makesT_path id ks tx c n q hp hn, makesL_done, List.set_cons_zero]
    | none =>
      rw [hp] at h
      obtain ⟨j, q, c', e, hc, hq, hm⟩ := makesL_path id ks tx cs (m + 1) p h
      refine ⟨j + 1, q, c', by rw [e]; congr 1; omega, by simpa using hc, hq, fun n hn => ?_⟩
      simp only [makesL, makesT_none id ks tx c hp, hm n hn, List.set_cons_succ]
end
mutual
def parR (id : Int) : Tr → Option (Tr × Nat)
  | ⟨i, k, x, cs⟩ => parRL id ⟨i, k, x, cs⟩ cs 0
def parRL (id : Int) (t : Tr) : List Tr → Nat → Option (Tr × Nat)
  | [], _ => none
  | c :: cs, n => if c.id = id then some (t, n) else match parR id c with
    | some r => some r
    | none => parRL id t cs (n + 1)
end
theorem parR_eq (id : Int) (t : Tr) : parR id t = parRL id t t.kids 0 := by cases t; rw [parR]
theorem parRL_step {id : Int} {t : Tr} : ∀ {cs : List Tr} {n k : Nat}, (∀ j (hj : j < k) (hl : j < cs.length), (cs[j]).id ≠ id ∧ parR id cs[j] = none) → k ≤ cs.length → parRL id t cs n = parRL id t (cs.drop k) (n + k)
  | cs, n, 0, _, _ => by simp
  | [], n, k + 1, _, h => by simp at h
  | c :: cs, n, k + 1, h, hl => by
    have h0 := h 0 (by omega) (by simp)
    simp only [List.getElem_cons_zero] at h0
    rw [parRL, if_neg h0.1, h0.2]
    simp only [List.drop_succ_cons]
    rw [parRL_step (k := k) (fun j hj hl' => by have := h (j + 1) (by omega) (by simpa using hl'); simpa using this) (by simpa using hl), show n + 1 + k = n + (k + 1) by omega]
mutual
def repT (id : Int) (ks : List Tr) : Tr → Tr
  | ⟨i, k, x, cs⟩ => match repL id ks cs with
    | some none => ⟨i, k, x, ks⟩
    | some (some l) => ⟨i, k, x, l⟩
    | none => ⟨i, k, x, cs⟩
def repL (id : Int) (ks : List Tr) : List Tr → Option (Option (List Tr))
  | [] => none
  | c :: cs => if c.id = id then some none else if (parR id c).isSome then some (some (repT id ks c :: cs)) else match repL id ks cs with
    | some (some l) => some (some (c :: l))
    | some none => some none
    | none => none
end
theorem repT_eq (id : Int) (ks : List Tr) (t : Tr) : repT id ks t = match repL id ks t.kids with
    | some none => { t with kids := ks }
    | some (some l) => { t with kids := l }
    | none => t := by cases t; rw [repT]
theorem repL_none {id : Int} {ks : List Tr} : ∀ {cs : List Tr}, (∀ j (hl : j < cs.length), (cs[j]).id ≠ id ∧ parR id cs[j] = none) → repL id ks cs = none
  | [], _ => rfl
  | c :: cs, h => by
    have h0 := h 0 (by simp)
    simp only [List.getElem_cons_zero] at h0
    rw [repL, if_neg h0.1, h0.2, repL_none (cs := cs) (fun j hl => by have := h (j + 1) (by simpa using hl); simpa using this)]
    rfl
theorem repL_here {id : Int} {ks : List Tr} : ∀ {cs : List Tr} {k : Nat} (hk : k < cs.length), (cs[k]).id = id → (∀ j (hj : j < k), (cs[j]'(by omega)).id ≠ id ∧ parR id (cs[j]'(by omega)) = none) → repL id ks cs = some none
  | [], k, hk, _, _ => by simp at hk
  | c :: cs, 0, hk, he, _ => by simp only [List.getElem_cons_zero] at he; rw [repL, if_pos he]
  | c :: cs, k + 1, hk, he, h => by
    have h0 := h 0 (by omega)
    simp only [List.getElem_cons_zero] at h0
    rw [repL, if_neg h0.1, h0.2, repL_here (cs := cs) (k := k) (by simpa using hk) (by simpa using he) (fun j hj => by have := h (j + 1) (by omega); simpa using this)]
    rfl
theorem repL_in {id : Int} {ks : List Tr} : ∀ {cs : List Tr} {k : Nat} (hk : k < cs.length), (cs[k]).id ≠ id → (parR id cs[k]).isSome = true → (∀ j (hj : j < k), (cs[j]'(by omega)).id ≠ id ∧ parR id (cs[j]'(by omega)) = none) → repL id ks cs = some (some (cs.set k (repT id ks cs[k])))
  | [], k, hk, _, _, _ => by simp at hk
  | c :: cs, 0, hk, he, hp, _ => by simp only [List.getElem_cons_zero] at he hp; rw [repL, if_neg he, if_pos hp]; rfl
  | c :: cs, k + 1, hk, he, hp, h => by
    have h0 := h 0 (by omega)
    simp only [List.getElem_cons_zero] at h0
    rw [repL, if_neg h0.1, h0.2, repL_in (cs := cs) (k := k) (by simpa using hk) (by simpa using he) (by simpa using hp) (fun j hj => by have := h (j + 1) (by omega); simpa using this)]
    rfl
mutual
theorem out_par (id : Int) : ∀ t : Tr, match t.out id with
    | none => parR id t = none
    | some (y, r) => ∃ pn k, parR id t = some (pn, k) ∧ k < pn.kids.length ∧ repT id (pn.kids.eraseIdx k) t = r
  | ⟨i, k, x, cs⟩ => by
    have h := outL_par id ⟨i, k, x, cs⟩ cs 0
    rw [Tr.out]
    cases ho : outL id cs with
    | none =>
      rw [ho] at h
      simp only [] at h ⊢
      rw [parR]; exact h.1
    | some yr =>
      obtain ⟨y, rs⟩ := yr
      rw [ho] at h
      simp only [] at h ⊢
      rw [parR]
      rcases h with ⟨m, h1, h2, h3, h4⟩ | ⟨pn, m, h1, h2, h3⟩
      · exact ⟨⟨i, k, x, cs⟩, m, by rw [h1, Nat.zero_add], h2, by rw [repT, h4]; show (⟨i, k, x, cs.eraseIdx m⟩ : Tr) = _; rw [h3]⟩
      · exact ⟨pn, m, h1, h2, by rw [repT, h3]⟩
theorem outL_par (id : Int) : ∀ (t : Tr) (cs : List Tr) (n : Nat), match outL id cs with
    | none => parRL id t cs n = none ∧ ∀ ks, repL id ks cs = none
    | some (y, rs) => (∃ m, parRL id t cs n = some (t, n + m) ∧ m < cs.length ∧ cs.eraseIdx m = rs ∧ ∀ ks, repL id ks cs = some none) ∨ (∃ pn m, parRL id t cs n = some (pn, m) ∧ m < pn.kids.length ∧ repL id (pn.kids.eraseIdx m) cs = some (some rs))
  | t, [], n => ⟨rfl, fun _ => rfl⟩
  | t, c :: cs, n => by
    rw [outL]
    by_cases hc : c.id = id
    · rw [if_pos hc]
      simp only []
      exact .inl ⟨0, by rw [parRL, if_pos hc]; rfl, by simp, rfl, fun ks => by rw [repL, if_pos hc]⟩
    · rw [if_neg hc]
      have h1 := out_par id c
      have h2 := outL_par id t cs (n + 1)
      cases ho : c.out id with
      | some yr =>
        obtain ⟨y, r⟩ := yr
        rw [ho] at h1
        simp only [] at h1 ⊢
        obtain ⟨pn, m, e1, e2, e3⟩ := h1
        exact .inr ⟨pn, m, by rw [parRL, if_neg hc, e1], e2, by rw [repL, if_neg hc, e1, if_pos (show (some (pn, m)).isSome = true from rfl), e3]⟩
      | none =>
        rw [ho] at h1
        simp only [] at h1 ⊢
        cases hos : outL id cs with
        | none =>
          rw [hos] at h2
          simp only [] at h2 ⊢
          exact ⟨by rw [parRL, if_neg hc, h1]; exact h2.1, fun ks => by rw [repL, if_neg hc, h1, h2.2 ks]; rfl⟩
        | some yr =>
          obtain ⟨y, rs⟩ := yr
          rw [hos] at h2
          simp only [] at h2 ⊢
          rcases h2 with ⟨m, e1, e2, e3, e4⟩ | ⟨pn, m, e1, e2, e3⟩
          · exact .inl ⟨m + 1, by rw [parRL, if_neg hc, h1]; simp only []; rw [e1]; congr 2; omega, by simp; omega, by simp only [List.eraseIdx_cons_succ, e3], fun ks => by rw [repL, if_neg hc, h1, e4 ks]; rfl⟩
          · exact .inr ⟨pn, m, by rw [parRL, if_neg hc, h1]; exact e1, e2, by rw [repL, if_neg hc, h1, e3]; rfl⟩
end
end Go.Proofs.Ytofjocjljbkjgaa
namespace Go.Proofs.Ytofjocjljbkjgaa
open Go.RowKit
theorem RowV.growL {w1 w2 : World} {base : Nat} {v : Value} {ks : List Tr} {F : Nat → Prop} {l : List Nat} (h : RowV w1 base v ks F) (hc : Chg l w1 w2) (h1 : ∀ b, v.ownBlock = some b → b ∉ l) (h2 : ∀ g, F g → g ∉ l) :
    ∃ xs, w2.ownsRow base 24 4 v ks.length xs ∧ ∀ (k : Tr) (cs : List Value) (G : Nat → Prop) (w3 : World) (v' : Value), TrV w2 k cs G → (∀ x, G x → F x ∧ w1.heap.size ≤ x ∧ x < w2.heap.size) → w3.ownsRow base 24 4 v' (ks.length + 1) (xs ++ cs) → w2.grownBy w3 v.ownBlock → (v'.ownBlock = v.ownBlock ∨ v'.ownBlock = some w2.heap.size) → RowV w3 base v' (ks ++ [k]) F := by
  have hv := h.own
  obtain ⟨css, fs, ho, hl, hk, hF, hd⟩ := h
  refine ⟨css.flatten, own_kept ho hc h1, fun k cs G w3 v' hT hG ho' hg hat => ?_⟩
  refine RowV.push hl (fun i k' cs' h1' h2' => (hk i k' cs' h1' h2').kept hc (fun g hg => h2 g (hF i g (by rw [← hl]; exact (List.getElem?_eq_some_iff.1 h2').1) hg).1)) (fun i x hi hx => ⟨(hF i x hi hx).1, Nat.lt_of_lt_of_le (hF i x hi hx).2.1 hc.size, (hF i x hi hx).2.2⟩) hd hT (fun x hx => ?_) ho' hg hat
  obtain ⟨a, b, c⟩ := hG x hx
  exact ⟨a, c, fun e => by have := hv x e; omega, fun i hi hf => by have := hF i x hi hf; omega⟩
def CBx (pc : Nat) (id : Int) (ks : List Tr) (K : Option Addr) (ck : Nat) (tx : ByteArray) (d : Bool) (w : World) : Prop := w.heap[pc]? = some (.cells #[.int .i64 id, .slice K ks.length ck, .string tx, .bool d] 158 (0, 0))
def MakesPost (r : Tr × Bool) (pc : Nat) (id : Int) (ks : List Tr) (K : Option Addr) (ck : Nat) (tx : ByteArray) (w : World) (e : Ending) (w' : World) : Prop :=
  ∃ A c, e = .returned (.agg #[.int .i64 (Tr.id r.1), .int .i64 (Tr.kind r.1), .string (Tr.text r.1), .slice A (Tr.kids r.1).length c]) ∧ TrV w' r.1 [.int .i64 (Tr.id r.1), .int .i64 (Tr.kind r.1), .string (Tr.text r.1), .slice A (Tr.kids r.1).length c] (fun g => w.heap.size ≤ g ∧ g < w'.heap.size) ∧ CBx pc id ks K ck tx r.2 w' ∧ Chg [pc] w w'
structure Mk (w wr : World) (pc : Nat) (id : Int) (ks : List Tr) (K : Option Addr) (ck : Nat) (tx : ByteArray) (d : Bool) (t : Tr) (A : Option Addr) (c : Nat) (tx' : ByteArray) (v : Value) (ns : List Tr) : Prop where
  arg : wr.heap[w.heap.size]? = some (.cells #[.int .i64 (Tr.id t), .int .i64 (Tr.kind t), .string (Tr.text t), .slice A (Tr.kids t).length c] 24 (0, 0))
  res : wr.heap[w.heap.size + 1]? = some (.cells #[.int .i64 0, .int .i64 0, .string ⟨#[]⟩, .slice none 0 0] 24 (0, 0))
  out : wr.heap[w.heap.size + 2]? = some (.cells #[.int .i64 t.id, .int .i64 t.kind, .string tx', v] 24 (0, 0))
  cb : CBx pc id ks K ck tx d wr
  chg : Chg [pc] w wr
  row : RowV wr (w.heap.size + 3) v ns (fun g => w.heap.size + 3 ≤ g)
set_option maxHeartbeats 4000000 in
set_option maxRecDepth 100000 in
theorem makes_any (pc : Nat) (id : Int) (ks : List Tr) (K : Option Addr) (ck : Nat) (tx : ByteArray) (hkn : nodesL ks ≤ 100000) (htx : tx.size ≤ 9223372036854775807) (hkc : ks.length ≤ ck) (hck : ck ≤ 9223372036854775807) : ∀ (t : Tr) (A : Option Addr) (c : Nat) (d : Bool) (w : World), TrC (fun b => b ≠ pc) w t [.int .i64 (Tr.id t), .int .i64 (Tr.kind t), .string (Tr.text t), .slice A (Tr.kids t).length c] → CBx pc id ks K ck tx d w → KidsC (fun b => b ≠ pc) w K ks → t.nodes ≤ 100000 →
    Calls Try.prog 114 #[.pointer (some ⟨pc, 0, none⟩), .agg #[.int .i64 (Tr.id t), .int .i64 (Tr.kind t), .string (Tr.text t), .slice A (Tr.kids t).length c]] w (MakesPost (makesT id ks tx t d) pc id ks K ck tx w) := by
  intro t
  induction t using Tr.ind with
  | h t ih =>
  intro A c d w hT hC hK hN
  obtain ⟨ip, hi, hz0, hz1, hz2⟩ := info_parts infoNode
  obtain ⟨A', c', hcs, hlc, hcm, htxt, hKt⟩ := hT.opens
  simp only [List.cons.injEq, Value.slice.injEq, true_and, and_true] at hcs
  obtain ⟨rfl, rfl⟩ := hcs
  have hlen : t.kids.length ≤ 100000 := by have := nodesL_len t.kids; rw [Tr.nodes_eq] at hN; omega
  have hklen : ks.length ≤ 100000 := by have := nodesL_len ks; omega
  obtain ⟨W, hW⟩ : ∃ W, W = ((w.alloc (.cells #[.int .i64 (Tr.id t), .int .i64 (Tr.kind t), .string (Tr.text t), .slice A (Tr.kids t).length c] 24)).alloc (.cells #[.int .i64 0, .int .i64 0, .string ⟨#[]⟩, .slice none 0 0] 24)).alloc (.cells #[.int .i64 t.id, .int .i64 t.kind, .string t.text, .slice none 0 0] 24) := ⟨_, rfl⟩
  have hcW : Chg [] w W := by rw [hW]; exact (by with_reducible repeat (first | exact Chg.refl _ _ | apply Chg.alloc | apply Chg.drew | apply Chg.drewN | (refine Chg.setCell ?_ _ _ (by simp))))
  have hmk : Mk w W pc id ks K ck tx d t A c t.text (.slice none 0 0) [] := ⟨by rw [hW]; exact heap_old (heap_old (heap_new _ _ rfl) _) _, by rw [hW]; exact heap_old (heap_new _ _ (by simp)) _, by rw [hW]; exact heap_new _ _ (by simp), hcW.at hC (by simp), hcW.mono (by simp), RowV.nil _ _ _⟩
  have hpl := lt_of_block hC
  have HI := Lib.hid (And.intro hi (And.intro hz0 (And.intro hz1 hz2)))
  have HH := Lib.hid (And.intro ih (And.intro hN (And.intro hKt hK)))
  obtain ⟨a0, a1, a2, a3⟩ := blk4 hmk.arg
  obtain ⟨k0, k1, k2, k3⟩ := blk4 hmk.cb
  have f3 := blkF hmk.cb 3
  have HW := Lib.hid (And.intro hW hmk)
  clear hi hz0 hz1 hz2 hT hKt ih hN hC hK hmk hcW
  by_cases hcase : d = false ∧ t.id = id
  · obtain ⟨rfl, hid⟩ := hcase
    have hb : (t.id == id) = true := by simpa using hid
    have hres : makesT id ks tx t false = ({ t with text := tx, kids := ks }, true) := by rw [makesT_eq, if_pos ⟨rfl, hid⟩]
    rw [hres]
    have HR := Lib.hid hid
    clear hid hres
    go_enter Try.func114, Try.ntmps114
    go_wp2_with (skip; fail)
    rw [← HW.out.1]
    refine wp_region_M (fun _ => True) (fun k => [].contains k) (fun k => [].contains k) (by kernel_rfl) ?_
    obtain ⟨X, hX⟩ : ∃ X, X = W.drew := ⟨_, rfl⟩
    rw [← hX]
    have hcX : Chg [] W X := by rw [hX]; exact (Chg.refl _ _).drew
    clear a0 a1 a2 a3 k0 k1 k2 k3 f3 hX
    obtain ⟨a0, a1, a2, a3⟩ := blk4 (hcX.at HW.out.2.arg (by simp))
    obtain ⟨k0, k1, k2, k3⟩ := blk4 (hcX.at HW.out.2.cb (by simp))
    ((try dsimp only); (try simp only [Act.put, List.setIfInBounds_toArray, List.set_cons_zero, List.set_cons_succ]))
    refine M_pure (i := 0) (v := ?_) rfl (by kernel_rfl) (by kernel_rfl) (by kernel_rfl) (fun _ _ _ h => h) (by rfl) ?hy ?_; (case hy => (intro w; go_simp; with_reducible rfl)); ((try dsimp only); (try simp only [Act.put, List.setIfInBounds_toArray, List.set_cons_zero, List.set_cons_succ]))
    refine M_pure (i := 1) (v := ?_) rfl (by kernel_rfl) (by kernel_rfl) (by kernel_rfl) (fun _ _ _ h => h) (by rfl) ?hy ?_; (case hy => (intro w; go_simp; with_reducible rfl)); ((try dsimp only); (try simp only [Act.put, List.setIfInBounds_toArray, List.set_cons_zero, List.set_cons_succ]))
    refine M_pure (i := 2) (v := ?_) rfl (by kernel_rfl) (by kernel_rfl) (by kernel_rfl) (fun _ _ _ h => h) (by rfl) ?hy ?_; (case hy => (intro w; go_simp; with_reducible rfl)); ((try dsimp only); (try simp only [Act.put, List.setIfInBounds_toArray, List.set_cons_zero, List.set_cons_succ]))
    refine M_take (i := 3) (v := ?_) rfl (by kernel_rfl) (by kernel_rfl) (by kernel_rfl) (by kernel_rfl) (fun _ _ _ h => h) (by rfl) ?hy ?_; (case hy => (go_simp; with_reducible rfl)); ((try dsimp only); (try simp only [Act.put, List.setIfInBounds_toArray, List.set_cons_zero, List.set_cons_succ]))
    refine M_pure (i := 4) (v := ?_) rfl (by kernel_rfl) (by kernel_rfl) (by kernel_rfl) (fun _ _ _ h => h) (by rfl) ?hy ?_; (case hy => (intro w; go_simp; with_reducible rfl)); ((try dsimp only); (try simp only [Act.put, List.setIfInBounds_toArray, List.set_cons_zero, List.set_cons_succ]))
    refine M_pure (i := 5) (v := ?_) rfl (by kernel_rfl) (by kernel_rfl) (by kernel_rfl) (fun _ _ _ h => h) (by rfl) ?hy ?_; (case hy => (intro w; go_simp; with_reducible rfl)); ((try dsimp only); (try simp only [Act.put, List.setIfInBounds_toArray, List.set_cons_zero, List.set_cons_succ]))
    refine M_pure (i := 6) (v := ?_) rfl (by kernel_rfl) (by kernel_rfl) (by kernel_rfl) (fun _ _ _ h => h) (by rfl) ?hy ?_; (case hy => (intro w; go_simp; with_reducible rfl)); ((try dsimp only); (try simp only [Act.put, List.setIfInBounds_toArray, List.set_cons_zero, List.set_cons_succ]))
    refine M_take (i := 7) (v := ?_) rfl (by kernel_rfl) (by kernel_rfl) (by kernel_rfl) (by kernel_rfl) (fun _ _ _ h => h) (by rfl) ?hy ?_; (case hy => (go_simp; with_reducible rfl)); ((try dsimp only); (try simp only [Act.put, List.setIfInBounds_toArray, List.set_cons_zero, List.set_cons_succ]))
    refine M_pure (i := 8) (v := ?_) rfl (by kernel_rfl) (by kernel_rfl) (by kernel_rfl) (fun _ _ _ h => h) (by rfl) ?hy ?_; (case hy => (intro w; go_simp; with_reducible rfl)); ((try dsimp only); (try simp only [Act.put, List.setIfInBounds_toArray, List.set_cons_zero, List.set_cons_succ]))
    refine M_pure (i := 9) (v := ?_) rfl (by kernel_rfl) (by kernel_rfl) (by kernel_rfl) (fun _ _ _ h => h) (by rfl) ?hy ?_; (case hy => (intro w; go_simp; with_reducible rfl)); ((try dsimp only); (try simp only [Act.put, List.setIfInBounds_toArray, List.set_cons_zero, List.set_cons_succ]))
    refine M_pure (i := 10) (v := ?_) rfl (by kernel_rfl) (by kernel_rfl) (by kernel_rfl) (fun _ _ _ h => h) (by rfl) ?hy ?_; (case hy => (intro w; go_simp; with_reducible rfl)); ((try dsimp only); (try simp only [Act.put, List.setIfInBounds_toArray, List.set_cons_zero, List.set_cons_succ]))
    refine M_take (i := 11) (v := ?_) rfl (by kernel_rfl) (by kernel_rfl) (by kernel_rfl) (by kernel_rfl) (fun _ _ _ h => h) (by rfl) ?hy ?_; (case hy => (go_simp; with_reducible rfl)); ((try dsimp only); (try simp only [Act.put, List.setIfInBounds_toArray, List.set_cons_zero, List.set_cons_succ]))
    refine M_pure (i := 12) (v := ?_) rfl (by kernel_rfl) (by kernel_rfl) (by kernel_rfl) (fun _ _ _ h => h) (by rfl) ?hy ?_; (case hy => (intro w; go_simp; with_reducible rfl)); ((try dsimp only); (try simp only [Act.put, List.setIfInBounds_toArray, List.set_cons_zero, List.set_cons_succ]))
    refine M_pure (i := 13) (v := ?_) rfl (by kernel_rfl) (by kernel_rfl) (by kernel_rfl) (fun _ _ _ h => h) (by rfl) ?hy ?_; (case hy => (intro w; go_simp; with_reducible rfl)); ((try dsimp only); (try simp only [Act.put, List.setIfInBounds_toArray, List.set_cons_zero, List.set_cons_succ]))
    refine M_done (by kernel_rfl) ?_ _
    clear a0 a1 a2 a3 k0 k1 k2 k3
    have hcb := hcX.at HW.out.2.cb (by simp)
    have hou := hcX.at HW.out.2.out (by simp)
    obtain ⟨k0, k1, k2, k3⟩ := blk4 hcb
    have f3 := blkF hcb 3
    obtain ⟨o0, o1, o2, o3⟩ := blk4 hou
    have f2 := blkF hou 2
    have hpw : pc ≠ w.heap.size + 2 := by omega
    obtain ⟨Z, hZ⟩ : ∃ Z, Z = (X.setCell ⟨pc, 3, none⟩ (.bool true)).setCell ⟨w.heap.size + 2, 2, none⟩ (.string tx) := ⟨_, rfl⟩
    have hcZ1 : Chg [pc] X (X.setCell ⟨pc, 3, none⟩ (.bool true)) := (Chg.refl _ _).setCell _ _ (by simp)
    have hcZ2 : Chg [w.heap.size + 2] (X.setCell ⟨pc, 3, none⟩ (.bool true)) Z := by rw [hZ]; exact (Chg.refl _ _).setCell _ _ (by simp)
    have hmk : Mk w Z pc id ks K ck tx true t A c tx (.slice none 0 0) (ks.take 0) := by
      refine ⟨hcZ2.at (hcZ1.at (hcX.at HW.out.2.arg (by simp)) (by simp; omega)) (by simp), hcZ2.at (hcZ1.at (hcX.at HW.out.2.res (by simp)) (by simp; omega)) (by simp), ?_, hcZ2.at (heap_setCell_same _ _ 3 _ _ _ hcb) (by simpa using hpw), ((HW.out.2.chg.trans (hcX.mono (by simp))).trans hcZ1).andThen hcZ2 (by simp), by rw [List.take_zero]; exact RowV.nil _ _ _⟩
      rw [hZ]; exact heap_setCell_same _ _ 2 _ _ _ (hcZ1.at hou (by simp; omega))
    have HZ := Lib.hid (And.intro hZ hmk)
    clear hcX hcb hou hZ hcZ1 hcZ2 hmk
    go_wp2_with (skip; fail)
    rw [← HZ.out.1]
    clear k0 k1 k2 k3 f3 o0 o1 o2 o3 f2
    go_loopw [6] (fun i wr => ∃ (k : Nat) (v : Value), k ≤ ks.length ∧ i = .int .i64 k ∧ Hid (Mk w wr pc id ks K ck tx true t A c tx v (ks.take k))) (fun i _ => ks.length - (intOf i).toNat)
    case atStart => exact ⟨0, _, Nat.zero_le _, rfl, Lib.hid HZ.out.2⟩
    case round =>
      obtain ⟨k, v, hk, rfl, H⟩ := hrel
      obtain ⟨U, hU⟩ : ∃ U, U = wr := ⟨_, rfl⟩
      subst hU
      obtain ⟨k0, k1, k2, k3⟩ := blk4 H.out.cb
      obtain ⟨Av, cv, rfl⟩ : ∃ Av cv, v = .slice Av k cv := by
        obtain ⟨css, fs, ho, _⟩ := H.out.row
        obtain ⟨Av, cv, e⟩ := own_slice ho
        rw [show (ks.take k).length = k from by simp; omega] at e
        exact ⟨Av, cv, e⟩
      by_cases hlt : k < ks.length
      · obtain ⟨gk, ok, cs, rfl, hgk, hr, hat⟩ := HH.out.2.2.2 k _ (List.getElem?_eq_getElem hlt)
        obtain ⟨Ak, ckk, rfl, _⟩ := hat.opens
        have hr' := H.out.chg.range hr (by simpa using hgk)
        have hkn' : (ks[k]).nodes ≤ 100000 := by have := nodesL_mem (List.getElem_mem hlt); omega
        have hcall := copy_any (ks[k]) Ak ckk U ((hat.kept H.out.chg (by simp)).weak (fun _ _ _ => trivial)) hkn'
        have HC := Lib.hid (And.intro hcall hr')
        clear hcall hat hkn' hr hr' hgk
        go_wp2_with (first
          | (refine wpList_load_mid rfl 24 (.tmp 53) rfl gk (ok + k * 4) rfl _ _ HC.out.2 Try.underlying24 rfl szNode ?_)
          | (go_at_call 65; refine HC.out.1.mono ?_; rintro e X2 ⟨A1, c1, rfl, hV, hX⟩; have HX := Lib.hid (And.intro hV hX); have hXa : Chg [] X2 (X2.alloc (.cells #[.int .i64 (Tr.id (ks[k])), .int .i64 (Tr.kind (ks[k])), .string (Tr.text (ks[k])), .slice A1 (Tr.kids (ks[k])).length c1] 24)) := (by with_reducible repeat (first | exact Chg.refl _ _ | apply Chg.alloc | apply Chg.drew | apply Chg.drewN | (refine Chg.setCell ?_ _ _ (by simp)))); have hou := (hX.trans hXa).at H.out.out (by simp); obtain ⟨o0, o1, o2, o3⟩ := blk4 hou; have of3 := blkF hou 3; clear hV hX hXa hou)
          | (have hwr := lt_of_block H.out.out
             have hXs := HX.out.2.size
             have hXa : Chg [] X2 ((X2.alloc (.cells #[.int .i64 (Tr.id (ks[k])), .int .i64 (Tr.kind (ks[k])), .string (Tr.text (ks[k])), .slice A1 (Tr.kids (ks[k])).length c1] 24)).alloc (.cells #[.int .i64 (Tr.id (ks[k])), .int .i64 (Tr.kind (ks[k])), .string (Tr.text (ks[k])), .slice A1 (Tr.kids (ks[k])).length c1] 24)) := (by with_reducible repeat (first | exact Chg.refl _ _ | apply Chg.alloc | apply Chg.drew | apply Chg.drewN | (refine Chg.setCell ?_ _ _ (by simp))))
             obtain ⟨xs, hown, hgrow⟩ := H.out.row.grow (HX.out.2.trans hXa)
             rw [show (ks.take k).length = k from by simp; omega] at hown hgrow
             have HG := Lib.hid (And.intro hgrow hXa)
             clear hgrow hXa
             refine wpList_append_own_at _ rfl (.tmp 57) (.tmp 59) 22 rfl _ 24 ip _ 4 56 Try.underlying22 HI.out.1 HI.out.2.1 HI.out.2.2.1 HI.out.2.2.2 rfl (by omega) (.slice Av k cv) _ _ rfl hown ⟨X2.heap.size + 1, 0, none⟩ 1 1 _ rfl rfl (fun j u hu => by rw [Addr.add_mid]; exact range_all (heap_new (X2.alloc _) _ (by simp)) j u hu) (HX.out.1.one) (by unfold maxLen; omega) (by omega) (by simp; omega) ?_
             intro v' X3 hown' hgr _ hat
             have hrow3 := HG.out.1 _ _ _ X3 v' (HX.out.1.kept HG.out.2 (by simp)) (fun x hx => ⟨by omega, hx.1, Nat.lt_of_lt_of_le hx.2 HG.out.2.size⟩) hown' hgr hat
             rw [← take_snoc' _ _ hlt] at hrow3
             have hC3 : Chg (Value.slice Av k cv).ownBlock.toList U X3 := ((HX.out.2.trans HG.out.2).mono (by simp)).grown hgr (by intro k hk; rw [hk]; simp)
             have hnb : ∀ b, b ∈ (Value.slice Av k cv).ownBlock.toList → w.heap.size + 3 ≤ b := fun b hb => by have := H.out.row.own b (by simpa using hb); omega
             have hout3 := hC3.at H.out.out (fun hm => by have := hnb _ hm; omega)
             have s3 := (blk4 hout3).2.2.2
             have f3 := blkF hout3 3
             obtain ⟨A', c', rfl⟩ := own_slice hown'
             have H3 := Lib.hid (And.intro hrow3 (And.intro hC3 (And.intro hnb hout3)))
             clear hrow3 hgr hat hown' hC3 hnb hout3 HG)
          | (skip; fail))
        go_roundw
        case rel =>
          have hnb := H3.out.2.2.1
          have hCs : Chg [w.heap.size + 2] X3 (X3.setCell ⟨w.heap.size + 2, 3, none⟩ (.slice A' (k + 1) c')) := (Chg.refl _ _).setCell _ _ (by simp)
          have hnb3 : ∀ b, (Value.slice A' (k + 1) c').ownBlock = some b → w.heap.size + 3 ≤ b := fun b hb => by have := H3.out.1.own b hb; omega
          refine ⟨k + 1, .slice A' (k + 1) c', by omega, by go_num, Lib.hid ⟨?_, ?_, ?_, ?_, ?_, ?_⟩⟩
          · exact hCs.at (H3.out.2.1.at H.out.arg (fun hm => by have := hnb _ hm; omega)) (by simp)
          · exact hCs.at (H3.out.2.1.at H.out.res (fun hm => by have := hnb _ hm; omega)) (by simp)
          · exact heap_setCell_same _ _ 3 _ _ _ H3.out.2.2.2
          · exact hCs.at (H3.out.2.1.at H.out.cb (fun hm => by have := hnb _ hm; omega)) (by simp; omega)
          · exact (H.out.chg.andThen H3.out.2.1 (fun i hi => .inr (by have := hnb i hi; omega))).andThen hCs (fun i hi => .inr (by simp at hi; omega))
          · exact H3.out.1.kept hCs (fun b hb => by have := hnb3 b hb; simp; omega) (fun g hg => by simp; omega)
        case measure => simp [intOf]; omega
      · obtain rfl : k = ks.length := by omega
        have hrow := H.out.row
        rw [List.take_of_length_le (Nat.le_refl _)] at hrow
        obtain ⟨A', c', he, hV⟩ := RowV.node ({ t with text := tx, kids := ks } : Tr) hrow htx
        injection he with hA1 _ hc1
        subst hA1 hc1
        have HV := Lib.hid hV
        clear hrow hV
        obtain ⟨q0, q1, q2, q3⟩ := blk4 H.out.out
        obtain ⟨r0, r1, r2, r3⟩ := blk4 H.out.res
        have f0 := blkF H.out.res 0
        have f1 := blkF H.out.res 1
        have f2 := blkF H.out.res 2
        have f3 := blkF H.out.res 3
        go_wp2_with (skip; fail)
        have hC0 := chg4 U (w.heap.size + 1) (.int .i64 t.id) (.int .i64 t.kind) (.string tx) (.slice Av ks.length cv)
        have hsz := H.out.chg.size
        have hlt1 := lt_of_block H.out.out
        have hF : ∀ g, w.heap.size + 3 ≤ g ∨ (Value.slice Av ks.length cv).ownBlock = some g → w.heap.size + 3 ≤ g := fun g hg => by
          rcases hg with hg | hg
          · omega
          · have := H.out.row.own g hg; omega
        refine bodyPost_ret (v := .agg #[.int .i64 t.id, .int .i64 t.kind, .string tx, .slice Av ks.length cv]) (results_cell_row rfl _ _ (w.heap.size + 1) _ _ _ _ rfl (set4 H.out.res) Try.underlying24 rfl szNode) rfl ⟨Av, cv, rfl, ?_, hC0.at H.out.cb (by simp; omega), H.out.chg.andThen hC0 (fun i hi => by simp at hi; omega)⟩
        exact ((HV.out.bound.weak (F' := fun g => w.heap.size + 3 ≤ g ∧ g < U.heap.size) (fun g hg => ⟨hF g hg.1, hg.2⟩)).kept hC0 (fun g hg => by simp; omega)).weak (fun g hg => ⟨by omega, Nat.lt_of_lt_of_le hg.2 hC0.size⟩)
  · have hres : makesT id ks tx t d = ({ t with kids := (makesL id ks tx t.kids d).1 }, (makesL id ks tx t.kids d).2) := by rw [makesT_eq, if_neg hcase]
    rw [hres]
    have HR := Lib.hid hcase
    have HT := Lib.hid htxt
    have hmk0 : Mk w W pc id ks K ck tx (makesL id ks tx (t.kids.take 0) d).2 t A c t.text (.slice none 0 0) (makesL id ks tx (t.kids.take 0) d).1 := by rw [List.take_zero]; exact HW.out.2
    have HM := Lib.hid hmk0
    clear hres hmk0
    go_enter Try.func114, Try.ntmps114
    go_wp2_with (skip; fail)
    rw [← HW.out.1]
    refine wp_region_M (fun _ => True) (fun k => [].contains k) (fun k => [].contains k) (by kernel_rfl) ?_
    obtain ⟨X, hX⟩ : ∃ X, X = W.drew := ⟨_, rfl⟩
    rw [← hX]
    have hcX : Chg [] W X := by rw [hX]; exact (Chg.refl _ _).drew
    clear a0 a1 a2 a3 k0 k1 k2 k3 f3 hX
    obtain ⟨a0, a1, a2, a3⟩ := blk4 (hcX.at HM.out.arg (by simp))
    obtain ⟨k0, k1, k2, k3⟩ := blk4 (hcX.at HM.out.cb (by simp))
    have hmk1 : Mk w X pc id ks K ck tx (makesL id ks tx (t.kids.take 0) d).2 t A c t.text (.slice none 0 0) (makesL id ks tx (t.kids.take 0) d).1 := ⟨hcX.at HM.out.arg (by simp), hcX.at HM.out.res (by simp), hcX.at HM.out.out (by simp), hcX.at HM.out.cb (by simp), HM.out.chg.trans (hcX.mono (by simp)), by rw [List.take_zero]; exact RowV.nil _ _ _⟩
    have HZ := Lib.hid hmk1
    clear hcX hmk1
    simp only [List.take_zero, makesL] at k3
    have hd2 : d = true ∨ (d = false ∧ (t.id == id) = false) := by
      cases d with
      | true => exact .inl rfl
      | false => exact .inr ⟨rfl, by simpa using fun h => hcase ⟨rfl, h⟩⟩
    clear hcase
    rcases hd2 with hd | ⟨hd, hb⟩
    case' inl =>
      rw [hd] at k3
      clear hd
      ((try dsimp only); (try simp only [Act.put, List.setIfInBounds_toArray, List.set_cons_zero, List.set_cons_succ]))
      refine M_pure (i := 0) (v := ?_) rfl (by kernel_rfl) (by kernel_rfl) (by kernel_rfl) (fun _ _ _ h => h) (by rfl) ?hy ?_; (case hy => (intro w; go_simp; with_reducible rfl)); ((try dsimp only); (try simp only [Act.put, List.setIfInBounds_toArray, List.set_cons_zero, List.set_cons_succ]))
      refine M_pure (i := 1) (v := ?_) rfl (by kernel_rfl) (by kernel_rfl) (by kernel_rfl) (fun _ _ _ h => h) (by rfl) ?hy ?_; (case hy => (intro w; go_simp; with_reducible rfl)); ((try dsimp only); (try simp only [Act.put, List.setIfInBounds_toArray, List.set_cons_zero, List.set_cons_succ]))
      refine M_pure (i := 2) (v := ?_) rfl (by kernel_rfl) (by kernel_rfl) (by kernel_rfl) (fun _ _ _ h => h) (by rfl) ?hy ?_; (case hy => (intro w; go_simp; with_reducible rfl)); ((try dsimp only); (try simp only [Act.put, List.setIfInBounds_toArray, List.set_cons_zero, List.set_cons_succ]))
      refine M_take (i := 3) (v := ?_) rfl (by kernel_rfl) (by kernel_rfl) (by kernel_rfl) (by kernel_rfl) (fun _ _ _ h => h) (by rfl) ?hy ?_; (case hy => (go_simp; with_reducible rfl)); ((try dsimp only); (try simp only [Act.put, List.setIfInBounds_toArray, List.set_cons_zero, List.set_cons_succ]))
      refine M_pure (i := 4) (v := ?_) rfl (by kernel_rfl) (by kernel_rfl) (by kernel_rfl) (fun _ _ _ h => h) (by rfl) ?hy ?_; (case hy => (intro w; go_simp; with_reducible rfl)); ((try dsimp only); (try simp only [Act.put, List.setIfInBounds_toArray, List.set_cons_zero, List.set_cons_succ]))
      refine M_pure (i := 5) (v := ?_) rfl (by kernel_rfl) (by kernel_rfl) (by kernel_rfl) (fun _ _ _ h => h) (by rfl) ?hy ?_; (case hy => (intro w; go_simp; with_reducible rfl)); ((try dsimp only); (try simp only [Act.put, List.setIfInBounds_toArray, List.set_cons_zero, List.set_cons_succ]))
      refine M_skip (i := 6) rfl (by kernel_rfl) (by kernel_rfl) (by kernel_rfl) (fun _ _ _ h => h) (by rfl) ?_; ((try dsimp only); (try simp only [Act.put, List.setIfInBounds_toArray, List.set_cons_zero, List.set_cons_succ]))
      refine M_skip (i := 7) rfl (by kernel_rfl) (by kernel_rfl) (by kernel_rfl) (fun _ _ _ h => h) (by rfl) ?_; ((try dsimp only); (try simp only [Act.put, List.setIfInBounds_toArray, List.set_cons_zero, List.set_cons_succ]))
      refine M_skip (i := 8) rfl (by kernel_rfl) (by kernel_rfl) (by kernel_rfl) (fun _ _ _ h => h) (by rfl) ?_; ((try dsimp only); (try simp only [Act.put, List.setIfInBounds_toArray, List.set_cons_zero, List.set_cons_succ]))
      refine M_skip (i := 9) rfl (by kernel_rfl) (by kernel_rfl) (by kernel_rfl) (fun _ _ _ h => h) (by rfl) ?_; ((try dsimp only); (try simp only [Act.put, List.setIfInBounds_toArray, List.set_cons_zero, List.set_cons_succ]))
      refine M_skip (i := 10) rfl (by kernel_rfl) (by kernel_rfl) (by kernel_rfl) (fun _ _ _ h => h) (by rfl) ?_; ((try dsimp only); (try simp only [Act.put, List.setIfInBounds_toArray, List.set_cons_zero, List.set_cons_succ]))
      refine M_skip (i := 11) rfl (by kernel_rfl) (by kernel_rfl) (by kernel_rfl) (fun _ _ _ h => h) (by rfl) ?_; ((try dsimp only); (try simp only [Act.put, List.setIfInBounds_toArray, List.set_cons_zero, List.set_cons_succ]))
      refine M_skip (i := 12) rfl (by kernel_rfl) (by kernel_rfl) (by kernel_rfl) (fun _ _ _ h => h) (by rfl) ?_; ((try dsimp only); (try simp only [Act.put, List.setIfInBounds_toArray, List.set_cons_zero, List.set_cons_succ]))
      refine M_pure (i := 13) (v := ?_) rfl (by kernel_rfl) (by kernel_rfl) (by kernel_rfl) (fun _ _ _ h => h) (by rfl) ?hy ?_; (case hy => (intro w; go_simp; with_reducible rfl)); ((try dsimp only); (try simp only [Act.put, List.setIfInBounds_toArray, List.set_cons_zero, List.set_cons_succ]))
      refine M_done (by kernel_rfl) ?_ _
    case' inr =>
      rw [hd] at k3
      clear hd
      ((try dsimp only); (try simp only [Act.put, List.setIfInBounds_toArray, List.set_cons_zero, List.set_cons_succ]))
      refine M_pure (i := 0) (v := ?_) rfl (by kernel_rfl) (by kernel_rfl) (by kernel_rfl) (fun _ _ _ h => h) (by rfl) ?hy ?_; (case hy => (intro w; go_simp; with_reducible rfl)); ((try dsimp only); (try simp only [Act.put, List.setIfInBounds_toArray, List.set_cons_zero, List.set_cons_succ]))
      refine M_pure (i := 1) (v := ?_) rfl (by kernel_rfl) (by kernel_rfl) (by kernel_rfl) (fun _ _ _ h => h) (by rfl) ?hy ?_; (case hy => (intro w; go_simp; with_reducible rfl)); ((try dsimp only); (try simp only [Act.put, List.setIfInBounds_toArray, List.set_cons_zero, List.set_cons_succ]))
      refine M_pure (i := 2) (v := ?_) rfl (by kernel_rfl) (by kernel_rfl) (by kernel_rfl) (fun _ _ _ h => h) (by rfl) ?hy ?_; (case hy => (intro w; go_simp; with_reducible rfl)); ((try dsimp only); (try simp only [Act.put, List.setIfInBounds_toArray, List.set_cons_zero, List.set_cons_succ]))
      refine M_take (i := 3) (v := ?_) rfl (by kernel_rfl) (by kernel_rfl) (by kernel_rfl) (by kernel_rfl) (fun _ _ _ h => h) (by rfl) ?hy ?_; (case hy => (go_simp; with_reducible rfl)); ((try dsimp only); (try simp only [Act.put, List.setIfInBounds_toArray, List.set_cons_zero, List.set_cons_succ]))
      refine M_pure (i := 4) (v := ?_) rfl (by kernel_rfl) (by kernel_rfl) (by kernel_rfl) (fun _ _ _ h => h) (by rfl) ?hy ?_; (case hy => (intro w; go_simp; with_reducible rfl)); ((try dsimp only); (try simp only [Act.put, List.setIfInBounds_toArray, List.set_cons_zero, List.set_cons_succ]))
      refine M_pure (i := 5) (v := ?_) rfl (by kernel_rfl) (by kernel_rfl) (by kernel_rfl) (fun _ _ _ h => h) (by rfl) ?hy ?_; (case hy => (intro w; go_simp; with_reducible rfl)); ((try dsimp only); (try simp only [Act.put, List.setIfInBounds_toArray, List.set_cons_zero, List.set_cons_succ]))
      refine M_pure (i := 6) (v := ?_) rfl (by kernel_rfl) (by kernel_rfl) (by kernel_rfl) (fun _ _ _ h => h) (by rfl) ?hy ?_; (case hy => (intro w; go_simp; with_reducible rfl)); ((try dsimp only); (try simp only [Act.put, List.setIfInBounds_toArray, List.set_cons_zero, List.set_cons_succ]))
      refine M_take (i := 7) (v := ?_) rfl (by kernel_rfl) (by kernel_rfl) (by kernel_rfl) (by kernel_rfl) (fun _ _ _ h => h) (by rfl) ?hy ?_; (case hy => (go_simp; with_reducible rfl)); ((try dsimp only); (try simp only [Act.put, List.setIfInBounds_toArray, List.set_cons_zero, List.set_cons_succ]))
      refine M_pure (i := 8) (v := ?_) rfl (by kernel_rfl) (by kernel_rfl) (by kernel_rfl) (fun _ _ _ h => h) (by rfl) ?hy ?_; (case hy => (intro w; go_simp; with_reducible rfl)); ((try dsimp only); (try simp only [Act.put, List.setIfInBounds_toArray, List.set_cons_zero, List.set_cons_succ]))
      refine M_pure (i := 9) (v := ?_) rfl (by kernel_rfl) (by kernel_rfl) (by kernel_rfl) (fun _ _ _ h => h) (by rfl) ?hy ?_; (case hy => (intro w; go_simp; with_reducible rfl)); ((try dsimp only); (try simp only [Act.put, List.setIfInBounds_toArray, List.set_cons_zero, List.set_cons_succ]))
      refine M_pure (i := 10) (v := ?_) rfl (by kernel_rfl) (by kernel_rfl) (by kernel_rfl) (fun _ _ _ h => h) (by rfl) ?hy ?_; (case hy => (intro w; go_simp; with_reducible rfl)); ((try dsimp only); (try simp only [Act.put, List.setIfInBounds_toArray, List.set_cons_zero, List.set_cons_succ]))
      refine M_take (i := 11) (v := ?_) rfl (by kernel_rfl) (by kernel_rfl) (by kernel_rfl) (by kernel_rfl) (fun _ _ _ h => h) (by rfl) ?hy ?_; (case hy => (go_simp; with_reducible rfl)); ((try dsimp only); (try simp only [Act.put, List.setIfInBounds_toArray, List.set_cons_zero, List.set_cons_succ]))
      refine M_pure (i := 12) (v := ?_) rfl (by kernel_rfl) (by kernel_rfl) (by kernel_rfl) (fun _ _ _ h => h) (by rfl) ?hy ?_; (case hy => (intro w; go_simp; with_reducible rfl)); ((try dsimp only); (try simp only [Act.put, List.setIfInBounds_toArray, List.set_cons_zero, List.set_cons_succ]))
      refine M_pure (i := 13) (v := ?_) rfl (by kernel_rfl) (by kernel_rfl) (by kernel_rfl) (fun _ _ _ h => h) (by rfl) ?hy ?_; (case hy => (intro w; go_simp; with_reducible rfl)); ((try dsimp only); (try simp only [Act.put, List.setIfInBounds_toArray, List.set_cons_zero, List.set_cons_succ]))
      refine M_done (by kernel_rfl) ?_ _
    all_goals
      clear a0 a1 a2 a3 k0 k1 k2 k3
      go_wp2_with (skip; fail)
      go_loopw [8] (fun i wr => ∃ (k : Nat) (v : Value), k ≤ t.kids.length ∧ i = .int .i64 k ∧ Hid (Mk w wr pc id ks K ck tx (makesL id ks tx (t.kids.take k) d).2 t A c t.text v (makesL id ks tx (t.kids.take k) d).1)) (fun i _ => t.kids.length - (intOf i).toNat)
      case atStart => exact ⟨0, _, Nat.zero_le _, rfl, Lib.hid HZ.out⟩
      case round =>
        obtain ⟨k, v, hk, rfl, H⟩ := hrel
        obtain ⟨U, hU⟩ : ∃ U, U = wr := ⟨_, rfl⟩
        subst hU
        obtain ⟨p0, p1, p2, p3⟩ := blk4 H.out.arg
        obtain ⟨Av, cv, rfl⟩ : ∃ Av cv, v = .slice Av k cv := by
          obtain ⟨css, fs, ho, _⟩ := H.out.row
          obtain ⟨Av, cv, e⟩ := own_slice ho
          rw [show (makesL id ks tx (t.kids.take k) d).1.length = k from by rw [makesL_len]; simp; omega] at e
          exact ⟨Av, cv, e⟩
        by_cases hlt : k < t.kids.length
        · obtain ⟨gk, ok, cs, rfl, hgk, hr, hat⟩ := HH.out.2.2.1 k _ (List.getElem?_eq_getElem hlt)
          obtain ⟨Ak, ckk, rfl, _⟩ := hat.opens
          have hr' := H.out.chg.range hr (by simpa using hgk)
          have hkn' : (t.kids[k]).nodes ≤ 100000 := by have := nodesL_mem (List.getElem_mem hlt); have h2 := HH.out.2.1; rw [Tr.nodes_eq] at h2; omega
          have hcall := HH.out.1 (t.kids[k]) (List.getElem_mem hlt) Ak ckk (makesL id ks tx (t.kids.take k) d).2 U (hat.kept H.out.chg (by simp)) H.out.cb (HH.out.2.2.2.kept H.out.chg (by simp)) hkn'
          obtain ⟨r, hr2⟩ : ∃ r, r = makesT id ks tx (t.kids[k]) (makesL id ks tx (t.kids.take k) d).2 := ⟨_, rfl⟩
          have hstep := makesL_take id ks tx t.kids k d hlt
          rw [← hr2] at hcall hstep
          have HS := Lib.hid hstep
          clear hstep hr2
          have HC := Lib.hid (And.intro hcall hr')
          clear hcall hat hkn' hr hr' hgk
          go_wp2_with (first
            | (refine wpList_load_mid rfl 24 (.tmp 74) rfl gk (ok + k * 4) rfl _ _ HC.out.2 Try.underlying24 rfl szNode ?_)
            | (go_at_call 114; refine HC.out.1.mono ?_; rintro e X2 ⟨A1, c1, rfl, hV, hcb2, hX⟩; have HX := Lib.hid (And.intro hV (And.intro hcb2 hX)); have hXa : Chg [] X2 (X2.alloc (.cells #[.int .i64 (Tr.id (r.1)), .int .i64 (Tr.kind (r.1)), .string (Tr.text (r.1)), .slice A1 (Tr.kids (r.1)).length c1] 24)) := (by with_reducible repeat (first | exact Chg.refl _ _ | apply Chg.alloc | apply Chg.drew | apply Chg.drewN | (refine Chg.setCell ?_ _ _ (by simp)))); have hou := hXa.at (hX.at H.out.out (by simp; omega)) (by simp); obtain ⟨o0, o1, o2, o3⟩ := blk4 hou; have of3 := blkF hou 3; clear hV hX hXa hou hcb2)
            | (have hwr := lt_of_block H.out.out
               have hXs := HX.out.2.2.size
               have hXa : Chg [] X2 ((X2.alloc (.cells #[.int .i64 (Tr.id (r.1)), .int .i64 (Tr.kind (r.1)), .string (Tr.text (r.1)), .slice A1 (Tr.kids (r.1)).length c1] 24)).alloc (.cells #[.int .i64 (Tr.id (r.1)), .int .i64 (Tr.kind (r.1)), .string (Tr.text (r.1)), .slice A1 (Tr.kids (r.1)).length c1] 24)) := (by with_reducible repeat (first | exact Chg.refl _ _ | apply Chg.alloc | apply Chg.drew | apply Chg.drewN | (refine Chg.setCell ?_ _ _ (by simp))))
               obtain ⟨xs, hown, hgrow⟩ := H.out.row.growL (HX.out.2.2.trans (hXa.mono (by simp))) (fun b hb => by have := H.out.row.own b hb; simp; omega) (fun g hg => by simp; omega)
               rw [show (makesL id ks tx (t.kids.take k) d).1.length = k from by rw [makesL_len]; simp; omega] at hown hgrow
               have HG := Lib.hid (And.intro hgrow hXa)
               clear hgrow hXa
               refine wpList_append_own_at _ rfl (.tmp 78) (.tmp 80) 22 rfl _ 24 ip _ 4 56 Try.underlying22 HI.out.1 HI.out.2.1 HI.out.2.2.1 HI.out.2.2.2 rfl (by omega) (.slice Av k cv) _ _ rfl hown ⟨X2.heap.size + 1, 0, none⟩ 1 1 _ rfl rfl (fun j u hu => by rw [Addr.add_mid]; exact range_all (heap_new (X2.alloc _) _ (by simp)) j u hu) (HX.out.1.one) (by unfold maxLen; omega) (by omega) (by simp; omega) ?_
               intro v' X3 hown' hgr _ hat
               have hrow3 := HG.out.1 _ _ _ X3 v' (HX.out.1.kept HG.out.2 (by simp)) (fun x hx => ⟨by omega, hx.1, Nat.lt_of_lt_of_le hx.2 HG.out.2.size⟩) hown' hgr hat
               have hsn : (makesL id ks tx (t.kids.take k) d).1 ++ [r.1] = (makesL id ks tx (t.kids.take (k + 1)) d).1 := by rw [HS.out]
               rw [hsn] at hrow3
               have hC3 : Chg (pc :: (Value.slice Av k cv).ownBlock.toList) U X3 := ((HX.out.2.2.mono (by simp)).trans (HG.out.2.mono (by simp))).grown hgr (by intro k hk; rw [hk]; simp)
               have hC4 : Chg (Value.slice Av k cv).ownBlock.toList X2 X3 := (HG.out.2.mono (by simp)).grown hgr (by intro k hk; rw [hk]; simp)
               have hnb : ∀ b, b ∈ (Value.slice Av k cv).ownBlock.toList → w.heap.size + 3 ≤ b := fun b hb => by have := H.out.row.own b (by simpa using hb); omega
               have hout3 := hC3.at H.out.out (fun hm => by rcases List.mem_cons.1 hm with hm | hm; omega; have := hnb _ hm; omega)
               have s3 := (blk4 hout3).2.2.2
               have f3 := blkF hout3 3
               obtain ⟨A', c', rfl⟩ := own_slice hown'
               have hcb3 : CBx pc id ks K ck tx (makesL id ks tx (t.kids.take (k + 1)) d).2 X3 := by rw [HS.out]; exact hC4.at HX.out.2.1 (fun hm => by have := hnb _ hm; omega)
               have H3 := Lib.hid (And.intro hrow3 (And.intro hC3 (And.intro hnb (And.intro hout3 hcb3))))
               clear hrow3 hgr hat hown' hC3 hC4 hnb hout3 hcb3 hsn HG)
            | (skip; fail))
          go_roundw
          case rel =>
            have hnb := H3.out.2.2.1
            have hCs : Chg [w.heap.size + 2] X3 (X3.setCell ⟨w.heap.size + 2, 3, none⟩ (.slice A' (k + 1) c')) := (Chg.refl _ _).setCell _ _ (by simp)
            have hnb3 : ∀ b, (Value.slice A' (k + 1) c').ownBlock = some b → w.heap.size + 3 ≤ b := fun b hb => by have := H3.out.1.own b hb; omega
            refine ⟨k + 1, .slice A' (k + 1) c', by omega, by go_num, Lib.hid ⟨?_, ?_, ?_, ?_, ?_, ?_⟩⟩
            · exact hCs.at (H3.out.2.1.at H.out.arg (fun hm => by rcases List.mem_cons.1 hm with hm | hm; omega; have := hnb _ hm; omega)) (by simp)
            · exact hCs.at (H3.out.2.1.at H.out.res (fun hm => by rcases List.mem_cons.1 hm with hm | hm; omega; have := hnb _ hm; omega)) (by simp)
            · exact heap_setCell_same _ _ 3 _ _ _ H3.out.2.2.2.1
            · exact hCs.at H3.out.2.2.2.2 (by simp; omega)
            · exact (H.out.chg.andThen H3.out.2.1 (fun i hi => by rcases List.mem_cons.1 hi with hi | hi; exact .inl (by simp [hi]); exact .inr (by have := hnb i hi; omega))).andThen hCs (fun i hi => .inr (by simp at hi; omega))
            · exact H3.out.1.kept hCs (fun b hb => by have := hnb3 b hb; simp; omega) (fun g hg => by simp; omega)
          case measure => simp [intOf]; omega
        · obtain rfl : k = t.kids.length := by omega
          have hrow := H.out.row
          have hcbE := H.out.cb
          rw [List.take_of_length_le (Nat.le_refl _)] at hrow hcbE
          have hml := makesL_len id ks tx t.kids d
          obtain ⟨A', c', he, hV⟩ := RowV.node ({ t with kids := (makesL id ks tx t.kids d).1 } : Tr) hrow HT.out
          simp only [hml] at he hV
          injection he with hA1 _ hc1
          subst hA1 hc1
          have HV := Lib.hid hV
          have HCE := Lib.hid hcbE
          clear hrow hV hml hcbE
          obtain ⟨q0, q1, q2, q3⟩ := blk4 H.out.out
          obtain ⟨r0, r1, r2, r3⟩ := blk4 H.out.res
          have f0 := blkF H.out.res 0
          have f1 := blkF H.out.res 1
          have f2 := blkF H.out.res 2
          have f3 := blkF H.out.res 3
          go_wp2_with (skip; fail)
          have hC0 := chg4 U (w.heap.size + 1) (.int .i64 t.id) (.int .i64 t.kind) (.string t.text) (.slice Av t.kids.length cv)
          have hsz := H.out.chg.size
          have hlt1 := lt_of_block H.out.out
          have hF : ∀ g, w.heap.size + 3 ≤ g ∨ (Value.slice Av t.kids.length cv).ownBlock = some g → w.heap.size + 3 ≤ g := fun g hg => by
            rcases hg with hg | hg
            · omega
            · have := H.out.row.own g hg; omega
          refine bodyPost_ret (v := .agg #[.int .i64 t.id, .int .i64 t.kind, .string t.text, .slice Av t.kids.length cv]) (results_cell_row rfl _ _ (w.heap.size + 1) _ _ _ _ rfl (set4 H.out.res) Try.underlying24 rfl szNode) rfl ⟨Av, cv, by simp only [makesL_len], ?_, hC0.at HCE.out (by simp; omega), H.out.chg.andThen hC0 (fun i hi => by simp at hi; omega)⟩
          simp only [makesL_len]
          exact ((HV.out.bound.weak (F' := fun g => w.heap.size + 3 ≤ g ∧ g < U.heap.size) (fun g hg => ⟨hF g hg.1, hg.2⟩)).kept hC0 (fun g hg => by simp; omega)).weak (fun g hg => ⟨by omega, Nat.lt_of_lt_of_le hg.2 hC0.size⟩)
end Go.Proofs.Ytofjocjljbkjgaa
namespace Go.Proofs.Ytofjocjljbkjgaa
open Go.RowKit
def RowPost (ks : List Tr) (w : World) (e : Ending) (w' : World) : Prop := ∃ A c, e = .returned (.slice A ks.length c) ∧ RowN w' (fun b => b < w.heap.size) w.heap.size (.slice A ks.length c) ks ∧ Chg [] w w'
set_option maxHeartbeats 4000000 in
set_option maxRecDepth 100000 in
theorem inserted_any (ks : List Tr) (B : Option Addr) (d p : Nat) (x : Tr) (A : Option Addr) (c : Nat) (w : World) (hK : KidsC (fun b => b < w.heap.size) w B ks) (hd : ks.length ≤ d ∧ d ≤ 9223372036854775807) (hp : p ≤ ks.length) (hx : TrC (fun b => b < w.heap.size) w x [.int .i64 (Tr.id x), .int .i64 (Tr.kind x), .string (Tr.text x), .slice A (Tr.kids x).length c]) (hn : ks.length ≤ 100000) :
    Calls Try.prog 113 #[.slice B ks.length d, .int .i64 p, .agg #[.int .i64 (Tr.id x), .int .i64 (Tr.kind x), .string (Tr.text x), .slice A (Tr.kids x).length c]] w (RowPost (insAt ks p x) w) := by
  obtain ⟨W, hW⟩ : ∃ W, W = w.alloc (.cells #[.int .i64 (Tr.id x), .int .i64 (Tr.kind x), .string (Tr.text x), .slice A (Tr.kids x).length c] 24) := ⟨_, rfl⟩
  have hcW : Chg [] w W := by rw [hW]; exact (by with_reducible repeat (first | exact Chg.refl _ _ | apply Chg.alloc | apply Chg.drew | apply Chg.drewN | (refine Chg.setCell ?_ _ _ (by simp))))
  have hb : W.heap[w.heap.size]? = some (.cells #[.int .i64 (Tr.id x), .int .i64 (Tr.kind x), .string (Tr.text x), .slice A (Tr.kids x).length c] 24 (0, 0)) := by rw [hW]; exact heap_new _ _ rfl
  obtain ⟨p0, p1, p2, p3⟩ := blk4 hb
  have HW := Lib.hid (And.intro hW (And.intro hcW (And.intro hb (And.intro hK hx))))
  have hd1 := hd.1
  have hd2 := hd.2
  have hpd : (p : Int) ≤ (d : Int) := by omega
  have hp0 : (0 : Int) ≤ (p : Int) := by omega
  have hv0 : RowN w (fun b => b < w.heap.size) w.heap.size (.slice none 0 0) [] := RowN.nil _ _ _
  have HV := Lib.hid hv0
  clear hW hcW hb hK hx hd hv0 p0 p1 p2 p3
  go_enter Try.func113, Try.ntmps113
  go_upto_region 2 with (skip; fail)
  rw [← HW.out.1]
  go_wp2_with (first
    | (refine wpList_append_nodes rfl (.tmp 8) (.tmp 11) rfl (fun b => b < w.heap.size) w.heap.size (.slice none 0 0) [] rfl HV.out HW.out.2.1 (by simp) (Nat.le_refl _) B p d (ks.take p) rfl (by rw [List.length_take]; omega) ((SrcN.of ((HW.out.2.2.2.1.kept HW.out.2.1 (by simp)).weak (ok' := fun b => b < w.heap.size ∧ b < W.heap.size ∧ (Value.slice none 0 0).ownBlock ≠ some b) (fun b hb hb2 => ⟨hb, hb2, by simp [Value.ownBlock]⟩))).take p) (by simp) (by rw [List.length_take]; omega) ?_
       intro v1 X1 hr1 hc1 _
       rw [List.nil_append] at hr1
       have hc1' : Chg [] W X1 := hc1
       have hbX := hc1'.at HW.out.2.2.1 (by simp)
       obtain ⟨p0, p1, p2, p3⟩ := blk4 hbX
       obtain ⟨Y1, hY1⟩ : ∃ Y1, Y1 = X1.alloc (.cells #[.int .i64 (Tr.id x), .int .i64 (Tr.kind x), .string (Tr.text x), .slice A (Tr.kids x).length c] 24) := ⟨_, rfl⟩
       have hXY : Chg [] X1 Y1 := by rw [hY1]; exact (by with_reducible repeat (first | exact Chg.refl _ _ | apply Chg.alloc | apply Chg.drew | apply Chg.drewN | (refine Chg.setCell ?_ _ _ (by simp))))
       have hsrc : SrcN (fun b => b < w.heap.size ∧ b < Y1.heap.size ∧ v1.ownBlock ≠ some b) Y1 (some ⟨X1.heap.size, 0, none⟩) [x] := SrcN.one (cs := [.int .i64 (Tr.id x), .int .i64 (Tr.kind x), .string (Tr.text x), .slice A (Tr.kids x).length c]) (by rw [hY1]; exact heap_new _ _ rfl) ((HW.out.2.2.2.2.kept (HW.out.2.1.trans (hc1'.trans hXY)) (by simp)).weak (fun b hb hb2 => ⟨hb, hb2, fun e => by have := hr1.own b e; omega⟩))
       have HB0 := Lib.hid (And.intro hY1 (And.intro hXY hsrc))
       have H1 := Lib.hid (And.intro hr1 (And.intro hc1' hbX))
       clear hY1 hXY hsrc
       clear hr1 hc1 hc1' hbX
       ((try dsimp only); (try simp only [Act.put, List.setIfInBounds_toArray, List.set_cons_zero, List.set_cons_succ])))
    | (rw [← HB0.out.1]
       refine wpList_append_nodes rfl (.tmp 13) (.tmp 15) rfl (fun b => b < w.heap.size) w.heap.size v1 (ks.take p) rfl H1.out.1 HB0.out.2.1 (by simp) (by have := HW.out.2.1.size; have := H1.out.2.1.size; omega) (some ⟨X1.heap.size, 0, none⟩) 1 1 [x] rfl rfl HB0.out.2.2 (by rw [List.length_take]; omega) (by simp) ?_
       intro v2 X2 hr2 hc2 _
       have hwX : Chg v1.ownBlock.toList w X2 := ((HW.out.2.1.trans (H1.out.2.1.trans HB0.out.2.1)).mono (by simp)).trans hc2
       have hk2 : KidsC (fun b => (b < w.heap.size) ∧ b < X2.heap.size ∧ v2.ownBlock ≠ some b) X2 B ks := (HW.out.2.2.2.1.kept hwX (fun g hg hm => by have := H1.out.1.own g (by simpa using hm); omega)).weak (fun b hb hb2 => ⟨hb, hb2, fun e => by have := hr2.own b e; omega⟩)
       have HC2 := Lib.hid hk2
       clear hwX hk2
       have H2 := Lib.hid (And.intro hr2 hc2)
       clear hr2 hc2
       ((try dsimp only); (try simp only [Act.put, List.setIfInBounds_toArray, List.set_cons_zero, List.set_cons_succ])))
    | (refine wpList_runv rfl (exec_slice_post 22 (.tmp 18) (.tmp 19) rfl undNDS szElem B ks.length d p rfl rfl hp) ?_
       ((try dsimp only); (try simp only [Act.put, List.setIfInBounds_toArray, List.set_cons_zero, List.set_cons_succ])))
    | (refine wpList_append_nodes rfl (.tmp 17) (.tmp 20) rfl (fun b => b < w.heap.size) w.heap.size v2 (ks.take p ++ [x]) rfl H2.out.1 (Chg.refl [] _) (by simp) (by have := HW.out.2.1.size; have := H1.out.2.1.size; have := HB0.out.2.1.size; have := H2.out.2.size; omega) (tailA B d p) (ks.length - p) (d - p) (ks.drop p) rfl (by simp) (SrcN.drop (SrcN.of (HC2.out)) hd1) (by simp; omega) (by simp; omega) ?_
       intro v3 X3 hr3 hc3 _
       have H3 := Lib.hid (And.intro hr3 hc3)
       clear hr3 hc3
       ((try dsimp only); (try simp only [Act.put, List.setIfInBounds_toArray, List.set_cons_zero, List.set_cons_succ])))
    | (skip; fail))
  have hr := H3.out.1
  rw [List.append_assoc, show ks.take p ++ ([x] ++ ks.drop p) = insAt ks p x from rfl] at hr
  obtain ⟨A3, c3, rfl⟩ := hr.slice
  have hwX2 : Chg [] w X2 := (HW.out.2.1.trans (H1.out.2.1.trans HB0.out.2.1)).andThen H2.out.2 (fun i hi => .inr (H1.out.1.own i (by simpa using hi)).1)
  have hwX3 : Chg [] w X3 := hwX2.andThen H3.out.2 (fun i hi => .inr (H2.out.1.own i (by simpa using hi)).1)
  have HR := Lib.hid (And.intro hr hwX3)
  clear hr hwX2 hwX3
  go_ret
  exact ⟨A3, c3, rfl, HR.out.1, HR.out.2⟩
end Go.Proofs.Ytofjocjljbkjgaa
namespace Go.Proofs.Ytofjocjljbkjgaa
open Go.RowKit
set_option maxHeartbeats 4000000 in
set_option maxRecDepth 100000 in
theorem put09_any (t : Tr) (A : Option Addr) (c : Nat) (id : Int) (ks : List Tr) (K : Option Addr) (ck : Nat) (tx : ByteArray) (w : World) (hT : TrC (fun b => b < w.heap.size) w t [.int .i64 (Tr.id t), .int .i64 (Tr.kind t), .string (Tr.text t), .slice A (Tr.kids t).length c]) (hK : KidsC (fun b => b < w.heap.size) w K ks) (hN : t.nodes ≤ 100000) (hkn : nodesL ks ≤ 100000) (htx : tx.size ≤ 9223372036854775807) (hkc : ks.length ≤ ck) (hck : ck ≤ 9223372036854775807) :
    Calls Try.prog 74 #[.agg #[.int .i64 (Tr.id t), .int .i64 (Tr.kind t), .string (Tr.text t), .slice A (Tr.kids t).length c], .int .i64 id, .slice K ks.length ck, .string tx] w (NewPost (makesT id ks tx t false).1 w) := by
  obtain ⟨W, hW⟩ : ∃ W, W = ((w.alloc (.cells #[.int .i64 (Tr.id t), .int .i64 (Tr.kind t), .string (Tr.text t), .slice A (Tr.kids t).length c] 24)).alloc (.cells #[.int .i64 0, .int .i64 0, .string ⟨#[]⟩, .slice none 0 0] 24)).alloc (.cells #[.int .i64 id, .slice K ks.length ck, .string tx, .bool false] 158) := ⟨_, rfl⟩
  have hcW : Chg [] w W := by rw [hW]; exact (by with_reducible repeat (first | exact Chg.refl _ _ | apply Chg.alloc | apply Chg.drew | apply Chg.drewN | (refine Chg.setCell ?_ _ _ (by simp))))
  have b0 : W.heap[w.heap.size]? = some (.cells #[.int .i64 (Tr.id t), .int .i64 (Tr.kind t), .string (Tr.text t), .slice A (Tr.kids t).length c] 24 (0, 0)) := by rw [hW]; exact heap_old (heap_old (heap_new _ _ rfl) _) _
  have b1 : W.heap[w.heap.size + 1]? = some (.cells #[.int .i64 0, .int .i64 0, .string ⟨#[]⟩, .slice none 0 0] 24 (0, 0)) := by rw [hW]; exact heap_old (heap_new _ _ (by simp)) _
  have b2 : CBx (w.heap.size + 2) id ks K ck tx false W := by unfold CBx; rw [hW]; exact heap_new _ _ (by simp)
  have hcall := makes_any (w.heap.size + 2) id ks K ck tx hkn htx hkc hck t A c false W ((hT.kept hcW (by simp)).weak (fun b hb _ => by omega)) b2 ((hK.kept hcW (by simp)).weak (fun b hb _ => by omega)) hN
  obtain ⟨p0, p1, p2, p3⟩ := blk4 b0
  have HW := Lib.hid (And.intro hW (And.intro hcW (And.intro b1 hcall)))
  rw [hW] at p0 p1 p2 p3
  clear hW hcW b0 b1 b2 hcall hT hK
  go_enter Try.func74, Try.ntmps74
  go_wp2_with fail
  rw [← HW.out.1]
  clear p0 p1 p2 p3
  refine HW.out.2.2.2.mono ?_
  obtain ⟨r, hr⟩ : ∃ r, r = makesT id ks tx t false := ⟨_, rfl⟩
  rw [← hr]
  have HRr := Lib.hid hr
  rintro e X ⟨A1, c1, rfl, hV, _, hX⟩
  have x1 := hX.at HW.out.2.2.1 (by simp)
  obtain ⟨q0, q1, q2, q3⟩ := blk4 x1
  have f0 := blkF x1 0
  have f1 := blkF x1 1
  have f2 := blkF x1 2
  have f3 := blkF x1 3
  have HX := Lib.hid (And.intro hV (And.intro hX x1))
  clear hr hV hX x1
  go_wp2_with (skip; fail)
  have hc4 := chg4 X (w.heap.size + 1) (.int .i64 r.1.id) (.int .i64 r.1.kind) (.string r.1.text) (.slice A1 r.1.kids.length c1)
  have hl1 := lt_of_block HW.out.2.2.1
  have hs := HW.out.2.1.size
  have hs4 := hc4.size
  refine bodyPost_ret (v := .agg #[.int .i64 (Tr.id r.1), .int .i64 (Tr.kind r.1), .string (Tr.text r.1), .slice A1 (Tr.kids r.1).length c1]) (results_cell_row rfl _ _ (w.heap.size + 1) _ _ _ _ rfl (set4 HX.out.2.2) Try.underlying24 rfl szNode) rfl ?_
  rw [← HRr.out]
  refine ⟨A1, c1, rfl, ?_, (HW.out.2.1.andThen HX.out.2.1 (by simp)).andThen hc4 (by simp)⟩
  exact (HX.out.1.kept hc4 (fun g hg => by simp; omega)).weak (fun g hg => ⟨by omega, by omega⟩)
def ParPost (B : Nat) (r : Option (Tr × Nat)) (w : World) (e : Ending) (w' : World) : Prop := Chg [] w w' ∧ match r with
  | none => e = .returned (.tuple #[.agg #[.int .i64 0, .int .i64 0, .string ⟨#[]⟩, .slice none 0 0], .int .i64 0, .bool false])
  | some (y, n) => ∃ A c, e = .returned (.tuple #[.agg #[.int .i64 (Tr.id y), .int .i64 (Tr.kind y), .string (Tr.text y), .slice A (Tr.kids y).length c], .int .i64 n, .bool true]) ∧ TrC (fun b => b < B) w' y [.int .i64 (Tr.id y), .int .i64 (Tr.kind y), .string (Tr.text y), .slice A (Tr.kids y).length c]
structure PrB (w : World) (t : Tr) (A : Option Addr) (c : Nat) (W : World) : Prop where
  b0 : W.heap[w.heap.size]? = some (.cells #[.int .i64 (Tr.id t), .int .i64 (Tr.kind t), .string (Tr.text t), .slice A (Tr.kids t).length c] 24 (0, 0))
  b1 : W.heap[w.heap.size + 1]? = some (.cells #[.int .i64 0, .int .i64 0, .string ⟨#[]⟩, .slice none 0 0] 24 (0, 0))
  chg : Chg [] w W
theorem PrB.kept {w : World} {t : Tr} {A : Option Addr} {c : Nat} {W W' : World} (h : PrB w t A c W) (hc : Chg [] W W') : PrB w t A c W' := ⟨hc.at h.b0 (by simp), hc.at h.b1 (by simp), h.chg.trans hc⟩
theorem PrB.new (w : World) (t : Tr) (A : Option Addr) (c : Nat) : PrB w t A c ((w.alloc (.cells #[.int .i64 (Tr.id t), .int .i64 (Tr.kind t), .string (Tr.text t), .slice A (Tr.kids t).length c] 24)).alloc (.cells #[.int .i64 0, .int .i64 0, .string ⟨#[]⟩, .slice none 0 0] 24)) := ⟨heap_old (heap_new _ _ rfl) _, heap_new _ _ (by simp), (by with_reducible repeat (first | exact Chg.refl _ _ | apply Chg.alloc | apply Chg.drew | apply Chg.drewN | (refine Chg.setCell ?_ _ _ (by simp))))⟩
set_option maxHeartbeats 4000000 in
set_option maxRecDepth 100000 in
theorem par09_any (id : Int) (B : Nat) : ∀ (t : Tr) (A : Option Addr) (c : Nat) (w : World), B ≤ w.heap.size → TrC (fun b => b < B) w t [.int .i64 (Tr.id t), .int .i64 (Tr.kind t), .string (Tr.text t), .slice A (Tr.kids t).length c] → Calls Try.prog 115 #[.agg #[.int .i64 (Tr.id t), .int .i64 (Tr.kind t), .string (Tr.text t), .slice A (Tr.kids t).length c], .int .i64 id] w (ParPost B (parR id t) w) := by
  intro t
  induction t using Tr.ind with
  | h t ih =>
  intro A c w hBw hT
  obtain ⟨A', c', hcs, hlc, hcm, htxt, hKt⟩ := hT.opens
  simp only [List.cons.injEq, Value.slice.injEq, true_and, and_true] at hcs
  obtain ⟨rfl, rfl⟩ := hcs
  obtain ⟨W, hW⟩ : ∃ W, W = (w.alloc (.cells #[.int .i64 (Tr.id t), .int .i64 (Tr.kind t), .string (Tr.text t), .slice A (Tr.kids t).length c] 24)).alloc (.cells #[.int .i64 0, .int .i64 0, .string ⟨#[]⟩, .slice none 0 0] 24) := ⟨_, rfl⟩
  have hB : PrB w t A c W := by rw [hW]; exact PrB.new _ _ _ _
  have hlm : t.kids.length ≤ 9223372036854775807 := by omega
  have HW := Lib.hid (And.intro hW (And.intro hB (And.intro ih (And.intro hKt hT))))
  clear hW hB ih hKt hT hlc hcm htxt
  go_enter Try.func115, Try.ntmps115
  go_wp2_with (skip; fail)
  rw [← HW.out.1]
  go_loopw [7] (fun i wr => ∃ k : Nat, k ≤ t.kids.length ∧ i = .int .i64 k ∧ Hid (PrB w t A c wr ∧ parR id t = parRL id t (t.kids.drop k) k)) (fun i _ => t.kids.length - (intOf i).toNat)
  case atStart => exact ⟨0, Nat.zero_le _, rfl, Lib.hid ⟨HW.out.2.1, by rw [parR_eq]; rfl⟩⟩
  case round =>
    obtain ⟨k, hk, rfl, H⟩ := hrel
    obtain ⟨U, hU⟩ : ∃ U, U = wr := ⟨_, rfl⟩
    subst hU
    obtain ⟨p0, p1, p2, p3⟩ := blk4 H.out.1.b0
    obtain ⟨r0, r1, r2, r3⟩ := blk4 H.out.1.b1
    have f0 := blkF H.out.1.b1 0
    have f1 := blkF H.out.1.b1 1
    have f2 := blkF H.out.1.b1 2
    have f3 := blkF H.out.1.b1 3
    by_cases hlt : k < t.kids.length
    · obtain ⟨gk, ok, cs, rfl, hgk, hr, hat⟩ := HW.out.2.2.2.1 k _ (List.getElem?_eq_getElem hlt)
      obtain ⟨Ak, ckk, rfl, _⟩ := hat.opens
      have hr' := H.out.1.chg.range hr (by simp)
      obtain ⟨x, hx⟩ : ∃ x, x = t.kids[k] := ⟨_, rfl⟩
      have hdr : t.kids.drop k = x :: t.kids.drop (k + 1) := by rw [hx]; exact List.drop_eq_getElem_cons hlt
      have hpar := H.out.2
      rw [hdr, parRL] at hpar
      have hih := HW.out.2.2.1 x (by rw [hx]; exact List.getElem_mem hlt) Ak ckk
      rw [← hx] at hat hr'
      have c0 : U.cell? ⟨gk, ok + k * 4, none⟩ = some (.int .i64 x.id) := hr' 0 _ rfl
      by_cases hid : x.id = id
      · have hb : (x.id == id) = true := by simpa using hid
        rw [if_pos hid] at hpar
        have HP := Lib.hid hpar
        clear hat hr hr' hx hdr hpar hih hid hgk
        go_wp2_with (skip; fail)
        have hc4 := chg4 U (w.heap.size + 1) (.int .i64 t.id) (.int .i64 t.kind) (.string t.text) (.slice (some ⟨gk, ok, none⟩) t.kids.length c)
        refine bodyPost_ret (v := .tuple #[.agg #[.int .i64 (Tr.id t), .int .i64 (Tr.kind t), .string (Tr.text t), .slice (some ⟨gk, ok, none⟩) (Tr.kids t).length c], .int .i64 k, .bool true]) (results_row_tmp2 rfl _ _ (w.heap.size + 1) _ _ _ _ _ _ rfl rfl rfl (set4 H.out.1.b1) Try.underlying24 rfl szNode) rfl ?_
        rw [HP.out]
        exact ⟨H.out.1.chg.andThen hc4 (by simp), _, _, rfl, (HW.out.2.2.2.2.kept H.out.1.chg (by simp)).kept hc4 (by simp; omega)⟩
      · have hb : (x.id == id) = false := by simpa using hid
        rw [if_neg hid] at hpar
        have hcall := hih U (by have := H.out.1.chg.size; omega) (hat.kept H.out.1.chg (by simp))
        have HC := Lib.hid (And.intro hcall (And.intro hr' (And.intro hpar hid)))
        clear hat hr hr' hx hdr hpar hih hid hgk hcall
        go_wp2_with (first
          | (refine wpList_load_mid rfl 24 (.tmp 32) rfl gk (ok + k * 4) rfl _ _ HC.out.2.1 Try.underlying24 rfl szNode ?_
             ((try dsimp only); (try simp only [Act.put, List.setIfInBounds_toArray, List.set_cons_zero, List.set_cons_succ])))
          | (skip; fail))
        refine HC.out.1.mono ?_
        cases hp : parR id x with
        | none =>
          have hpar := HC.out.2.2.1
          rw [hp] at hpar
          rintro e X ⟨hX, rfl⟩
          have HP := Lib.hid hpar
          have hPX := H.out.1.kept (hX.alloc (.cells #[.int .i64 0, .int .i64 0, .string ⟨#[]⟩, .slice none 0 0] 24))
          have HX := Lib.hid hPX
          clear hX hPX hp hpar p0 p1 p2 p3 r0 r1 r2 r3 f0 f1 f2 f3
          go_wp2_with (skip; fail)
          go_roundw
          case rel => exact ⟨k + 1, by omega, by go_num, Lib.hid ⟨HX.out, HP.out⟩⟩
          case measure => simp [intOf]; omega
        | some yn =>
          obtain ⟨y, n⟩ := yn
          have hpar := HC.out.2.2.1
          rw [hp] at hpar
          rintro e X ⟨hX, A1, c1, rfl, hTy⟩
          obtain ⟨Y, hY⟩ : ∃ Y, Y = X.alloc (.cells #[.int .i64 (Tr.id y), .int .i64 (Tr.kind y), .string (Tr.text y), .slice A1 (Tr.kids y).length c1] 24) := ⟨_, rfl⟩
          have hXY : Chg [] X Y := by rw [hY]; exact (by with_reducible repeat (first | exact Chg.refl _ _ | apply Chg.alloc | apply Chg.drew | apply Chg.drewN | (refine Chg.setCell ?_ _ _ (by simp))))
          have hbY : Y.heap[X.heap.size]? = some (.cells #[.int .i64 (Tr.id y), .int .i64 (Tr.kind y), .string (Tr.text y), .slice A1 (Tr.kids y).length c1] 24 (0, 0)) := by rw [hY]; exact heap_new _ _ rfl
          have hPX := H.out.1.kept (hX.trans hXY)
          clear p0 p1 p2 p3 r0 r1 r2 r3 f0 f1 f2 f3
          obtain ⟨p0, p1, p2, p3⟩ := blk4 hbY
          obtain ⟨r0, r1, r2, r3⟩ := blk4 hPX.b1
          have f0 := blkF hPX.b1 0
          have f1 := blkF hPX.b1 1
          have f2 := blkF hPX.b1 2
          have f3 := blkF hPX.b1 3
          have HX := Lib.hid (And.intro hY (And.intro hPX (And.intro (hTy.kept hXY (by simp)) hpar)))
          rw [hY] at p0 p1 p2 p3 r0 r1 r2 r3 f0 f1 f2 f3
          clear hX hXY hbY hPX hTy hpar hp hY
          go_wp2_with (skip; fail)
          rw [← HX.out.1]
          have hc4 := chg4 Y (w.heap.size + 1) (.int .i64 y.id) (.int .i64 y.kind) (.string y.text) (.slice A1 y.kids.length c1)
          refine bodyPost_ret (v := .tuple #[.agg #[.int .i64 (Tr.id y), .int .i64 (Tr.kind y), .string (Tr.text y), .slice A1 (Tr.kids y).length c1], .int .i64 n, .bool true]) (results_row_tmp2 rfl _ _ (w.heap.size + 1) _ _ _ _ _ _ rfl rfl rfl (set4 HX.out.2.1.b1) Try.underlying24 rfl szNode) rfl ?_
          rw [HX.out.2.2.2]
          exact ⟨HX.out.2.1.chg.andThen hc4 (by simp), _, _, rfl, HX.out.2.2.1.kept hc4 (by simp; omega)⟩
    · obtain rfl : k = t.kids.length := by omega
      have hpar := H.out.2
      rw [List.drop_length, parRL] at hpar
      have HP := Lib.hid hpar
      clear hpar
      go_wp2_with (skip; fail)
      have hc4 := chg4 U (w.heap.size + 1) (.int .i64 0) (.int .i64 0) (.string ⟨#[]⟩) (.slice none 0 0)
      refine bodyPost_ret (v := .tuple #[.agg #[.int .i64 0, .int .i64 0, .string ⟨#[]⟩, .slice none 0 0], .int .i64 0, .bool false]) (results_row_tmp2 rfl _ _ (w.heap.size + 1) _ _ _ _ _ _ rfl rfl rfl (set4 H.out.1.b1) Try.underlying24 rfl szNode) rfl ?_
      rw [HP.out]
      exact ⟨H.out.1.chg.andThen hc4 (by simp), rfl⟩
end Go.Proofs.Ytofjocjljbkjgaa
namespace Go.Proofs.Ytofjocjljbkjgaa
open Go.RowKit
structure Rp (w U0 wr : World) (t : Tr) (A : Option Addr) (c : Nat) (v : Value) (ns : List Tr) : Prop where
  res : wr.heap[w.heap.size + 1]? = some (.cells #[.int .i64 0, .int .i64 0, .string ⟨#[]⟩, .slice none 0 0] 24 (0, 0))
  out : wr.heap[U0.heap.size]? = some (.cells #[.int .i64 t.id, .int .i64 t.kind, .string t.text, v] 24 (0, 0))
  chg : Chg [] w wr
  row : RowV wr (U0.heap.size + 1) v ns (fun g => U0.heap.size + 1 ≤ g)
theorem repT_here {id : Int} {ks : List Tr} {t : Tr} {k : Nat} (hk : k < t.kids.length) (he : (t.kids[k]).id = id) (h : ∀ j (hj : j < k), (t.kids[j]'(by omega)).id ≠ id ∧ parR id (t.kids[j]'(by omega)) = none) : repT id ks t = { t with kids := ks } := by
  rw [repT_eq, repL_here hk he h]
theorem repT_in {id : Int} {ks : List Tr} {t : Tr} {k : Nat} (hk : k < t.kids.length) (he : (t.kids[k]).id ≠ id) (hp : (parR id t.kids[k]).isSome = true) (h : ∀ j (hj : j < k), (t.kids[j]'(by omega)).id ≠ id ∧ parR id (t.kids[j]'(by omega)) = none) : repT id ks t = { t with kids := t.kids.set k (repT id ks t.kids[k]) } := by
  rw [repT_eq, repL_in hk he hp h]
theorem repT_none {id : Int} {ks : List Tr} {t : Tr} (h : ∀ j (hj : j < t.kids.length), (t.kids[j]).id ≠ id ∧ parR id t.kids[j] = none) : repT id ks t = t := by
  rw [repT_eq, repL_none h]
def put4 (C : Array Value) (o : Nat) (cs : List Value) : Array Value := (C.toList.take o ++ cs ++ C.toList.drop (o + 4)).toArray
theorem put4_get {C : Array Value} {o : Nat} {cs : List Value} (h4 : cs.length = 4) (hf : o + 4 ≤ C.size) (j : Nat) : (put4 C o cs)[j]? = if j < o then C[j]? else if j < o + 4 then cs[j - o]? else C[j]? := by
  have hl : (C.toList.take o).length = o := by simp; omega
  unfold put4
  rw [List.getElem?_toArray, List.append_assoc]
  by_cases h1 : j < o
  · rw [if_pos h1, List.getElem?_append_left (by omega), List.getElem?_take, if_pos h1]; simp
  · rw [if_neg h1, List.getElem?_append_right (by omega), hl]
    by_cases h2 : j < o + 4
    · rw [if_pos h2, List.getElem?_append_left (by omega)]
    · rw [if_neg h2, List.getElem?_append_right (by omega), h4, List.getElem?_drop]
      rw [show o + 4 + (j - o - 4) = j by omega]; simp
theorem Fr.put4 {w : World} {g o : Nat} {F : Nat → Prop} {C : Array Value} {ty : TypeId} {cs : List Value} (hg : w.heap[g]? = some (.cells C ty (0, 0))) (h4 : cs.length = 4) (hf : o + 4 ≤ C.size) : Fr g o F w (w.setRow g (Proofs.Ytofjocjljbkjgaa.put4 C o cs)) := by
  have hr := setRow_heap w g C (Proofs.Ytofjocjljbkjgaa.put4 C o cs) ty (0, 0) hg
  have hc := setRow_chg w g (Proofs.Ytofjocjljbkjgaa.put4 C o cs)
  refine ⟨hc.os, hc.tape, hc.output, hc.size, fun b hb h1 _ => hc.block b hb (by simpa using h1), fun j hj => ?_, fun C' ty' h => ?_⟩
  · have e := put4_get (C := C) (o := o) h4 hf j
    have e2 : (Proofs.Ytofjocjljbkjgaa.put4 C o cs)[j]? = C[j]? := by
      rcases hj with hj | hj
      · rw [if_pos hj] at e; exact e
      · rw [if_neg (by omega), if_neg (by omega)] at e; exact e
    simp only [World.cell?, hr, hg, e2]
  · rw [hg] at h
    simp only [Option.some.injEq, Obj.cells.injEq] at h
    obtain ⟨_, rfl, _⟩ := h
    exact ⟨_, hr⟩
theorem put4_range {w : World} {g o : Nat} {C : Array Value} {ty : TypeId} {cs : List Value} (hg : w.heap[g]? = some (.cells C ty (0, 0))) (h4 : cs.length = 4) (hf : o + 4 ≤ C.size) : (w.setRow g (put4 C o cs)).rangeAt g o cs := fun j u hu => by
  have hj : j < 4 := by rw [← h4]; exact (List.getElem?_eq_some_iff.1 hu).1
  have hr := setRow_heap w g C (put4 C o cs) ty (0, 0) hg
  have e := put4_get (C := C) (o := o) h4 hf (o + j)
  rw [if_neg (by omega), if_pos (by omega), show o + j - o = j by omega] at e
  simp only [World.cell?, hr, e]
  simpa using hu
theorem wpList_put_node {ops : Array Oper} {rest : List Oper} {o : Oper} {a : Act} {w : World} {Q : Exit → Act → World → Prop} (hgd : o.guard = none) (x y : Operand) (ho : o.op = .store 24 x y) (g k : Nat) (hx : a.eval x = .pointer (some ⟨g, k, none⟩)) (cs : List Value) (hy : a.eval y = .agg cs.toArray)
    (cur : Array Value) (hg : w.heap[g]? = some (.cells cur 24 (0, 0))) (h4 : cs.length = 4) (hfit : k + 4 ≤ cur.size) (h1 : ∀ u ∈ cs, u.oneCell' = true)
    (h : wpList Try.prog ops Q rest (a.put o.dst undef) (w.setRow g (put4 cur k cs))) : wpList Try.prog ops Q (o :: rest) a w := by
  refine wpList_store_at hgd 24 x y ho g k hx cs.toArray hy cur 24 hg (by rw [List.size_toArray, h4]; exact szNode) (by rw [List.size_toArray, h4]; exact hfit) h1 ?_
  rw [show (cur.toList.take k ++ cs.toArray.toList ++ cur.toList.drop (k + cs.toArray.size)).toArray = put4 cur k cs from by unfold put4; simp [h4]]
  exact h
theorem range_size {w : World} {g o : Nat} {C : Array Value} {ty : TypeId} {cs : List Value} (hg : w.heap[g]? = some (.cells C ty (0, 0))) (hr : w.rangeAt g o cs) (h4 : cs.length = 4) : o + 4 ≤ C.size := by
  have h := hr 3 _ (List.getElem?_eq_getElem (by omega))
  simp only [World.cell?, hg] at h
  have : C[o + 3]? = some (cs[3]'(by omega)) := by simpa using h
  have := (Array.getElem?_eq_some_iff.1 this).1
  omega
set_option maxHeartbeats 4000000 in
set_option maxRecDepth 100000 in
theorem replaced_any (id : Int) (ks : List Tr) (K : Option Addr) (ck : Nat) (hkn : nodesL ks ≤ 100000) (hkc : ks.length ≤ ck) (hck : ck ≤ 9223372036854775807) : ∀ (t : Tr) (A : Option Addr) (c : Nat) (w : World), TrC (fun b => b < w.heap.size) w t [.int .i64 (Tr.id t), .int .i64 (Tr.kind t), .string (Tr.text t), .slice A (Tr.kids t).length c] → KidsC (fun b => b < w.heap.size) w K ks → t.nodes ≤ 100000 →
    Calls Try.prog 116 #[.agg #[.int .i64 (Tr.id t), .int .i64 (Tr.kind t), .string (Tr.text t), .slice A (Tr.kids t).length c], .int .i64 id, .slice K ks.length ck] w (NewPost (repT id ks t) w) := by
  intro t
  induction t using Tr.ind with
  | h t ih =>
  intro A c w hT hK hN
  obtain ⟨ip, hi, hz0, hz1, hz2⟩ := info_parts infoNode
  obtain ⟨A', c', hcs, hlc, hcm, htxt, hKt⟩ := hT.opens
  simp only [List.cons.injEq, Value.slice.injEq, true_and, and_true] at hcs
  obtain ⟨rfl, rfl⟩ := hcs
  have hlen : t.kids.length ≤ 100000 := by have := nodesL_len t.kids; rw [Tr.nodes_eq] at hN; omega
  have hklen : ks.length ≤ 100000 := by have := nodesL_len ks; omega
  obtain ⟨W, hW⟩ : ∃ W, W = (w.alloc (.cells #[.int .i64 (Tr.id t), .int .i64 (Tr.kind t), .string (Tr.text t), .slice A (Tr.kids t).length c] 24)).alloc (.cells #[.int .i64 0, .int .i64 0, .string ⟨#[]⟩, .slice none 0 0] 24) := ⟨_, rfl⟩
  have hB : PrB w t A c W := by rw [hW]; exact PrB.new _ _ _ _
  have HTx := Lib.hid htxt
  have HI := Lib.hid (And.intro hi (And.intro hz0 (And.intro hz1 hz2)))
  have HW := Lib.hid (And.intro hW (And.intro hB (And.intro ih (And.intro hKt (And.intro hK (And.intro hT hN))))))
  clear hW hB ih hKt hK hT hN hi hz0 hz1 hz2 htxt
  go_enter Try.func116, Try.ntmps116
  go_wp2_with (skip; fail)
  rw [← HW.out.1]
  go_loopw [7] (fun i wr => ∃ k : Nat, k ≤ t.kids.length ∧ i = .int .i64 k ∧ Hid (PrB w t A c wr ∧ ∀ j (hj : j < k) (hl : j < t.kids.length), (t.kids[j]).id ≠ id ∧ parR id t.kids[j] = none)) (fun i _ => t.kids.length - (intOf i).toNat)
  case atStart => exact ⟨0, Nat.zero_le _, rfl, Lib.hid ⟨HW.out.2.1, fun j hj => by omega⟩⟩
  case round =>
    obtain ⟨k0, hk0, rfl, H0⟩ := hrel
    obtain ⟨U0, hU0⟩ : ∃ U0, U0 = wr := ⟨_, rfl⟩
    subst hU0
    obtain ⟨p0, p1, p2, p3⟩ := blk4 H0.out.1.b0
    by_cases hlt0 : k0 < t.kids.length
    · obtain ⟨gt, ot, cs, rfl, hgt, hrt, hatt⟩ := HW.out.2.2.2.1 k0 _ (List.getElem?_eq_getElem hlt0)
      obtain ⟨At, ct, rfl, _⟩ := hatt.opens
      have hrt' := H0.out.1.chg.range hrt (by simp)
      obtain ⟨x, hx⟩ : ∃ x, x = t.kids[k0] := ⟨_, rfl⟩
      rw [← hx] at hatt hrt'
      have c0 : U0.cell? ⟨gt, ot + k0 * 4, none⟩ = some (.int .i64 x.id) := hrt' 0 _ rfl
      by_cases hid : x.id = id
      · have hb : (x.id == id) = true := by simpa using hid
        have hrep := repT_here (ks := ks) hlt0 (by rw [← hx]; exact hid) (fun j hj => H0.out.2 j hj (by omega))
        have HR := Lib.hid hrep
        have hmk : Rp w U0 (U0.alloc (.cells #[.int .i64 t.id, .int .i64 t.kind, .string t.text, .slice none 0 0] 24)) t (some ⟨gt, ot, none⟩) c (.slice none 0 0) (ks.take 0) := ⟨heap_old H0.out.1.b1 _, heap_new _ _ rfl, H0.out.1.chg.alloc _, by rw [List.take_zero]; exact RowV.nil _ _ _⟩
        have hu0 : w.heap.size + 2 ≤ U0.heap.size := by have := lt_of_block H0.out.1.b1; omega
        have HU0 := Lib.hid hu0
        have HZ := Lib.hid hmk
        clear hatt hrt hrt' hx hid hgt hrep hmk hu0
        go_wp2_with (skip; fail)
        clear p0 p1 p2 p3 c0
        go_loopw [9] (fun i wr => ∃ (k : Nat) (v : Value), k ≤ ks.length ∧ i = .int .i64 k ∧ Hid (Rp w U0 wr t (some ⟨gt, ot, none⟩) c v (ks.take k))) (fun i _ => ks.length - (intOf i).toNat)
        case atStart => exact ⟨0, _, Nat.zero_le _, rfl, Lib.hid HZ.out⟩
        case round =>
          obtain ⟨k, v, hk, rfl, H⟩ := hrel
          obtain ⟨U, hU⟩ : ∃ U, U = wr := ⟨_, rfl⟩
          subst hU
          obtain ⟨Av, cv, rfl⟩ : ∃ Av cv, v = .slice Av k cv := by
            obtain ⟨css, fs, ho, _⟩ := H.out.row
            obtain ⟨Av, cv, e⟩ := own_slice ho
            rw [show (ks.take k).length = k from by simp; omega] at e
            exact ⟨Av, cv, e⟩
          by_cases hlt : k < ks.length
          · have HK := HW.out.2.2.2.2.1
            obtain ⟨gk, ok, cs, rfl, hgk, hr, hat⟩ := HK k _ (List.getElem?_eq_getElem hlt)
            obtain ⟨Ak, ckk, rfl, _⟩ := hat.opens
            have hr' := H.out.chg.range hr (by simp)
            have hkn' : (ks[k]).nodes ≤ 100000 := by have := nodesL_mem (List.getElem_mem hlt); omega
            have hcall := copy_any (ks[k]) Ak ckk U ((hat.kept H.out.chg (by simp)).weak (fun _ _ _ => trivial)) hkn'
            have HC := Lib.hid (And.intro hcall hr')
            clear hcall hat hkn' hr hr' hgk HK
            go_wp2_with (first
              | (refine wpList_load_mid rfl 24 (.tmp 45) rfl gk (ok + k * 4) rfl _ _ HC.out.2 Try.underlying24 rfl szNode ?_)
              | (go_at_call 65; refine HC.out.1.mono ?_; rintro e X2 ⟨A1, c1, rfl, hV, hX⟩; have HX := Lib.hid (And.intro hV hX); have hXa : Chg [] X2 (X2.alloc (.cells #[.int .i64 (Tr.id (ks[k])), .int .i64 (Tr.kind (ks[k])), .string (Tr.text (ks[k])), .slice A1 (Tr.kids (ks[k])).length c1] 24)) := (by with_reducible repeat (first | exact Chg.refl _ _ | apply Chg.alloc | apply Chg.drew | apply Chg.drewN | (refine Chg.setCell ?_ _ _ (by simp)))); have hou := (hX.trans hXa).at H.out.out (by simp); obtain ⟨o0, o1, o2, o3⟩ := blk4 hou; have of3 := blkF hou 3; clear hV hX hXa hou)
              | (have hwr := lt_of_block H.out.out
                 have hXs := HX.out.2.size
                 have hXa : Chg [] X2 ((X2.alloc (.cells #[.int .i64 (Tr.id (ks[k])), .int .i64 (Tr.kind (ks[k])), .string (Tr.text (ks[k])), .slice A1 (Tr.kids (ks[k])).length c1] 24)).alloc (.cells #[.int .i64 (Tr.id (ks[k])), .int .i64 (Tr.kind (ks[k])), .string (Tr.text (ks[k])), .slice A1 (Tr.kids (ks[k])).length c1] 24)) := (by with_reducible repeat (first | exact Chg.refl _ _ | apply Chg.alloc | apply Chg.drew | apply Chg.drewN | (refine Chg.setCell ?_ _ _ (by simp))))
                 obtain ⟨xs, hown, hgrow⟩ := H.out.row.grow (HX.out.2.trans hXa)
                 rw [show (ks.take k).length = k from by simp; omega] at hown hgrow
                 have HG := Lib.hid (And.intro hgrow hXa)
                 clear hgrow hXa
                 refine wpList_append_own_at _ rfl (.tmp 49) (.tmp 51) 22 rfl _ 24 ip _ 4 56 Try.underlying22 HI.out.1 HI.out.2.1 HI.out.2.2.1 HI.out.2.2.2 rfl (by omega) (.slice Av k cv) _ _ rfl hown ⟨X2.heap.size + 1, 0, none⟩ 1 1 _ rfl rfl (fun j u hu => by rw [Addr.add_mid]; exact range_all (heap_new (X2.alloc _) _ (by simp)) j u hu) (HX.out.1.one) (by unfold maxLen; omega) (by omega) (by simp; omega) ?_
                 intro v' X3 hown' hgr _ hat
                 have hrow3 := HG.out.1 _ _ _ X3 v' (HX.out.1.kept HG.out.2 (by simp)) (fun x hx => ⟨by omega, hx.1, Nat.lt_of_lt_of_le hx.2 HG.out.2.size⟩) hown' hgr hat
                 rw [← take_snoc' _ _ hlt] at hrow3
                 have hC3 : Chg (Value.slice Av k cv).ownBlock.toList U X3 := ((HX.out.2.trans HG.out.2).mono (by simp)).grown hgr (by intro k hk; rw [hk]; simp)
                 have hnb : ∀ b, b ∈ (Value.slice Av k cv).ownBlock.toList → U0.heap.size + 1 ≤ b := fun b hb => by have := H.out.row.own b (by simpa using hb); omega
                 have hout3 := hC3.at H.out.out (fun hm => by have := hnb _ hm; omega)
                 have s3 := (blk4 hout3).2.2.2
                 have f3 := blkF hout3 3
                 obtain ⟨A', c', rfl⟩ := own_slice hown'
                 have H3 := Lib.hid (And.intro hrow3 (And.intro hC3 (And.intro hnb hout3)))
                 clear hrow3 hgr hat hown' hC3 hnb hout3 HG)
              | (skip; fail))
            go_roundw
            case rel =>
              have hnb := H3.out.2.2.1
              have hCs : Chg [U0.heap.size] X3 (X3.setCell ⟨U0.heap.size, 3, none⟩ (.slice A' (k + 1) c')) := (Chg.refl _ _).setCell _ _ (by simp)
              have hnb3 : ∀ b, (Value.slice A' (k + 1) c').ownBlock = some b → U0.heap.size + 1 ≤ b := fun b hb => by have := H3.out.1.own b hb; omega
              refine ⟨k + 1, .slice A' (k + 1) c', by omega, by go_num, Lib.hid ⟨?_, ?_, ?_, ?_⟩⟩
              · exact hCs.at (H3.out.2.1.at H.out.res (fun hm => by have := hnb _ hm; have := HU0.out; omega)) (by simp; have := HU0.out; omega)
              · exact heap_setCell_same _ _ 3 _ _ _ H3.out.2.2.2
              · exact (H.out.chg.andThen H3.out.2.1 (fun i hi => .inr (by have := hnb i hi; have := HU0.out; omega))).andThen hCs (fun i hi => .inr (by simp at hi; have := HU0.out; omega))
              · exact H3.out.1.kept hCs (fun b hb => by have := hnb3 b hb; simp; omega) (fun g hg => by simp; omega)
            case measure => simp [intOf]; omega
          · obtain rfl : k = ks.length := by omega
            have hrow := H.out.row
            rw [List.take_of_length_le (Nat.le_refl _)] at hrow
            obtain ⟨A', c', he, hV⟩ := RowV.node ({ t with kids := ks } : Tr) hrow HTx.out
            injection he with hA1 _ hc1
            subst hA1 hc1
            have HV := Lib.hid hV
            clear hrow hV
            obtain ⟨q0, q1, q2, q3⟩ := blk4 H.out.out
            obtain ⟨r0, r1, r2, r3⟩ := blk4 H.out.res
            have f0 := blkF H.out.res 0
            have f1 := blkF H.out.res 1
            have f2 := blkF H.out.res 2
            have f3 := blkF H.out.res 3
            go_wp2_with (skip; fail)
            have hC0 := chg4 U (w.heap.size + 1) (.int .i64 t.id) (.int .i64 t.kind) (.string t.text) (.slice Av ks.length cv)
            have hsz := H.out.chg.size
            have hlt1 := lt_of_block H.out.out
            have hF : ∀ g, U0.heap.size + 1 ≤ g ∨ (Value.slice Av ks.length cv).ownBlock = some g → U0.heap.size + 1 ≤ g := fun g hg => by
              rcases hg with hg | hg
              · omega
              · have := H.out.row.own g hg; omega
            refine bodyPost_ret (v := .agg #[.int .i64 t.id, .int .i64 t.kind, .string t.text, .slice Av ks.length cv]) (results_cell_row rfl _ _ (w.heap.size + 1) _ _ _ _ rfl (set4 H.out.res) Try.underlying24 rfl szNode) rfl ?_
            rw [HR.out]
            have hu0 := HU0.out
            refine ⟨Av, cv, rfl, ?_, H.out.chg.andThen hC0 (fun i hi => by simp at hi; omega)⟩
            exact ((HV.out.bound.weak (F' := fun g => U0.heap.size + 1 ≤ g ∧ g < U.heap.size) (fun g hg => ⟨hF g hg.1, hg.2⟩)).kept hC0 (fun g hg => by simp; omega)).weak (fun g hg => ⟨by omega, Nat.lt_of_lt_of_le hg.2 hC0.size⟩)
      · have hb : (x.id == id) = false := by simpa using hid
        have hpc := par09_any id U0.heap.size x At ct U0 (Nat.le_refl _) ((hatt.kept H0.out.1.chg (by simp)).weak (fun b hb2 _ => Nat.lt_of_lt_of_le hb2 H0.out.1.chg.size))
        have HC := Lib.hid (And.intro hpc (And.intro hrt' (And.intro hatt hid)))
        have HXX := Lib.hid hx
        clear hrt hrt' hgt hpc hatt hid hx
        go_wp2_with (first
          | (refine wpList_load_mid rfl 24 (.tmp 59) rfl gt (ot + k0 * 4) rfl _ _ HC.out.2.1 Try.underlying24 rfl szNode ?_
             ((try dsimp only); (try simp only [Act.put, List.setIfInBounds_toArray, List.set_cons_zero, List.set_cons_succ])))
          | (skip; fail))
        refine HC.out.1.mono ?_
        cases hp : parR id x with
        | none =>
          rintro e X ⟨hX, rfl⟩
          have hPX := H0.out.1.kept (hX.alloc (.cells #[.int .i64 0, .int .i64 0, .string ⟨#[]⟩, .slice none 0 0] 24))
          have hall : ∀ j (hj : j < k0 + 1) (hl : j < t.kids.length), (t.kids[j]).id ≠ id ∧ parR id t.kids[j] = none := fun j hj hl => by
            rcases Nat.lt_or_ge j k0 with h | h
            · exact H0.out.2 j h hl
            · obtain rfl : j = k0 := by omega
              rw [← HXX.out]; exact ⟨HC.out.2.2.2, hp⟩
          have HX := Lib.hid (And.intro hPX hall)
          clear hX hPX hp hall p0 p1 p2 p3
          go_wp2_with (skip; fail)
          go_roundw
          case rel => exact ⟨k0 + 1, by omega, by go_num, Lib.hid HX.out⟩
          case measure => simp [intOf]; omega
        | some yn =>
          obtain ⟨y, n⟩ := yn
          have hrep := repT_in (ks := ks) hlt0 (by rw [← HXX.out]; exact HC.out.2.2.2) (by rw [← HXX.out, hp]; rfl) (fun j hj => H0.out.2 j hj (by omega))
          rw [← HXX.out] at hrep
          rintro e X ⟨hX, A1, c1, rfl, hTy⟩
          obtain ⟨Y, hY⟩ : ∃ Y, Y = X.alloc (.cells #[.int .i64 (Tr.id y), .int .i64 (Tr.kind y), .string (Tr.text y), .slice A1 (Tr.kids y).length c1] 24) := ⟨_, rfl⟩
          have hUY : Chg [] U0 Y := by rw [hY]; exact hX.alloc _
          have hPY := H0.out.1.kept hUY
          clear p0 p1 p2 p3 c0
          obtain ⟨p0, p1, p2, p3⟩ := blk4 hPY.b0
          have hcp := copy_any t (some ⟨gt, ot, none⟩) c Y ((HW.out.2.2.2.2.2.1.kept hPY.chg (by simp)).weak (fun _ _ _ => trivial)) HW.out.2.2.2.2.2.2
          have HX := Lib.hid (And.intro hY (And.intro hPY (And.intro hrep (And.intro hcp hUY))))
          rw [hY] at p0 p1 p2 p3
          clear hX hUY hPY hTy hp hY hrep hcp
          go_wp2_with fail
          rw [← HX.out.1]
          clear p0 p1 p2 p3
          refine HX.out.2.2.2.1.mono ?_
          rintro e Z ⟨A2, c2, rfl, hV2, hZ⟩
          obtain ⟨b2, C2, ci2, Fi2, hA2, hb2, hF2, hri2, hTi2, hFi2, _, _, hset⟩ := (by obtain ⟨A', c', e, _, hkv⟩ := hV2.kidsV; simp only [List.cons.injEq, Value.slice.injEq, true_and, and_true] at e; obtain ⟨rfl, rfl⟩ := e; exact hkv.at hlt0 : ∃ (b : Nat) (C : Array Value) (ci : List Value) (Fi : Nat → Prop), A2 = some ⟨b, 0, none⟩ ∧ Z.heap[b]? = some (.cells C 24 (0, 0)) ∧ (Y.heap.size ≤ b ∧ b < Z.heap.size) ∧ Z.rangeAt b (k0 * 4) ci ∧ TrV Z (t.kids[k0]) ci Fi ∧ (∀ x, Fi x → (Y.heap.size ≤ x ∧ x < Z.heap.size) ∧ x ≠ b) ∧ _ ∧ _ ∧ _)
          subst hA2
          have hfit : k0 * 4 + 4 ≤ C2.size := range_size hb2 hri2 hTi2.four
          obtain ⟨V, hV⟩ : ∃ V, V = Z.alloc (.cells #[.int .i64 (Tr.id t), .int .i64 (Tr.kind t), .string (Tr.text t), .slice (some ⟨b2, 0, none⟩) (Tr.kids t).length c2] 24) := ⟨_, rfl⟩
          have hZV : Chg [] Z V := by rw [hV]; exact (by with_reducible repeat (first | exact Chg.refl _ _ | apply Chg.alloc | apply Chg.drew | apply Chg.drewN | (refine Chg.setCell ?_ _ _ (by simp))))
          have hb14 : V.heap[Z.heap.size]? = some (.cells #[.int .i64 (Tr.id t), .int .i64 (Tr.kind t), .string (Tr.text t), .slice (some ⟨b2, 0, none⟩) (Tr.kids t).length c2] 24 (0, 0)) := by rw [hV]; exact heap_new _ _ rfl
          have hYV : Chg [] Y V := hZ.trans hZV
          have HZ := Lib.hid (And.intro hset (And.intro hb2 (And.intro hF2 (And.intro hFi2 (And.intro hfit (And.intro hZ (And.intro hZV (And.intro hb14 hV))))))))
          have HK0 := Lib.hid (And.intro hlt0 hk0)
          clear hset hb2 hF2 hFi2 hfit hZ hZV hb14 hri2 hTi2 hV2
          go_wp2_with (skip; fail)
          rw [← HZ.out.2.2.2.2.2.2.2.2]
          clear hV
          refine wp_region_M (fun W => W.cell? ⟨Z.heap.size, 3, none⟩ = some (.slice (some ⟨b2, 0, none⟩) t.kids.length c2)) (fun k => [10, 12].contains k) (fun k => [12].contains k) (by kernel_rfl) ?_
          obtain ⟨Q, hQ⟩ : ∃ Q, Q = V.drew := ⟨_, rfl⟩
          rw [← hQ]
          have hVQ : Chg [] V Q := by rw [hQ]; exact (Chg.refl _ _).drew
          clear hQ
          have hPQ := HX.out.2.1.kept (hYV.trans hVQ)
          have hS : Q.cell? ⟨Z.heap.size, 3, none⟩ = some (.slice (some ⟨b2, 0, none⟩) t.kids.length c2) := (blk4 (hVQ.at HZ.out.2.2.2.2.2.2.2.1 (by simp))).2.2.2
          obtain ⟨p0, p1, p2, p3⟩ := blk4 hPQ.b0
          have hri := HW.out.2.2.1 x (by rw [HXX.out]; exact List.getElem_mem HK0.out.1) At ct Q ((HC.out.2.2.1.kept hPQ.chg (by simp)).weak (fun b hb _ => Nat.lt_of_lt_of_le hb hPQ.chg.size)) ((HW.out.2.2.2.2.1.kept hPQ.chg (by simp)).weak (fun b hb _ => Nat.lt_of_lt_of_le hb hPQ.chg.size)) (by have h := HW.out.2.2.2.2.2.2; have := nodesL_mem (List.getElem_mem HK0.out.1); rw [Tr.nodes_eq] at h; rw [HXX.out]; omega)
          have hrq : Q.rangeAt gt (ot + k0 * 4) [.int .i64 (Tr.id x), .int .i64 (Tr.kind x), .string (Tr.text x), .slice At (Tr.kids x).length ct] := (HX.out.2.2.2.2.trans (hYV.trans hVQ)).range HC.out.2.1 (by simp)
          have HQ := Lib.hid (And.intro hVQ (And.intro hPQ (And.intro hri hrq)))
          have wi0 : (0 : Int) ≤ (k0 : Int) := by omega
          have wi1 : (k0 : Int) < (t.kids.length : Int) := by omega
          clear hVQ hPQ hri hrq hYV hk0
          ((try dsimp only); (try simp only [Act.put, List.setIfInBounds_toArray, List.set_cons_zero, List.set_cons_succ]))
          refine M_pure (i := 0) (v := ?_) rfl (by kernel_rfl) (by kernel_rfl) (by kernel_rfl) (fun _ _ _ h => h) (by rfl) ?hy ?_; (case hy => (intro w; go_simp; with_reducible rfl)); ((try dsimp only); (try simp only [Act.put, List.setIfInBounds_toArray, List.set_cons_zero, List.set_cons_succ]))
          refine M_semi (i := 1) (v := ?_) rfl (by kernel_rfl) (by kernel_rfl) (by kernel_rfl) (by kernel_rfl) (fun _ _ _ h => h) (by rfl) hS ?hy ?_; (case hy => (intro w hS; go_simp; with_reducible rfl)); ((try dsimp only); (try simp only [Act.put, List.setIfInBounds_toArray, List.set_cons_zero, List.set_cons_succ]))
          refine M_pure (i := 2) (v := ?_) rfl (by kernel_rfl) (by kernel_rfl) (by kernel_rfl) (fun _ _ _ h => h) (by rfl) ?hy ?_; (case hy => (intro w; go_simp; with_reducible rfl)); ((try dsimp only); (try simp only [Act.put, List.setIfInBounds_toArray, List.set_cons_zero, List.set_cons_succ]))
          refine M_pure (i := 3) (v := ?_) rfl (by kernel_rfl) (by kernel_rfl) (by kernel_rfl) (fun _ _ _ h => h) (by rfl) ?hy ?_; (case hy => (intro w; go_simp; with_reducible rfl)); ((try dsimp only); (try simp only [Act.put, List.setIfInBounds_toArray, List.set_cons_zero, List.set_cons_succ]))
          refine M_take (i := 4) (v := ?_) rfl (by kernel_rfl) (by kernel_rfl) (by kernel_rfl) (by kernel_rfl) (fun _ _ _ h => h) (by rfl) ?hy ?_; (case hy => (go_simp; with_reducible rfl)); ((try dsimp only); (try simp only [Act.put, List.setIfInBounds_toArray, List.set_cons_zero, List.set_cons_succ]))
          refine M_pure (i := 5) (v := ?_) rfl (by kernel_rfl) (by kernel_rfl) (by kernel_rfl) (fun _ _ _ h => h) (by rfl) ?hy ?_; (case hy => (intro w; go_simp; with_reducible rfl)); ((try dsimp only); (try simp only [Act.put, List.setIfInBounds_toArray, List.set_cons_zero, List.set_cons_succ]))
          refine M_pure (i := 6) (v := ?_) rfl (by kernel_rfl) (by kernel_rfl) (by kernel_rfl) (fun _ _ _ h => h) (by rfl) ?hy ?_; (case hy => (intro w; go_simp; with_reducible rfl)); ((try dsimp only); (try simp only [Act.put, List.setIfInBounds_toArray, List.set_cons_zero, List.set_cons_succ]))
          refine M_take (i := 7) rfl (by kernel_rfl) (by kernel_rfl) (by kernel_rfl) (by kernel_rfl) (fun _ _ _ h => h) (by rfl) (exec_load_mid 24 (.tmp 75) rfl gt (ot + k0 * 4) rfl _ _ HQ.out.2.2.2 Try.underlying24 rfl szNode) ?_; ((try dsimp only); (try simp only [Act.put, List.setIfInBounds_toArray, List.set_cons_zero, List.set_cons_succ]))
          refine M_pure (i := 8) (v := ?_) rfl (by kernel_rfl) (by kernel_rfl) (by kernel_rfl) (fun _ _ _ h => h) (by rfl) ?hy ?_; (case hy => (intro w; go_simp; with_reducible rfl)); ((try dsimp only); (try simp only [Act.put, List.setIfInBounds_toArray, List.set_cons_zero, List.set_cons_succ]))
          refine M_pure (i := 9) (v := ?_) rfl (by kernel_rfl) (by kernel_rfl) (by kernel_rfl) (fun _ _ _ h => h) (by rfl) ?hy ?_; (case hy => (intro w; go_simp; with_reducible rfl)); ((try dsimp only); (try simp only [Act.put, List.setIfInBounds_toArray, List.set_cons_zero, List.set_cons_succ]))
          refine M_eff (i := 10) rfl (by kernel_rfl) (by rfl) ?_
          clear p0 p1 p2 p3
          go_wp2_with fail
          refine HQ.out.2.2.1.mono ?_
          obtain ⟨r, hr⟩ : ∃ r, r = repT id ks x := ⟨_, rfl⟩
          rw [← hr]
          have HRr := Lib.hid hr
          clear hr
          rintro e X2 ⟨A3, c3, rfl, hV3, hX2⟩
          have hS2 : X2.cell? ⟨Z.heap.size, 3, none⟩ = some (.slice (some ⟨b2, 0, none⟩) t.kids.length c2) := hX2.cell hS (by simp)
          have HX2 := Lib.hid (And.intro hV3 hX2)
          clear hV3 hX2 hS
          go_wp2_with fail
          refine ⟨hS2, ?_⟩
          clear hS2
          ((try dsimp only); (try simp only [Act.put, List.setIfInBounds_toArray, List.set_cons_zero, List.set_cons_succ]))
          refine M_pure (i := 11) (v := ?_) rfl (by kernel_rfl) (by kernel_rfl) (by kernel_rfl) (fun _ _ _ h => h) (by rfl) ?hy ?_; (case hy => (intro w; go_simp; with_reducible rfl)); ((try dsimp only); (try simp only [Act.put, List.setIfInBounds_toArray, List.set_cons_zero, List.set_cons_succ]))
          have hbX2 := HX2.out.2.at (HQ.out.1.at (HZ.out.2.2.2.2.2.2.1.at HZ.out.2.1 (by simp)) (by simp)) (by simp)
          have HB2 := Lib.hid hbX2
          clear hbX2
          refine M_brk (i := 12) rfl (by kernel_rfl) (by rfl) (by rfl) ?_
          go_wp2_with (first
            | (refine wpList_put_node rfl (.tmp 80) (.tmp 79) rfl b2 (k0 * 4) rfl [.int .i64 (Tr.id r), .int .i64 (Tr.kind r), .string (Tr.text r), .slice A3 (Tr.kids r).length c3] rfl C2 HB2.out rfl HZ.out.2.2.2.2.1 (one4 HX2.out.1.toC) ?_)
            | fail)
          ((try dsimp only [EffQ]); (try simp only [Act.put, List.setIfInBounds_toArray, List.set_cons_zero, List.set_cons_succ]))
          refine M_done (by kernel_rfl) ?_ _
          obtain ⟨X3, hX3⟩ : ∃ X3, X3 = X2.setRow b2 (put4 C2 (k0 * 4) [.int .i64 (Tr.id r), .int .i64 (Tr.kind r), .string (Tr.text r), .slice A3 (Tr.kids r).length c3]) := ⟨_, rfl⟩
          rw [← hX3]
          have hc3 : Chg [b2] X2 X3 := by rw [hX3]; exact setRow_chg _ _ _
          have hZX2 : Chg [] Z X2 := HZ.out.2.2.2.2.2.2.1.trans (HQ.out.1.trans HX2.out.2)
          have hF2 := HZ.out.2.2.1
          have hfr : Fr b2 (k0 * 4) Fi2 Z X3 := (Fr.of_chg hZX2 hF2.2).trans (by rw [hX3]; exact Fr.put4 HB2.out rfl HZ.out.2.2.2.2.1)
          have hr3 : X3.rangeAt b2 (k0 * 4) [.int .i64 (Tr.id r), .int .i64 (Tr.kind r), .string (Tr.text r), .slice A3 (Tr.kids r).length c3] := by rw [hX3]; exact put4_range HB2.out rfl HZ.out.2.2.2.2.1
          have hVQs : Z.heap.size < Q.heap.size := by have := HQ.out.1.size; have := lt_of_block HZ.out.2.2.2.2.2.2.2.1; omega
          have hV3 : TrV X3 r [.int .i64 (Tr.id r), .int .i64 (Tr.kind r), .string (Tr.text r), .slice A3 (Tr.kids r).length c3] (fun g => Q.heap.size ≤ g ∧ g < X2.heap.size) := HX2.out.1.kept hc3 (fun g hg => by simp; omega)
          have hkv := HZ.out.1 X3 r _ _ hfr hr3 hV3 (fun y hy => ⟨.inr (fun h => by omega), by omega⟩)
          have hb14 := hc3.at ((HQ.out.1.trans HX2.out.2).at HZ.out.2.2.2.2.2.2.2.1 (by simp)) (by simp; omega)
          have hb1 := hc3.at ((HQ.out.2.1.kept HX2.out.2).b1) (by simp; have := lt_of_block H0.out.1.b1; have := HX.out.2.2.2.2.size; omega)
          have hwX3 : Chg [] w X3 := (HQ.out.2.1.chg.trans HX2.out.2).andThen hc3 (by have := HX.out.2.1.chg.size; simp; omega)
          clear hX3
          obtain ⟨q0, q1, q2, q3⟩ := blk4 hb14
          obtain ⟨r0, r1, r2, r3⟩ := blk4 hb1
          have f0 := blkF hb1 0
          have f1 := blkF hb1 1
          have f2 := blkF hb1 2
          have f3 := blkF hb1 3
          have H3 := Lib.hid (And.intro hkv (And.intro hb1 (And.intro hwX3 (And.intro hZX2.size hc3.size))))
          have HVQ := Lib.hid (And.intro hVQs hF2)
          clear hc3 hZX2 hfr hr3 hV3 hkv hb14 hb1 hwX3 hVQs hF2
          go_wp2_with (skip; fail)
          have hc4 := chg4 X3 (w.heap.size + 1) (.int .i64 t.id) (.int .i64 t.kind) (.string t.text) (.slice (some ⟨b2, 0, none⟩) t.kids.length c2)
          have hl1 := lt_of_block H0.out.1.b1
          have hs4 := hc4.size
          have hu := HX.out.2.2.2.2.size
          have hw0 := HX.out.2.1.chg.size
          have hVQs := HVQ.out
          have hs3 := H3.out.2.2.2
          have hb2l := HZ.out.2.2.1
          have hX2s := HX2.out.2.size
          refine bodyPost_ret (v := .agg #[.int .i64 t.id, .int .i64 t.kind, .string t.text, .slice (some ⟨b2, 0, none⟩) t.kids.length c2]) (results_cell_row rfl _ _ (w.heap.size + 1) _ _ _ _ rfl (set4 H3.out.2.1) Try.underlying24 rfl szNode) rfl ?_
          rw [HX.out.2.2.1, ← HRr.out]
          have hcl := KidsV.close ({ t with kids := t.kids.set k0 r } : Tr) H3.out.1 HTx.out
          refine ⟨some ⟨b2, 0, none⟩, c2, by simp only [List.length_set], ?_, H3.out.2.2.1.andThen hc4 (by simp)⟩
          simp only [List.length_set] at hcl ⊢
          exact (hcl.kept hc4 (fun g hg => by simp; omega)).weak (fun g hg => ⟨by omega, by omega⟩)
    · obtain rfl : k0 = t.kids.length := by omega
      have hrep := repT_none (id := id) (ks := ks) (t := t) (fun j hj => H0.out.2 j hj hj)
      have hcp := copy_any t A c U0 ((HW.out.2.2.2.2.2.1.kept H0.out.1.chg (by simp)).weak (fun _ _ _ => trivial)) HW.out.2.2.2.2.2.2
      have HR := Lib.hid (And.intro hrep hcp)
      clear hrep hcp
      go_wp2_with fail
      refine HR.out.2.mono ?_
      rintro e Z ⟨A2, c2, rfl, hV2, hZ⟩
      have z1 := hZ.at H0.out.1.b1 (by simp)
      obtain ⟨r0, r1, r2, r3⟩ := blk4 z1
      have f0 := blkF z1 0
      have f1 := blkF z1 1
      have f2 := blkF z1 2
      have f3 := blkF z1 3
      have HZ := Lib.hid (And.intro hV2 (And.intro hZ z1))
      clear hV2 hZ z1 p0 p1 p2 p3
      go_wp2_with (skip; fail)
      have hc4 := chg4 Z (w.heap.size + 1) (.int .i64 t.id) (.int .i64 t.kind) (.string t.text) (.slice A2 t.kids.length c2)
      have hl1 := lt_of_block H0.out.1.b1
      have hs4 := hc4.size
      refine bodyPost_ret (v := .agg #[.int .i64 (Tr.id t), .int .i64 (Tr.kind t), .string (Tr.text t), .slice A2 (Tr.kids t).length c2]) (results_cell_row rfl _ _ (w.heap.size + 1) _ _ _ _ rfl (set4 HZ.out.2.2) Try.underlying24 rfl szNode) rfl ?_
      rw [HR.out.1]
      refine ⟨A2, c2, rfl, ?_, (H0.out.1.chg.trans HZ.out.2.1).andThen hc4 (by simp)⟩
      exact (HZ.out.1.kept hc4 (fun g hg => by simp; omega)).weak (fun g hg => ⟨by omega, by omega⟩)
end Go.Proofs.Ytofjocjljbkjgaa
namespace Go.Proofs.Ytofjocjljbkjgaa
open Go.RowKit
mutual
theorem parR_nodes (id : Int) : ∀ (t pn : Tr) (k : Nat), parR id t = some (pn, k) → pn.nodes ≤ t.nodes
  | ⟨i, kd, x, cs⟩, pn, k, h => by
    rw [parR] at h
    rcases parRL_nodes id _ cs 0 pn k h with rfl | h
    · exact Nat.le_refl _
    · rw [Tr.nodes_eq ⟨i, kd, x, cs⟩]; show pn.nodes ≤ 1 + nodesL cs; omega
theorem parRL_nodes (id : Int) (t : Tr) : ∀ (cs : List Tr) (n : Nat) (pn : Tr) (k : Nat), parRL id t cs n = some (pn, k) → pn = t ∨ pn.nodes ≤ nodesL cs
  | [], n, pn, k, h => by simp [parRL] at h
  | c :: cs, n, pn, k, h => by
    rw [parRL] at h
    by_cases hc : c.id = id
    · rw [if_pos hc] at h; simp only [Option.some.injEq, Prod.mk.injEq] at h; exact .inl h.1.symm
    · rw [if_neg hc] at h
      cases hp : parR id c with
      | some r =>
        rw [hp] at h
        simp only [Option.some.injEq] at h
        subst h
        have := parR_nodes id c pn k hp
        exact .inr (by simp only [nodesL]; omega)
      | none =>
        rw [hp] at h
        rcases parRL_nodes id t cs (n + 1) pn k h with h | h
        · exact .inl h
        · exact .inr (by simp only [nodesL]; omega)
end
theorem nodesL_erase : ∀ (ks : List Tr) (k : Nat), nodesL (ks.eraseIdx k) ≤ nodesL ks
  | [], k => by simp
  | c :: cs, 0 => by simp [nodesL]
  | c :: cs, k + 1 => by simp only [List.eraseIdx_cons_succ, nodesL]; have := nodesL_erase cs k; omega
theorem erase_take {α : Type} {l : List α} {i k : Nat} (hi : i < l.length) : (l.take (i + 1)).eraseIdx k = if i = k then (l.take i).eraseIdx k else (l.take i).eraseIdx k ++ [l[i]] := by
  rw [List.take_succ_eq_append_getElem hi]
  have hl : (l.take i).length = i := by simp; omega
  by_cases h : i = k
  · subst h
    rw [if_pos rfl, List.eraseIdx_append_of_length_le (by omega), hl, Nat.sub_self, List.eraseIdx_cons_zero, List.append_nil, List.eraseIdx_of_length_le (by omega)]
  · rw [if_neg h]
    rcases Nat.lt_or_ge k i with h2 | h2
    · rw [List.eraseIdx_append_of_lt_length (by omega)]
    · rw [List.eraseIdx_of_length_le (by simp; omega), List.eraseIdx_of_length_le (by omega)]
structure Wo (w : World) (t : Tr) (A : Option Addr) (c : Nat) (pn : Tr) (A1 : Option Addr) (c1 b5 : Nat) (W : World) : Prop where
  pr : PrB w t A c W
  b5 : W.heap[b5]? = some (.cells #[.int .i64 (Tr.id pn), .int .i64 (Tr.kind pn), .string (Tr.text pn), .slice A1 (Tr.kids pn).length c1] 24 (0, 0))
set_option maxHeartbeats 4000000 in
set_option maxRecDepth 100000 in
theorem without_any (t : Tr) (A : Option Addr) (c : Nat) (id : Int) (pn : Tr) (k : Nat) (w : World) (hT : TrC (fun b => b < w.heap.size) w t [.int .i64 (Tr.id t), .int .i64 (Tr.kind t), .string (Tr.text t), .slice A (Tr.kids t).length c]) (hN : t.nodes ≤ 100000) (hp : parR id t = some (pn, k)) :
    Calls Try.prog 75 #[.agg #[.int .i64 (Tr.id t), .int .i64 (Tr.kind t), .string (Tr.text t), .slice A (Tr.kids t).length c], .int .i64 id] w (NewPost (repT id (pn.kids.eraseIdx k) t) w) := by
  obtain ⟨W, hW⟩ : ∃ W, W = (w.alloc (.cells #[.int .i64 (Tr.id t), .int .i64 (Tr.kind t), .string (Tr.text t), .slice A (Tr.kids t).length c] 24)).alloc (.cells #[.int .i64 0, .int .i64 0, .string ⟨#[]⟩, .slice none 0 0] 24) := ⟨_, rfl⟩
  have hB : PrB w t A c W := by rw [hW]; exact PrB.new _ _ _ _
  obtain ⟨p0, p1, p2, p3⟩ := blk4 hB.b0
  have hpc := par09_any id w.heap.size t A c W hB.chg.size (hT.kept hB.chg (by simp))
  rw [hp] at hpc
  have hpn := parR_nodes id t pn k hp
  have HW := Lib.hid (And.intro hW (And.intro hB (And.intro hpc (And.intro hT (And.intro hN hpn)))))
  rw [hW] at p0 p1 p2 p3
  clear hW hB hpc hT hN hp hpn
  go_enter Try.func75, Try.ntmps75
  go_wp2_with fail
  rw [← HW.out.1]
  clear p0 p1 p2 p3
  refine HW.out.2.2.1.mono ?_
  rintro e X ⟨hX, A1, c1, rfl, hTp⟩
  obtain ⟨Y, hY⟩ : ∃ Y, Y = X.alloc (.cells #[.int .i64 (Tr.id pn), .int .i64 (Tr.kind pn), .string (Tr.text pn), .slice A1 (Tr.kids pn).length c1] 24) := ⟨_, rfl⟩
  have hXY : Chg [] X Y := by rw [hY]; exact (by with_reducible repeat (first | exact Chg.refl _ _ | apply Chg.alloc | apply Chg.drew | apply Chg.drewN | (refine Chg.setCell ?_ _ _ (by simp))))
  obtain ⟨b5, hb5⟩ : ∃ b5, b5 = X.heap.size := ⟨_, rfl⟩
  have hWo : Wo w t A c pn A1 c1 b5 Y := ⟨HW.out.2.1.kept (hX.trans hXY), by rw [hY, hb5]; exact heap_new _ _ rfl⟩
  obtain ⟨A', c', hcs, hlc, hcm, htxt, hKp⟩ := (hTp.kept hXY (by simp)).opens
  simp only [List.cons.injEq, Value.slice.injEq, true_and, and_true] at hcs
  obtain ⟨rfl, rfl⟩ := hcs
  have hlen : pn.kids.length ≤ 100000 := by have := nodesL_len pn.kids; have h1 := HW.out.2.2.2.2.1; have h2 := HW.out.2.2.2.2.2; rw [Tr.nodes_eq] at h2; omega
  have HX := Lib.hid (And.intro hY (And.intro hWo (And.intro hKp hb5)))
  have hwY : w.heap.size ≤ Y.heap.size := hWo.pr.chg.size
  have hb5w : w.heap.size ≤ b5 := by have := HW.out.2.1.chg.size; have := hX.size; omega
  clear hY hXY hWo hKp hX hTp hlc hcm htxt hb5
  go_wp2_with (skip; fail)
  rw [← HX.out.1, ← HX.out.2.2.2]
  go_loopw [8, 9] (fun v i wr => ∃ (j : Nat) (vr : Value), j ≤ pn.kids.length ∧ vr = v ∧ i = .int .i64 j ∧ Hid (Wo w t A c pn A1 c1 b5 wr ∧ RowN wr (fun b => b < w.heap.size) w.heap.size vr ((pn.kids.take j).eraseIdx k) ∧ (∀ b, vr.ownBlock = some b → Y.heap.size ≤ b) ∧ Chg [] Y wr)) (fun _ i _ => pn.kids.length - (intOf i).toNat)
  case atStart => exact ⟨0, _, Nat.zero_le _, rfl, rfl, Lib.hid ⟨HX.out.2.1, by simp; exact RowN.nil _ _ _, fun b hb => by simp [Value.ownBlock] at hb, Chg.refl _ _⟩⟩
  case round =>
    obtain ⟨j, vr, hj, rfl, rfl, H⟩ := hrel
    obtain ⟨U, hU⟩ : ∃ U, U = wr := ⟨_, rfl⟩
    subst hU
    obtain ⟨p0, p1, p2, p3⟩ := blk4 H.out.1.b5
    by_cases hlt : j < pn.kids.length
    · obtain ⟨gk, ok, cs, rfl, hgk, hr, hat⟩ := HX.out.2.2.1 j _ (List.getElem?_eq_getElem hlt)
      obtain ⟨Ak, ckk, rfl, _⟩ := hat.opens
      have her := erase_take (k := k) hlt
      obtain ⟨x, hx⟩ : ∃ x, x = pn.kids[j] := ⟨_, rfl⟩
      rw [← hx] at hr hat her
      by_cases hjk : j = k
      · have hb : ((j : Int) != (k : Int)) = false := by simp [hjk]
        rw [if_pos hjk] at her
        have HE := Lib.hid her
        clear hr hat her hx hjk hgk
        go_wp2_with (skip; fail)
        go_roundw
        case rel => exact ⟨j + 1, vr, by omega, rfl, by go_num, Lib.hid ⟨H.out.1, by rw [HE.out]; exact H.out.2.1, H.out.2.2⟩⟩
        case measure => simp [intOf]; omega
      · have hb : ((j : Int) != (k : Int)) = true := by simp; omega
        rw [if_neg hjk] at her
        have hr' := H.out.2.2.2.range hr (by simp)
        obtain ⟨Z, hZ⟩ : ∃ Z, Z = U.alloc (.cells #[.int .i64 (Tr.id x), .int .i64 (Tr.kind x), .string (Tr.text x), .slice Ak (Tr.kids x).length ckk] 24) := ⟨_, rfl⟩
        have hUZ : Chg [] U Z := by rw [hZ]; exact (by with_reducible repeat (first | exact Chg.refl _ _ | apply Chg.alloc | apply Chg.drew | apply Chg.drewN | (refine Chg.setCell ?_ _ _ (by simp))))
        have hsrc : SrcN (fun b => b < w.heap.size ∧ b < Z.heap.size ∧ vr.ownBlock ≠ some b) Z (some ⟨U.heap.size, 0, none⟩) [x] := SrcN.one (cs := [.int .i64 (Tr.id x), .int .i64 (Tr.kind x), .string (Tr.text x), .slice Ak (Tr.kids x).length ckk]) (by rw [hZ]; exact heap_new _ _ rfl) ((hat.kept (H.out.2.2.2.trans hUZ) (by simp)).weak (fun b hb hb2 => ⟨hb, hb2, fun e => by have := H.out.2.2.1 b e; omega⟩))
        have hkl : ((pn.kids.take j).eraseIdx k).length ≤ 1000000 := by have := List.length_eraseIdx_le (l := pn.kids.take j) (i := k); simp at this; omega
        have hUs := H.out.2.2.2.size
        have HE := Lib.hid (And.intro her (And.intro hr' (And.intro hZ (And.intro hUZ (And.intro hsrc hkl)))))
        clear hr hat her hx hjk hgk hr' hZ hUZ hsrc hkl
        go_wp2_with (first
          | (refine wpList_load_mid rfl 24 (.tmp 31) rfl gk (ok + j * 4) rfl _ _ HE.out.2.1 Try.underlying24 rfl szNode ?_)
          | (rw [← HE.out.2.2.1]
             refine wpList_append_nodes rfl (.tmp 27) (.tmp 33) rfl (fun b => b < w.heap.size) w.heap.size vr ((pn.kids.take j).eraseIdx k) rfl H.out.2.1 HE.out.2.2.2.1 (by simp) (by omega) (some ⟨U.heap.size, 0, none⟩) 1 1 [x] rfl rfl HE.out.2.2.2.2.1 HE.out.2.2.2.2.2 (by simp) ?_
             intro v2 Z2 hr2 hc2 hat2
             rw [← HE.out.1] at hr2
             have H2 := Lib.hid (And.intro hr2 (And.intro hc2 hat2))
             clear hr2 hc2 hat2)
          | (skip; fail))
        go_roundw
        case rel =>
          have hzs := HE.out.2.2.2.1.size
          have hcU : Chg vr.ownBlock.toList U Z2 := (HE.out.2.2.2.1.mono (by simp)).trans H2.out.2.1
          have hcY : Chg [] Y Z2 := H.out.2.2.2.andThen hcU (fun i hi => .inr (H.out.2.2.1 i (by simpa using hi)))
          refine ⟨j + 1, v2, by omega, rfl, by go_num, Lib.hid ⟨⟨⟨hcY.at HX.out.2.1.pr.b0 (by simp), hcY.at HX.out.2.1.pr.b1 (by simp), HX.out.2.1.pr.chg.trans hcY⟩, hcY.at HX.out.2.1.b5 (by simp)⟩, H2.out.1, fun b hb => ?_, hcY⟩⟩
          rcases H2.out.2.2 with h | h
          · rw [h] at hb; exact H.out.2.2.1 b hb
          · rw [h] at hb; injection hb with hb; omega
        case measure => simp [intOf]; omega
    · obtain rfl : j = pn.kids.length := by omega
      have hrow := H.out.2.1
      rw [List.take_of_length_le (Nat.le_refl _)] at hrow
      obtain ⟨ks, hks⟩ : ∃ ks, ks = pn.kids.eraseIdx k := ⟨_, rfl⟩
      rw [← hks] at hrow
      obtain ⟨Ar, cr, rfl⟩ := hrow.slice
      obtain ⟨_, hcl, hcm, hKr⟩ := hrow.toC
      have hkn : nodesL ks ≤ 100000 := by have h1 := nodesL_erase pn.kids k; have h2 := HW.out.2.2.2.2.1; have h3 := HW.out.2.2.2.2.2; rw [Tr.nodes_eq] at h3; rw [hks]; omega
      have hrp := replaced_any id ks Ar cr hkn hcl hcm t A c U ((HW.out.2.2.2.1.kept H.out.1.pr.chg (by simp)).weak (fun b hb _ => Nat.lt_of_lt_of_le hb H.out.1.pr.chg.size)) hKr HW.out.2.2.2.2.1
      obtain ⟨q0, q1, q2, q3⟩ := blk4 H.out.1.pr.b0
      have HR := Lib.hid (And.intro hrp hks)
      clear hrow hks hcl hcm hKr hkn hrp
      go_wp2_with fail
      clear q0 q1 q2 q3 p0 p1 p2 p3
      refine HR.out.1.mono ?_
      obtain ⟨r, hr⟩ : ∃ r, r = repT id ks t := ⟨_, rfl⟩
      rw [← hr]
      have HRr := Lib.hid hr
      clear hr
      rintro e Z ⟨A3, c3, rfl, hV3, hZ⟩
      have z1 := hZ.at H.out.1.pr.b1 (by simp)
      obtain ⟨r0, r1, r2, r3⟩ := blk4 z1
      have f0 := blkF z1 0
      have f1 := blkF z1 1
      have f2 := blkF z1 2
      have f3 := blkF z1 3
      have HZ := Lib.hid (And.intro hV3 (And.intro hZ z1))
      clear hV3 hZ z1
      go_wp2_with (skip; fail)
      have hc4 := chg4 Z (w.heap.size + 1) (.int .i64 r.id) (.int .i64 r.kind) (.string r.text) (.slice A3 r.kids.length c3)
      have hl1 := lt_of_block H.out.1.pr.b1
      have hs4 := hc4.size
      have hUw := H.out.1.pr.chg.size
      refine bodyPost_ret (v := .agg #[.int .i64 (Tr.id r), .int .i64 (Tr.kind r), .string (Tr.text r), .slice A3 (Tr.kids r).length c3]) (results_cell_row rfl _ _ (w.heap.size + 1) _ _ _ _ rfl (set4 HZ.out.2.2) Try.underlying24 rfl szNode) rfl ?_
      rw [← HR.out.2, ← HRr.out]
      refine ⟨A3, c3, rfl, ?_, (H.out.1.pr.chg.trans HZ.out.2.1).andThen hc4 (by simp)⟩
      exact (HZ.out.1.kept hc4 (fun g hg => by simp; omega)).weak (fun g hg => ⟨by omega, by omega⟩)
end Go.Proofs.Ytofjocjljbkjgaa
namespace Go.Proofs.Ytofjocjljbkjgaa
open Go.RowKit
theorem subT_of_path {id : Int} {t n : Tr} {p : List Nat} (hp : t.path id = some p) (hn : Tr.at? p t = some n) : t.subT id = some n := by unfold Tr.subT; rw [hp]; exact hn
theorem path_cases (id : Int) (t : Tr) : (t.path id = none ∧ t.subT id = none) ∨ ∃ p n, t.path id = some p ∧ Tr.at? p t = some n ∧ t.subT id = some n ∧ n.id = id := by
  cases hp : t.path id with
  | none => exact .inl ⟨rfl, by unfold Tr.subT; rw [hp]⟩
  | some p =>
    obtain ⟨n, hn, hi⟩ := Tr.path_at id t p hp
    exact .inr ⟨p, n, rfl, hn, subT_of_path hp hn, hi⟩
theorem makes_kids {id : Int} {t n : Tr} {p : List Nat} (ks : List Tr) (hp : t.path id = some p) (hn : Tr.at? p t = some n) : (makesT id ks n.text t false).1 = Tr.upd p t { n with kids := ks } := by
  rw [makesT_path id ks n.text t n p hp hn]
theorem insertT_ref (t : Tr) (par pl : Int) (sub : Tr) : insertT t par pl sub = match t.subT par with
    | none => .error 4
    | some n => if 0 ≤ pl ∧ pl ≤ n.kids.length then if (∀ i ∈ sub.ids, InRange i) then if FreshIds t.ids sub.ids then .ok (makesT par (insAt n.kids pl.toNat sub) n.text t false).1 else .error 60 else .error 2 else .error 2 := by
  unfold insertT
  rcases path_cases par t with ⟨h1, h2⟩ | ⟨p, n, h1, h2, h3, _⟩
  · rw [h1, h2]
  · rw [h1, h3]
    simp only []
    rw [h2]
    simp only [makes_kids _ h1 h2]
theorem textT_ref (t : Tr) (id : Int) (tx : ByteArray) : textT t id tx = match t.subT id with
    | none => .error 4
    | some n => .ok (makesT id n.kids tx t false).1 := by
  unfold textT
  rcases path_cases id t with ⟨h1, h2⟩ | ⟨p, n, h1, h2, h3, _⟩
  · rw [h1, h2]
  · rw [h1, h3]
    simp only []
    rw [h2]
    simp only []
    rw [makesT_path id n.kids tx t n p h1 h2]
theorem out_some {id : Int} {t n : Tr} (h : t.subT id = some n) (h0 : t.id ≠ id) : ∃ r pn k, t.out id = some (n, r) ∧ parR id t = some (pn, k) ∧ k < pn.kids.length ∧ repT id (pn.kids.eraseIdx k) t = r := by
  rcases path_cases id t with ⟨h1, h2⟩ | ⟨p, m, h1, h2, h3, _⟩
  · rw [h2] at h; cases h
  · have hs := Tr.path_out id t (by rw [h1]; rfl) h0
    have hpar := out_par id t
    cases ho : t.out id with
    | none => rw [ho] at hs; cases hs
    | some yr =>
      obtain ⟨y, r⟩ := yr
      rw [ho] at hpar
      simp only [] at hpar
      obtain ⟨pn, k, e1, e2, e3⟩ := hpar
      obtain ⟨q, g1, g2⟩ := Tr.out_path id t y r ho h0
      rw [h1] at g1
      cases g1
      rw [h3] at h
      cases h
      rw [h2] at g2
      cases g2
      exact ⟨r, pn, k, rfl, e1, e2, e3⟩
theorem deleteT_ref (t : Tr) (id : Int) : deleteT t id = match t.subT id with
    | none => .error 4
    | some _ => if t.id = id then .error 90 else match t.out id with | none => .error 1 | some (_, r) => .ok r := by
  unfold deleteT
  rcases path_cases id t with ⟨h1, h2⟩ | ⟨p, n, h1, h2, h3, _⟩
  · rw [h1, h2]
  · rw [h1, h3]; rfl
theorem moveT_ref (t : Tr) (id par pl : Int) : moveT t id par pl = match t.subT id with
    | none => .error 4
    | some x => match t.subT par with
      | none => .error 4
      | some _ => if t.id = id then .error 90 else match x.subT par with
        | some _ => .error 91
        | none => match t.out id with
          | none => .error 1
          | some (_, r) => match r.subT par with
            | none => .error 2
            | some n => if 0 ≤ pl ∧ pl ≤ n.kids.length then .ok (makesT par (insAt n.kids pl.toNat x) n.text r false).1 else .error 2 := by
  unfold moveT
  rcases path_cases id t with ⟨h1, h2⟩ | ⟨p, x, h1, h2, h3, _⟩
  · rw [h1, h2]
  · rw [h1, h3]
    rcases path_cases par t with ⟨g1, g2⟩ | ⟨p2, z, g1, g2, g3, _⟩
    · rw [g1, g2]
    · rw [g1, g3]
      simp only []
      by_cases h0 : t.id = id
      · rw [if_pos h0, if_pos h0]
      · rw [if_neg h0, if_neg h0, h2]
        simp only []
        obtain ⟨r, pn, k, e1, _⟩ := out_some h3 h0
        rcases path_cases par x with ⟨i1, i2⟩ | ⟨p3, z3, i1, _, i3, _⟩
        · rw [i1, i2, e1]
          simp only [Option.isSome_none, Bool.false_eq_true, if_false]
          rcases path_cases par r with ⟨j1, j2⟩ | ⟨p4, n, j1, j2, j3, _⟩
          · rw [j1, j2]
          · rw [j1, j3]
            simp only []
            rw [j2]
            simp only [makes_kids _ j1 j2]
        · rw [i1, i3]
          simp only [Option.isSome_some, if_true]
end Go.Proofs.Ytofjocjljbkjgaa
namespace Go.Proofs.Ytofjocjljbkjgaa
open Go.RowKit
mutual
theorem walk_deep : ∀ (t : Tr) (d : Int) (x : Tr) (e : Int), (x, e) ∈ t.walk d → e + 1 ≤ d + t.nodes ∧ d ≤ e
  | ⟨i, k, s, ks⟩, d, x, e, h => by
    unfold Tr.walk at h
    rcases List.mem_cons.1 h with h | h
    · cases h
      show d + 1 ≤ d + ((1 + nodesL ks : Nat) : Int) ∧ d ≤ d
      omega
    · have := walkL_deep ks (d + 1) x e h
      show e + 1 ≤ d + ((1 + nodesL ks : Nat) : Int) ∧ _
      omega
theorem walkL_deep : ∀ (ks : List Tr) (d : Int) (x : Tr) (e : Int), (x, e) ∈ walkL ks d → e + 1 ≤ d + nodesL ks ∧ d ≤ e
  | [], d, x, e, h => by simp [walkL] at h
  | k :: ks, d, x, e, h => by
    unfold walkL at h
    unfold nodesL
    rcases List.mem_append.1 h with h | h
    · have := walk_deep k d x e h; omega
    · have := walkL_deep ks d x e h; omega
end
set_option maxHeartbeats 4000000 in
set_option maxRecDepth 100000 in
theorem great01_any (t : Tr) (A : Option Addr) (c : Nat) (w : World) (hT : TrC (fun g => g < w.heap.size) w t [.int .i64 (Tr.id t), .int .i64 (Tr.kind t), .string (Tr.text t), .slice A (Tr.kids t).length c]) : Calls Try.prog 40 #[.agg #[.int .i64 (Tr.id t), .int .i64 (Tr.kind t), .string (Tr.text t), .slice A (Tr.kids t).length c]] w fun e w' => e = .returned (.bool (decide (2000 < t.nodes))) ∧ Chg [] w w' := by
  have hA : Chg [] w (w.alloc (.cells #[.int .i64 (Tr.id t), .int .i64 (Tr.kind t), .string (Tr.text t), .slice A (Tr.kids t).length c] 24)) := (by with_reducible repeat (first | exact Chg.refl _ _ | apply Chg.alloc | apply Chg.drew | apply Chg.drewN | (refine Chg.setCell ?_ _ _ (by simp))))
  have hc := walkT_any w.heap.size 2001 (by omega) t A c (w.alloc (.cells #[.int .i64 (Tr.id t), .int .i64 (Tr.kind t), .string (Tr.text t), .slice A (Tr.kids t).length c] 24)) (hT.kept hA (by simp)) (by simp)
  have HC := Lib.hid (And.intro hc hA)
  clear hc hA hT
  go_enter Try.func40, Try.ntmps40
  go_wp2_with fail
  refine HC.out.1.mono ?_
  rintro e X ⟨v, rfl, hR, hX⟩
  obtain ⟨A', c', rfl⟩ := hR.slice
  obtain ⟨l, hl⟩ : ∃ l, l = (t.walk 1).take 2001 := ⟨_, rfl⟩
  have hlen : l.length = min 2001 t.nodes := by rw [hl, List.length_take, Tr.walk_length]
  have hdp : ∀ (k : Nat) (h : k < l.length), (l[k]).2 ≤ t.nodes := fun k h => by
    have h3 : ∀ y, y ∈ l → y ∈ t.walk 1 := fun y hy => List.mem_of_mem_take (by rw [← hl]; exact hy)
    have hm : l[k] ∈ t.walk 1 := h3 _ (List.getElem_mem h)
    have := walk_deep t 1 (l[k]).1 (l[k]).2 hm
    omega
  rw [← hl] at hR ⊢
  have hl2 : l.length ≤ 2001 := by omega
  have HX := Lib.hid (And.intro hR (And.intro (HC.out.2.trans hX) (And.intro hlen hdp)))
  clear hR hX hl hlen hdp
  by_cases hbig : 2000 < t.nodes
  · have hg : (2000 : Int) < (l.length : Int) := by have := HX.out.2.2.1; omega
    have HB := Lib.hid hbig
    clear hbig
    go_wp2_with (skip; fail)
    go_ret
    exact ⟨by rw [decide_eq_true HB.out]; rfl, HX.out.2.1⟩
  · have hg : ¬ (2000 : Int) < (l.length : Int) := by have := HX.out.2.2.1; omega
    have hg2 : decide ((2000 : Int) < (l.length : Int)) = false := decide_eq_false hg
    have HB := Lib.hid hbig
    clear hbig
    go_wp2_with (skip; fail)
    go_loop [4] (fun i => ∃ k : Nat, k ≤ l.length ∧ i = .int .i64 k) (fun i => l.length - (intOf i).toNat)
    case atStart => exact ⟨0, Nat.zero_le _, rfl⟩
    case round =>
      obtain ⟨k, hk, rfl⟩ := hrel
      by_cases hlt : k < l.length
      · obtain ⟨g, c2, A2, cA, e, _, hT, hr⟩ := HX.out.1.at hlt
        injection e with e1 e2 e3
        subst e1 e3
        have r4 : X.cell? ⟨g, k * 5 + 4, none⟩ = some (.int .i64 (l[k]).2) := hr 4 _ rfl
        obtain ⟨d, hd⟩ : ∃ d, d = (l[k]).2 := ⟨_, rfl⟩
        have hd2 : ¬ (2000 : Int) < d := by have := HX.out.2.2.2 k hlt; have := HB.out; omega
        have hd3 : decide ((2000 : Int) < d) = false := decide_eq_false hd2
        rw [← hd] at r4
        clear hr hT hd
        go_wp2_with (skip; fail)
        go_round
        case rel => exact ⟨k + 1, by omega, by go_num⟩
        case measure => simp [intOf]; omega
      · go_wp2_with (skip; fail)
        go_ret
        exact ⟨by rw [decide_eq_false HB.out]; rfl, HX.out.2.1⟩
end Go.Proofs.Ytofjocjljbkjgaa
namespace Go.Proofs.Ytofjocjljbkjgaa
open Go.RowKit
def ApplyC (res : Except Int Tr) (w : World) (e : Ending) (w' : World) : Prop :=
  match res with
  | .error n => e = .returned (.tuple #[.agg #[.int .i64 0, .int .i64 0, .string ⟨#[]⟩, .slice none 0 0], .int .i64 n]) ∧ Chg [] w w'
  | .ok t' => ∃ A c, e = .returned (.tuple #[.agg #[.int .i64 (Tr.id t'), .int .i64 (Tr.kind t'), .string (Tr.text t'), .slice A (Tr.kids t').length c], .int .i64 0]) ∧ TrC (fun b => w.heap.size ≤ b ∧ b < w'.heap.size) w' t' [.int .i64 (Tr.id t'), .int .i64 (Tr.kind t'), .string (Tr.text t'), .slice A (Tr.kids t').length c] ∧ Chg [] w w'
theorem IvW.new (w : World) (t : Tr) (A : Option Addr) (c : Nat) (s : Stp) (As : Option Addr) (cs : Nat) : IvW w t A c s As cs (((w.alloc (.cells #[.int .i64 (Tr.id t), .int .i64 (Tr.kind t), .string (Tr.text t), .slice A (Tr.kids t).length c] 24)).alloc (.cells #[.int .i8 (Stp.op s), .int .i64 (Stp.id s), .int .i64 (Stp.par s), .int .i64 (Stp.place s), .string (Stp.text s), .int .i64 (Stp.sub s).id, .int .i64 (Stp.sub s).kind, .string (Stp.sub s).text, .slice As (Stp.sub s).kids.length cs] 27)).alloc (.cells #[.int .i64 0, .int .i64 0, .string ⟨#[]⟩, .slice none 0 0] 24)) :=
  ⟨heap_old (heap_old (heap_new _ _ rfl) _) _, heap_old (heap_new _ _ (by simp)) _, heap_new _ _ (by simp), (by with_reducible repeat (first | exact Chg.refl _ _ | apply Chg.alloc | apply Chg.drew | apply Chg.drewN | (refine Chg.setCell ?_ _ _ (by simp))))⟩
theorem FindR.any {r : Option Tr} {w : World} {e : Ending} {w' : World} (h : FindR r w e w') : ∃ (x : Tr) (A : Option Addr) (c : Nat), e = .returned (.tuple #[.agg #[.int .i64 (Tr.id x), .int .i64 (Tr.kind x), .string (Tr.text x), .slice A (Tr.kids x).length c], .bool r.isSome]) ∧ (∀ y, r = some y → x = y) ∧ TrC (fun b => b < w.heap.size) w' x [.int .i64 (Tr.id x), .int .i64 (Tr.kind x), .string (Tr.text x), .slice A (Tr.kids x).length c] ∧ Chg [] w w' := by
  unfold FindR at h
  cases r with
  | none => exact ⟨zeroT, none, 0, h.1, fun y hy => (by cases hy), zeroC _ _, h.2⟩
  | some x => obtain ⟨A, c, h1, h2, h3⟩ := h; exact ⟨x, A, c, h1, fun y hy => (by cases hy; rfl), h2, h3⟩
theorem subT_isSome {y : Int} {t : Tr} : (t.subT y).isSome = true ↔ y ∈ t.ids := by
  rcases path_cases y t with ⟨h1, h2⟩ | ⟨p, n, h1, _, h3, _⟩
  · rw [h2, ← Tr.path_iff, h1]; exact Iff.rfl
  · rw [h3, ← Tr.path_iff, h1]; simp
set_option maxHeartbeats 4000000 in
set_option maxRecDepth 100000 in
theorem ins09_any (t : Tr) (A : Option Addr) (c : Nat) (s : Stp) (As : Option Addr) (cs : Nat) (w : World) (hT : TrC (fun b => b < w.heap.size) w t [.int .i64 (Tr.id t), .int .i64 (Tr.kind t), .string (Tr.text t), .slice A (Tr.kids t).length c]) (hS : TrC (fun b => b < w.heap.size) w s.sub [.int .i64 (Tr.id s.sub), .int .i64 (Tr.kind s.sub), .string (Tr.text s.sub), .slice As (Tr.kids s.sub).length cs]) (hn : t.nodes ≤ 2000) (hns : s.sub.nodes ≤ 2000) :
    Calls Try.prog 72 #[.agg #[.int .i64 (Tr.id t), .int .i64 (Tr.kind t), .string (Tr.text t), .slice A (Tr.kids t).length c], .agg #[.int .i8 (Stp.op s), .int .i64 (Stp.id s), .int .i64 (Stp.par s), .int .i64 (Stp.place s), .string (Stp.text s), .int .i64 (Stp.sub s).id, .int .i64 (Stp.sub s).kind, .string (Stp.sub s).text, .slice As (Stp.sub s).kids.length cs]] w (ApplyC (insertT t s.par s.place s.sub) w) := by
  obtain ⟨W, hW⟩ : ∃ W, W = ((w.alloc (.cells #[.int .i64 (Tr.id t), .int .i64 (Tr.kind t), .string (Tr.text t), .slice A (Tr.kids t).length c] 24)).alloc (.cells #[.int .i8 (Stp.op s), .int .i64 (Stp.id s), .int .i64 (Stp.par s), .int .i64 (Stp.place s), .string (Stp.text s), .int .i64 (Stp.sub s).id, .int .i64 (Stp.sub s).kind, .string (Stp.sub s).text, .slice As (Stp.sub s).kids.length cs] 27)).alloc (.cells #[.int .i64 0, .int .i64 0, .string ⟨#[]⟩, .slice none 0 0] 24) := ⟨_, rfl⟩
  have hU : IvW w t A c s As cs W := by rw [hW]; exact IvW.new _ _ _ _ _ _ _
  have hfind : ∀ (W' : World) (id : Int), Chg [] w W' → Calls Try.prog 29 #[.agg #[.int .i64 (Tr.id t), .int .i64 (Tr.kind t), .string (Tr.text t), .slice A (Tr.kids t).length c], .int .i64 id] W' (FindR (t.subT id) W') := fun W' id hc => rfind_any t A c id W' ((hT.kept hc (by simp)).weak (fun b hb _ => Nat.lt_of_lt_of_le hb hc.size)) hn
  have hres := insertT_ref t s.par s.place s.sub
  obtain ⟨p0, p1, p2, p3⟩ := blk4 hU.b0
  obtain ⟨q0, q1, q2, q3, q4, q5, q6, q7, q8⟩ := cells9 hU.b1
  have HW := Lib.hid (And.intro hW (And.intro hU (And.intro hfind (And.intro hT (And.intro hS (And.intro hn (And.intro hns hres)))))))
  rw [hW] at p0 p1 p2 p3 q0 q1 q2 q3 q4 q5 q6 q7 q8
  clear hW hU hfind hT hS hn hns hres
  go_enter Try.func72, Try.ntmps72
  go_wp2_with fail
  rw [← HW.out.1]
  clear p0 p1 p2 p3 q0 q1 q2 q3 q4 q5 q6 q7 q8
  refine (HW.out.2.2.1 W s.par HW.out.2.1.chg).mono ?_
  rintro e X hF
  obtain ⟨n, An, cn, rfl, hxn, hTn, hX⟩ := hF.any
  clear hF
  obtain ⟨Y, hY⟩ : ∃ Y, Y = X.alloc (.cells #[.int .i64 (Tr.id n), .int .i64 (Tr.kind n), .string (Tr.text n), .slice An (Tr.kids n).length cn] 24) := ⟨_, rfl⟩
  have hXY : Chg [] X Y := by rw [hY]; exact (by with_reducible repeat (first | exact Chg.refl _ _ | apply Chg.alloc | apply Chg.drew | apply Chg.drewN | (refine Chg.setCell ?_ _ _ (by simp))))
  have hUY := HW.out.2.1.kept (hX.trans hXY)
  have b6 : Y.heap[X.heap.size]? = some (.cells #[.int .i64 (Tr.id n), .int .i64 (Tr.kind n), .string (Tr.text n), .slice An (Tr.kids n).length cn] 24 (0, 0)) := by rw [hY]; exact heap_new _ _ rfl
  have HY := Lib.hid (And.intro hY (And.intro hUY (And.intro b6 (hTn.kept hXY (by simp)))))
  obtain ⟨r0, r1, r2, r3⟩ := blk4 hUY.b2
  have f0 := blkF hUY.b2 0
  have f1 := blkF hUY.b2 1
  have f2 := blkF hUY.b2 2
  have f3 := blkF hUY.b2 3
  have hl2 := lt_of_block HW.out.2.1.b2
  cases hsub : t.subT s.par with
  | none =>
    have hres := HW.out.2.2.2.2.2.2.2
    rw [hsub] at hres
    simp only [] at hres
    have HR := Lib.hid hres
    rw [hY] at r0 r1 r2 r3 f0 f1 f2 f3
    clear hX hXY hUY b6 hTn hxn hsub hres hY
    go_wp2_with (skip; fail)
    rw [← HY.out.1]
    refine bodyPost_ret (v := .tuple #[.agg #[.int .i64 0, .int .i64 0, .string ⟨#[]⟩, .slice none 0 0], .int .i64 4]) (results_row_tmp rfl _ _ (w.heap.size + 1 + 1) _ _ _ _ _ rfl rfl (set4 (HY.out.2.1).b2) Try.underlying24 rfl szNode) rfl (by unfold ApplyC; rw [HR.out]; exact ⟨rfl, (HY.out.2.1).chg.andThen (chg4 Y (w.heap.size + 1 + 1) _ _ _ _) (by simp; omega)⟩)
  | some n' =>
    obtain rfl : n = n' := hxn n' hsub
    have hres := HW.out.2.2.2.2.2.2.2
    rw [hsub] at hres
    simp only [] at hres
    have HN := Lib.hid (And.intro hsub hres)
    obtain ⟨p0, p1, p2, p3⟩ := blk4 hUY.b0
    obtain ⟨q0, q1, q2, q3, q4, q5, q6, q7, q8⟩ := cells9 hUY.b1
    obtain ⟨n0, n1, n2, n3⟩ := blk4 b6
    clear hX hXY hUY b6 hTn hxn hsub hres
    by_cases hpl : 0 ≤ s.place ∧ s.place ≤ n.kids.length
    case neg =>
      have hres := HN.out.2
      rw [if_neg hpl] at hres
      have HR := Lib.hid hres
      rw [hY] at r0 r1 r2 r3 f0 f1 f2 f3 p0 p1 p2 p3 q0 q1 q2 q3 q4 q5 q6 q7 q8 n0 n1 n2 n3
      clear hres hY
      have hd : decide (s.place < 0) = true ∨ (decide (s.place < 0) = false ∧ decide ((n.kids.length : Int) < s.place) = true) := by
        by_cases h : s.place < 0
        · exact .inl (decide_eq_true h)
        · exact .inr ⟨decide_eq_false h, decide_eq_true (by omega)⟩
      clear hpl
      rcases hd with hd | ⟨hd, hd2⟩
      all_goals
        go_wp2_with (skip; fail)
        rw [← HY.out.1]
        refine bodyPost_ret (v := .tuple #[.agg #[.int .i64 0, .int .i64 0, .string ⟨#[]⟩, .slice none 0 0], .int .i64 2]) (results_row_tmp rfl _ _ (w.heap.size + 1 + 1) _ _ _ _ _ rfl rfl (set4 (HY.out.2.1).b2) Try.underlying24 rfl szNode) rfl (by unfold ApplyC; rw [HR.out]; exact ⟨rfl, (HY.out.2.1).chg.andThen (chg4 Y (w.heap.size + 1 + 1) _ _ _ _) (by simp; omega)⟩)
    case pos =>
      have hres := HN.out.2
      rw [if_pos hpl] at hres
      have hd : decide (s.place < 0) = false := decide_eq_false (by omega)
      have hd2 : decide ((n.kids.length : Int) < s.place) = false := decide_eq_false (by omega)
      have hwk := walkT_any w.heap.size 2000 (by omega) s.sub As cs Y (HW.out.2.2.2.2.1.kept HY.out.2.1.chg (by simp)) HY.out.2.1.chg.size
      have HP := Lib.hid (And.intro hpl (And.intro hres hwk))
      rw [hY] at r0 r1 r2 r3 f0 f1 f2 f3 p0 p1 p2 p3 q0 q1 q2 q3 q4 q5 q6 q7 q8 n0 n1 n2 n3
      clear hpl hres hwk hY
      go_wp2_with fail
      rw [← HY.out.1]
      clear r0 r1 r2 r3 f0 f1 f2 f3 p0 p1 p2 p3 q0 q1 q2 q3 q4 q5 q6 q7 q8 n0 n1 n2 n3
      refine HP.out.2.2.mono ?_
      rintro e V ⟨vl, rfl, hR, hV⟩
      obtain ⟨Al, cl, rfl⟩ := hR.slice
      obtain ⟨l, hl⟩ : ∃ l, l = (s.sub.walk 1).take 2000 := ⟨_, rfl⟩
      have hids : l.map (·.1.id) = s.sub.ids := by rw [hl, List.take_of_length_le (by rw [Tr.walk_length]; exact HW.out.2.2.2.2.2.2.1), Tr.walk_ids]
      have hlen : l.length ≤ 2000 := by rw [hl, List.length_take]; omega
      rw [← hl] at hR ⊢
      have HV := Lib.hid (And.intro hR (And.intro (HY.out.2.1.kept hV) (And.intro hids (And.intro (hV.at HY.out.2.2.1 (by simp)) (HY.out.2.2.2.kept hV (by simp))))))
      clear hR hl hids hV
      go_wp2_with (skip; fail)
      go_loop [9] (fun i => ∃ k : Nat, k ≤ l.length ∧ i = .int .i64 k ∧ Hid (∀ (j : Nat) (hj : j < k) (hl : j < l.length), InRange (l[j]).1.id)) (fun i => l.length - (intOf i).toNat)
      case atStart => exact ⟨0, Nat.zero_le _, rfl, Lib.hid fun j hj => by omega⟩
      case round =>
        obtain ⟨k, hk, rfl, H⟩ := hrel
        by_cases hlt : k < l.length
        case pos =>
          obtain ⟨g, c2, A2, cA, e, _, hT2, hr⟩ := HV.out.1.at hlt
          injection e with e1 e2 e3
          subst e1 e3
          obtain ⟨y, hy⟩ : ∃ y, y = (l[k]).1.id := ⟨_, rfl⟩
          have c0 : V.cell? ⟨g, k * 5, none⟩ = some (.int .i64 y) := by rw [hy]; exact hr 0 _ rfl
          have HYy := Lib.hid hy
          clear hT2 hr hy
          by_cases hir : InRange y
          · have hi1 : decide (y < 1) = false := decide_eq_false (by unfold InRange at hir; omega)
            have hi2 : decide (1125899906842624 < y) = false := decide_eq_false (by unfold InRange at hir; omega)
            have hall : ∀ (j : Nat) (hj : j < k + 1) (hl : j < l.length), InRange (l[j]).1.id := fun j hj hl => by
              rcases Nat.lt_or_ge j k with h | h
              · exact H.out j h hl
              · obtain rfl : j = k := by omega
                rw [← HYy.out]; exact hir
            have HA := Lib.hid hall
            clear hall hir
            go_wp2_with (skip; fail)
            go_round
            case rel => exact ⟨k + 1, by omega, by go_num, HA⟩
            case measure => simp [intOf]; omega
          · have hno : ¬ ∀ i ∈ s.sub.ids, InRange i := fun h => hir (h y (by rw [← HV.out.2.2.1, HYy.out]; exact List.mem_map_of_mem (List.getElem_mem hlt)))
            have hres := HP.out.2.1
            rw [if_neg hno] at hres
            have HR := Lib.hid hres
            have hd3 : decide (y < 1) = true ∨ (decide (y < 1) = false ∧ decide (1125899906842624 < y) = true) := by
              by_cases h : y < 1
              · exact .inl (decide_eq_true h)
              · exact .inr ⟨decide_eq_false h, decide_eq_true (by unfold InRange at hir; omega)⟩
            obtain ⟨r0, r1, r2, r3⟩ := blk4 HV.out.2.1.b2
            have f0 := blkF HV.out.2.1.b2 0
            have f1 := blkF HV.out.2.1.b2 1
            have f2 := blkF HV.out.2.1.b2 2
            have f3 := blkF HV.out.2.1.b2 3
            clear hno hres hir
            rcases hd3 with hd3 | ⟨hd3, hd4⟩
            all_goals
              go_wp2_with (skip; fail)
              refine bodyPost_ret (v := .tuple #[.agg #[.int .i64 0, .int .i64 0, .string ⟨#[]⟩, .slice none 0 0], .int .i64 2]) (results_row_tmp rfl _ _ (w.heap.size + 1 + 1) _ _ _ _ _ rfl rfl (set4 (HV.out.2.1).b2) Try.underlying24 rfl szNode) rfl (by unfold ApplyC; rw [HR.out]; exact ⟨rfl, (HV.out.2.1).chg.andThen (chg4 V (w.heap.size + 1 + 1) _ _ _ _) (by simp; omega)⟩)
        case neg =>
          obtain rfl : k = l.length := by omega
          have hin : ∀ i ∈ s.sub.ids, InRange i := fun i hi => by
            rw [← HV.out.2.2.1] at hi
            obtain ⟨x, hx, rfl⟩ := List.mem_map.1 hi
            obtain ⟨j, hj, rfl⟩ := List.getElem_of_mem hx
            exact H.out j hj hj
          have hres := HP.out.2.1
          rw [if_pos hin] at hres
          have HI := Lib.hid hres
          clear hin hres
          go_wp2_with (skip; fail)
          clear hd hd2 hk hlt
          go_loopw [10] (fun i wr => ∃ k : Nat, k ≤ l.length ∧ i = .int .i64 k ∧ Hid (Chg [] V wr ∧ FreshIds t.ids ((l.map (·.1.id)).take k))) (fun i _ => l.length - (intOf i).toNat)
          case atStart => exact ⟨0, Nat.zero_le _, rfl, Lib.hid ⟨Chg.refl _ _, by simp [FreshIds]⟩⟩
          case round =>
            obtain ⟨k, hk, rfl, K⟩ := hrel
            obtain ⟨U, hU⟩ : ∃ U, U = wr := ⟨_, rfl⟩
            subst hU
            by_cases hlt : k < l.length
            case neg =>
              obtain rfl : k = l.length := by omega
              have hfr : FreshIds t.ids s.sub.ids := by have h := K.out.2; rw [List.take_of_length_le (by simp), HV.out.2.2.1] at h; exact h
              have hres := HI.out
              rw [if_pos hfr] at hres
              have HR := Lib.hid hres
              have hpl := HP.out.1
              obtain ⟨pn, hpn⟩ : ∃ pn : Nat, (pn : Int) = s.place := ⟨s.place.toNat, by omega⟩
              have hpt : s.place.toNat = pn := by omega
              have hpk : pn ≤ n.kids.length := by omega
              rw [hpt] at hres
              have HR := Lib.hid hres
              obtain ⟨A', c', hcs', hlc', hcm', htx', hKn⟩ := HV.out.2.2.2.2.opens
              simp only [List.cons.injEq, Value.slice.injEq, true_and, and_true] at hcs'
              obtain ⟨rfl, rfl⟩ := hcs'
              have hnn : n.nodes ≤ 2000 := by obtain ⟨p, _, hat, _⟩ := subT_path HN.out.1; have := Tr.at_nodes p t n hat; have := HW.out.2.2.2.2.2.1; omega
              have hkl : n.kids.length ≤ 100000 := by have := nodesL_len n.kids; rw [Tr.nodes_eq] at hnn; omega
              have hkn : nodesL (insAt n.kids pn s.sub) ≤ 100000 := by rw [insAt_nodes]; have := HW.out.2.2.2.2.2.2.1; rw [Tr.nodes_eq] at hnn; omega
              have hVc := HV.out.2.1.chg
              have HE := Lib.hid (And.intro hpn (And.intro hpk (And.intro hlc' (And.intro hcm' (And.intro htx' (And.intro hKn (And.intro hkl hkn)))))))
              clear hfr hres hpl hpn hpt hpk hlc' hcm' htx' hKn hnn hkl hkn hVc
              go_wp2_with (skip; fail)
              refine wp_region_M (fun W => IvW w t A c s As cs W ∧ W.heap[X.heap.size]? = some (.cells #[.int .i64 (Tr.id n), .int .i64 (Tr.kind n), .string (Tr.text n), .slice An (Tr.kids n).length cn] 24 (0, 0))) (fun k => [9, 12, 13].contains k) (fun k => [13].contains k) (by kernel_rfl) ?_
              obtain ⟨Q, hQ⟩ : ∃ Q, Q = U.drew := ⟨_, rfl⟩
              rw [← hQ]
              have hUQ : Chg [] U Q := by rw [hQ]; exact (Chg.refl _ _).drew
              clear hQ
              have hcQ := K.out.1.trans hUQ
              have hIQ := HV.out.2.1.kept hcQ
              have h6Q := hcQ.at HV.out.2.2.2.1 (by simp)
              have hall : ∀ Z : World, IvW w t A c s As cs Z ∧ Z.heap[X.heap.size]? = some (.cells #[.int .i64 (Tr.id n), .int .i64 (Tr.kind n), .string (Tr.text n), .slice An (Tr.kids n).length cn] 24 (0, 0)) → Z.rangeAt w.heap.size 0 [.int .i64 (Tr.id t), .int .i64 (Tr.kind t), .string (Tr.text t), .slice A (Tr.kids t).length c] ∧ Z.cell? ⟨w.heap.size + 1, 2, none⟩ = some (.int .i64 s.par) ∧ Z.cell? ⟨X.heap.size, 2, none⟩ = some (.string n.text) := fun Z h => ⟨range_all h.1.b0, (cells9 h.1.b1).2.2.1, (blk4 h.2).2.2.1⟩
              have hS : IvW w t A c s As cs Q ∧ Q.heap[X.heap.size]? = some (.cells #[.int .i64 (Tr.id n), .int .i64 (Tr.kind n), .string (Tr.text n), .slice An (Tr.kids n).length cn] 24 (0, 0)) := ⟨hIQ, h6Q⟩
              have q3 := (cells9 hIQ.b1).2.2.2.1
              rw [← HE.out.1] at q3
              have q5 : Q.rangeAt (w.heap.size + 1) 5 [.int .i64 (Tr.id s.sub), .int .i64 (Tr.kind s.sub), .string (Tr.text s.sub), .slice As (Tr.kids s.sub).length cs] := range_of_block (cs := (#[.int .i8 (Stp.op s), .int .i64 (Stp.id s), .int .i64 (Stp.par s), .int .i64 (Stp.place s), .string (Stp.text s), .int .i64 (Stp.sub s).id, .int .i64 (Stp.sub s).kind, .string (Stp.sub s).text, .slice As (Stp.sub s).kids.length cs] : Array Value).toList) hIQ.b1 5 4
              have n3 := (blk4 h6Q).2.2.2
              have HQ := Lib.hid (And.intro hUQ (And.intro hIQ (And.intro h6Q (And.intro hall q5))))
              clear hUQ hcQ hIQ h6Q hall q5
              ((try dsimp only); (try simp only [Act.put, List.setIfInBounds_toArray, List.set_cons_zero, List.set_cons_succ]))
              refine M_semi (i := 0) rfl (by kernel_rfl) (by kernel_rfl) (by kernel_rfl) (by kernel_rfl) (fun _ _ _ h => h) (by rfl) hS (fun W hS => exec_load_mid 24 (.tmp 2) rfl w.heap.size 0 rfl _ _ (HQ.out.2.2.2.1 _ hS).1 Try.underlying24 rfl szNode) ?_; ((try dsimp only); (try simp only [Act.put, List.setIfInBounds_toArray, List.set_cons_zero, List.set_cons_succ]))
              refine M_pure (i := 1) (v := ?_) rfl (by kernel_rfl) (by kernel_rfl) (by kernel_rfl) (fun _ _ _ h => h) (by rfl) ?hy ?_; (case hy => (intro w; go_simp; with_reducible rfl)); ((try dsimp only); (try simp only [Act.put, List.setIfInBounds_toArray, List.set_cons_zero, List.set_cons_succ]))
              refine M_semi (i := 2) (v := ?_) rfl (by kernel_rfl) (by kernel_rfl) (by kernel_rfl) (by kernel_rfl) (fun _ _ _ h => h) (by rfl) hS ?hy ?_
              case hy => (intro w' hS; have h2 := (HQ.out.2.2.2.1 w' hS).2.1; clear hS; go_simp; with_reducible rfl)
              ((try dsimp only); (try simp only [Act.put, List.setIfInBounds_toArray, List.set_cons_zero, List.set_cons_succ]))
              refine M_pure (i := 3) (v := ?_) rfl (by kernel_rfl) (by kernel_rfl) (by kernel_rfl) (fun _ _ _ h => h) (by rfl) ?hy ?_; (case hy => (intro w; go_simp; with_reducible rfl)); ((try dsimp only); (try simp only [Act.put, List.setIfInBounds_toArray, List.set_cons_zero, List.set_cons_succ]))
              refine M_take (i := 4) (v := ?_) rfl (by kernel_rfl) (by kernel_rfl) (by kernel_rfl) (by kernel_rfl) (fun _ _ _ h => h) (by rfl) ?hy ?_; (case hy => (go_simp; with_reducible rfl)); ((try dsimp only); (try simp only [Act.put, List.setIfInBounds_toArray, List.set_cons_zero, List.set_cons_succ]))
              refine M_pure (i := 5) (v := ?_) rfl (by kernel_rfl) (by kernel_rfl) (by kernel_rfl) (fun _ _ _ h => h) (by rfl) ?hy ?_; (case hy => (intro w; go_simp; with_reducible rfl)); ((try dsimp only); (try simp only [Act.put, List.setIfInBounds_toArray, List.set_cons_zero, List.set_cons_succ]))
              refine M_take (i := 6) (v := ?_) rfl (by kernel_rfl) (by kernel_rfl) (by kernel_rfl) (by kernel_rfl) (fun _ _ _ h => h) (by rfl) ?hy ?_; (case hy => (go_simp; with_reducible rfl)); ((try dsimp only); (try simp only [Act.put, List.setIfInBounds_toArray, List.set_cons_zero, List.set_cons_succ]))
              refine M_pure (i := 7) (v := ?_) rfl (by kernel_rfl) (by kernel_rfl) (by kernel_rfl) (fun _ _ _ h => h) (by rfl) ?hy ?_; (case hy => (intro w; go_simp; with_reducible rfl)); ((try dsimp only); (try simp only [Act.put, List.setIfInBounds_toArray, List.set_cons_zero, List.set_cons_succ]))
              refine M_take (i := 8) rfl (by kernel_rfl) (by kernel_rfl) (by kernel_rfl) (by kernel_rfl) (fun _ _ _ h => h) (by rfl) (exec_load_mid 24 (.tmp 109) rfl (w.heap.size + 1) 5 rfl _ _ HQ.out.2.2.2.2 Try.underlying24 rfl szNode) ?_; ((try dsimp only); (try simp only [Act.put, List.setIfInBounds_toArray, List.set_cons_zero, List.set_cons_succ]))
              refine M_pure (i := 10) (v := ?_) rfl (by kernel_rfl) (by kernel_rfl) (by kernel_rfl) (fun _ _ _ h => h) (by rfl) ?hy ?_; (case hy => (intro w; go_simp; with_reducible rfl)); ((try dsimp only); (try simp only [Act.put, List.setIfInBounds_toArray, List.set_cons_zero, List.set_cons_succ]))
              refine M_semi (i := 11) (v := ?_) rfl (by kernel_rfl) (by kernel_rfl) (by kernel_rfl) (by kernel_rfl) (fun _ _ _ h => h) (by rfl) hS ?hy ?_
              case hy => (intro w' hS; have h2 := (HQ.out.2.2.2.1 w' hS).2.2; clear hS; go_simp; with_reducible rfl)
              ((try dsimp only); (try simp only [Act.put, List.setIfInBounds_toArray, List.set_cons_zero, List.set_cons_succ]))
              clear q3 n3 hS
              refine M_eff (i := 9) rfl (by kernel_rfl) (by rfl) ?_
              go_wp2_with fail
              refine (inserted_any n.kids An cn pn s.sub As cs Q ((HE.out.2.2.2.2.2.1.kept (K.out.1.trans HQ.out.1) (by simp)).weak (fun b hb _ => by have := HY.out.2.1.chg.size; have := HQ.out.2.1.chg.size; have := HW.out.2.1.chg.size; omega)) ⟨HE.out.2.2.1, HE.out.2.2.2.1⟩ HE.out.2.1 ((HW.out.2.2.2.2.1.kept HQ.out.2.1.chg (by simp)).weak (fun b hb _ => Nat.lt_of_lt_of_le hb HQ.out.2.1.chg.size)) HE.out.2.2.2.2.2.2.1).mono ?_
              obtain ⟨ks, hks⟩ : ∃ ks, ks = insAt n.kids pn s.sub := ⟨_, rfl⟩
              rw [← hks]
              have HKs := Lib.hid hks
              rintro e X9 ⟨A9, c9, rfl, hrow, hX9⟩
              obtain ⟨_, hcl, hcm, hKr⟩ := hrow.toC
              have hI9 := HQ.out.2.1.kept hX9
              have hS9 : IvW w t A c s As cs X9 ∧ X9.heap[X.heap.size]? = some (.cells #[.int .i64 (Tr.id n), .int .i64 (Tr.kind n), .string (Tr.text n), .slice An (Tr.kids n).length cn] 24 (0, 0)) := ⟨hI9, hX9.at HQ.out.2.2.1 (by simp)⟩
              have hput := put09_any t A c s.par ks A9 c9 n.text X9 ((HW.out.2.2.2.1.kept hI9.chg (by simp)).weak (fun b hb _ => Nat.lt_of_lt_of_le hb hI9.chg.size)) hKr (by have := HW.out.2.2.2.2.2.1; omega) (by rw [hks]; exact HE.out.2.2.2.2.2.2.2) HE.out.2.2.2.2.1 hcl hcm
              have H9 := Lib.hid (And.intro hI9 (And.intro hput hS9.2))
              clear hks hrow hX9 hcl hcm hKr hI9 hput
              go_wp2_with fail
              refine ⟨hS9, ?_⟩
              clear hS9
              ((try dsimp only); (try simp only [Act.put, List.setIfInBounds_toArray, List.set_cons_zero, List.set_cons_succ]))
              refine M_eff (i := 12) rfl (by kernel_rfl) (by rfl) ?_
              go_wp2_with fail
              refine H9.out.2.1.mono ?_
              obtain ⟨r, hr⟩ : ∃ r, r = (makesT s.par ks n.text t false).1 := ⟨_, rfl⟩
              rw [← hr]
              have HRr := Lib.hid hr
              clear hr
              rintro e Z ⟨Ar, cr, rfl, hVr, hZ⟩
              have hIZ := H9.out.1.kept hZ
              have hSZ : IvW w t A c s As cs Z ∧ Z.heap[X.heap.size]? = some (.cells #[.int .i64 (Tr.id n), .int .i64 (Tr.kind n), .string (Tr.text n), .slice An (Tr.kids n).length cn] 24 (0, 0)) := ⟨hIZ, hZ.at H9.out.2.2 (by simp)⟩
              have HZ := Lib.hid (And.intro hVr (And.intro hIZ hZ.size))
              obtain ⟨r0, r1, r2, r3⟩ := blk4 hIZ.b2
              have f0 := blkF hIZ.b2 0
              have f1 := blkF hIZ.b2 1
              have f2 := blkF hIZ.b2 2
              have f3 := blkF hIZ.b2 3
              clear hVr hZ hIZ
              go_wp2_with fail
              refine ⟨hSZ, ?_⟩
              clear hSZ
              refine M_brk (i := 13) rfl (by kernel_rfl) (by rfl) (by rfl) ?_
              go_wp2_with fail
              ((try dsimp only [EffQ]); (try simp only [Act.put, List.setIfInBounds_toArray, List.set_cons_zero, List.set_cons_succ]))
              refine M_pure (i := 14) (v := ?_) rfl (by kernel_rfl) (by kernel_rfl) (by kernel_rfl) (fun _ _ _ h => h) (by rfl) ?hy ?_; (case hy => (intro w; go_simp; with_reducible rfl)); ((try dsimp only); (try simp only [Act.put, List.setIfInBounds_toArray, List.set_cons_zero, List.set_cons_succ]))
              refine M_done (by kernel_rfl) ?_ _
              go_wp2_with (skip; fail)
              have hc4 := chg4 Z (w.heap.size + 1 + 1) (.int .i64 r.id) (.int .i64 r.kind) (.string r.text) (.slice Ar r.kids.length cr)
              have hs4 := hc4.size
              have h9 := H9.out.1.chg.size
              have h92 := lt_of_block H9.out.1.b2
              refine bodyPost_ret (v := .tuple #[.agg #[.int .i64 (Tr.id r), .int .i64 (Tr.kind r), .string (Tr.text r), .slice Ar (Tr.kids r).length cr], .int .i64 0]) (results_row_tmp rfl _ _ (w.heap.size + 1 + 1) _ _ _ _ _ rfl rfl (set4 HZ.out.2.1.b2) Try.underlying24 rfl szNode) rfl ?_
              unfold ApplyC
              rw [HR.out, ← HKs.out, ← HRr.out]
              exact ⟨Ar, cr, rfl, (HZ.out.1.toC.kept hc4 (fun g hg => by simp; omega)).weak (fun g hg _ => ⟨by omega, by omega⟩), HZ.out.2.1.chg.andThen hc4 (by simp; omega)⟩
            case pos =>
              have hRU := HV.out.1.kept K.out.1 (by simp) (by simp)
              obtain ⟨g, c2, A2, cA, e, _, hT2, hr⟩ := hRU.at hlt
              injection e with e1 e2 e3
              subst e1 e3
              obtain ⟨y, hy⟩ : ∃ y, y = (l[k]).1.id := ⟨_, rfl⟩
              have c0 : U.cell? ⟨g, k * 5, none⟩ = some (.int .i64 y) := by rw [hy]; exact hr 0 _ rfl
              have HYy := Lib.hid hy
              have hIU := HV.out.2.1.kept K.out.1
              have HU := Lib.hid (And.intro hRU (And.intro hIU c0))
              clear hT2 hr hy hRU hIU c0
              go_wp2_with (skip; fail)
              refine wp_region_M (fun W => W.rangeAt w.heap.size 0 [.int .i64 (Tr.id t), .int .i64 (Tr.kind t), .string (Tr.text t), .slice A (Tr.kids t).length c] ∧ W.cell? ⟨g, k * 5, none⟩ = some (.int .i64 y)) (fun k => [7, 11, 12].contains k) (fun k => [12].contains k) (by kernel_rfl) ?_
              obtain ⟨Q, hQ⟩ : ∃ Q, Q = U.drew := ⟨_, rfl⟩
              rw [← hQ]
              have hUQ : Chg [] U Q := by rw [hQ]; exact (Chg.refl _ _).drew
              clear hQ
              have hall : ∀ W', Chg [] U W' → W'.rangeAt w.heap.size 0 [.int .i64 (Tr.id t), .int .i64 (Tr.kind t), .string (Tr.text t), .slice A (Tr.kids t).length c] ∧ W'.cell? ⟨g, k * 5, none⟩ = some (.int .i64 y) := fun W' hc => ⟨range_all (hc.at HU.out.2.1.b0 (by simp)), hc.cell HU.out.2.2 (by simp)⟩
              have hS := hall Q hUQ
              have HQ := Lib.hid (And.intro hall hUQ)
              have wi0 : (0 : Int) ≤ (k : Int) := by omega
              have wi1 : (k : Int) < (l.length : Int) := by omega
              clear hall hUQ
              ((try dsimp only); (try simp only [Act.put, List.setIfInBounds_toArray, List.set_cons_zero, List.set_cons_succ]))
              refine M_semi (i := 0) rfl (by kernel_rfl) (by kernel_rfl) (by kernel_rfl) (by kernel_rfl) (fun _ _ _ h => h) (by rfl) hS (fun W hS => exec_load_mid 24 (.tmp 2) rfl w.heap.size 0 rfl _ _ hS.1 Try.underlying24 rfl szNode) ?_; ((try dsimp only); (try simp only [Act.put, List.setIfInBounds_toArray, List.set_cons_zero, List.set_cons_succ]))
              refine M_pure (i := 1) (v := ?_) rfl (by kernel_rfl) (by kernel_rfl) (by kernel_rfl) (fun _ _ _ h => h) (by rfl) ?hy ?_; (case hy => (intro w; go_simp; with_reducible rfl)); ((try dsimp only); (try simp only [Act.put, List.setIfInBounds_toArray, List.set_cons_zero, List.set_cons_succ]))
              refine M_pure (i := 2) (v := ?_) rfl (by kernel_rfl) (by kernel_rfl) (by kernel_rfl) (fun _ _ _ h => h) (by rfl) ?hy ?_; (case hy => (intro w; go_simp; with_reducible rfl)); ((try dsimp only); (try simp only [Act.put, List.setIfInBounds_toArray, List.set_cons_zero, List.set_cons_succ]))
              refine M_pure (i := 3) (v := ?_) rfl (by kernel_rfl) (by kernel_rfl) (by kernel_rfl) (fun _ _ _ h => h) (by rfl) ?hy ?_; (case hy => (intro w; go_simp; with_reducible rfl)); ((try dsimp only); (try simp only [Act.put, List.setIfInBounds_toArray, List.set_cons_zero, List.set_cons_succ]))
              refine M_pure (i := 4) (v := ?_) rfl (by kernel_rfl) (by kernel_rfl) (by kernel_rfl) (fun _ _ _ h => h) (by rfl) ?hy ?_; (case hy => (intro w; go_simp; with_reducible rfl)); ((try dsimp only); (try simp only [Act.put, List.setIfInBounds_toArray, List.set_cons_zero, List.set_cons_succ]))
              refine M_pure (i := 5) (v := ?_) rfl (by kernel_rfl) (by kernel_rfl) (by kernel_rfl) (fun _ _ _ h => h) (by rfl) ?hy ?_; (case hy => (intro w; go_simp; with_reducible rfl)); ((try dsimp only); (try simp only [Act.put, List.setIfInBounds_toArray, List.set_cons_zero, List.set_cons_succ]))
              refine M_semi (i := 6) (v := ?_) rfl (by kernel_rfl) (by kernel_rfl) (by kernel_rfl) (by kernel_rfl) (fun _ _ _ h => h) (by rfl) hS ?hy ?_
              case hy => (intro w hS; have h2 := hS.2; go_simp; with_reducible rfl)
              ((try dsimp only); (try simp only [Act.put, List.setIfInBounds_toArray, List.set_cons_zero, List.set_cons_succ]))
              refine M_two (i := 7) (j := 11) rfl rfl (by kernel_rfl) (by rfl) (by rfl) ?_ ?_
              case' refine_1 =>
                go_wp2_with fail
                refine (HW.out.2.2.1 Q y (HU.out.2.1.chg.trans HQ.out.2)).mono ?_
                rintro e X5 hF
                obtain ⟨x5, A5, c5, rfl, _, _, hX5⟩ := hF.any
                have HX5 := Lib.hid (HQ.out.2.trans hX5)
                clear hF hX5 hS
                go_wp2_with fail
                refine ⟨HQ.out.1 X5 HX5.out, ?_⟩
                refine M_pure (i := 8) (v := ?_) rfl (by kernel_rfl) (by kernel_rfl) (by kernel_rfl) (fun _ _ _ h => h) (by rfl) ?hy ?_; (case hy => (intro w; go_simp; with_reducible rfl)); ((try dsimp only); (try simp only [Act.put, List.setIfInBounds_toArray, List.set_cons_zero, List.set_cons_succ]))
                refine M_pure (i := 9) (v := ?_) rfl (by kernel_rfl) (by kernel_rfl) (by kernel_rfl) (fun _ _ _ h => h) (by rfl) ?hy ?_; (case hy => (intro w; go_simp; with_reducible rfl)); ((try dsimp only); (try simp only [Act.put, List.setIfInBounds_toArray, List.set_cons_zero, List.set_cons_succ]))
                refine M_pure (i := 10) (v := ?_) rfl (by kernel_rfl) (by kernel_rfl) (by kernel_rfl) (fun _ _ _ h => h) (by rfl) ?hy ?_; (case hy => (intro w; go_simp; with_reducible rfl)); ((try dsimp only); (try simp only [Act.put, List.setIfInBounds_toArray, List.set_cons_zero, List.set_cons_succ]))
                refine M_eff (i := 11) rfl (by kernel_rfl) (by rfl) ?_
                go_wp2_with fail
                refine ⟨HQ.out.1 _ (HX5.out.alloc _), ?_⟩
                refine M_brk (i := 12) rfl (by kernel_rfl) (by rfl) (by rfl) ?_
                go_wp2_with fail
                ((try dsimp only [EffQ]); (try simp only [Act.put, List.setIfInBounds_toArray, List.set_cons_zero, List.set_cons_succ]))
                refine M_pure (i := 13) (v := ?_) rfl (by kernel_rfl) (by kernel_rfl) (by kernel_rfl) (fun _ _ _ h => h) (by rfl) ?hy ?_; (case hy => (intro w; go_simp; with_reducible rfl)); ((try dsimp only); (try simp only [Act.put, List.setIfInBounds_toArray, List.set_cons_zero, List.set_cons_succ]))
                refine M_done (by kernel_rfl) ?_ _
                obtain ⟨Z, hZ⟩ : ∃ Z, Z = X5.alloc (.cells #[.int .i64 (Tr.id x5), .int .i64 (Tr.kind x5), .string (Tr.text x5), .slice A5 (Tr.kids x5).length c5] 24) := ⟨_, rfl⟩
                rw [← hZ]
                have HZ := Lib.hid (show Chg [] U Z by rw [hZ]; exact HX5.out.alloc _)
                clear hZ
              case' refine_2 =>
                go_wp2_with fail
                refine ⟨HQ.out.1 _ (HQ.out.2.alloc _), ?_⟩
                clear hS
                obtain ⟨Q1, hQ1⟩ : ∃ Q1, Q1 = Q.alloc (.cells #[.int .i64 0, .int .i64 0, .string ⟨#[]⟩, .slice none 0 0] 24) := ⟨_, rfl⟩
                rw [← hQ1]
                have hUQ1 : Chg [] U Q1 := by rw [hQ1]; exact HQ.out.2.alloc _
                have hb11 : Q1.heap[Q.heap.size]? = some (.cells #[.int .i64 0, .int .i64 0, .string ⟨#[]⟩, .slice none 0 0] 24 (0, 0)) := by rw [hQ1]; exact heap_new _ _ rfl
                have HQ1 := Lib.hid (And.intro hUQ1 hb11)
                clear hQ1 hUQ1 hb11
                refine M_eff (i := 7) rfl (by kernel_rfl) (by rfl) ?_
                go_wp2_with fail
                refine (HW.out.2.2.1 Q1 y (HU.out.2.1.chg.trans HQ1.out.1)).mono ?_
                rintro e X5 hF
                obtain ⟨x5, A5, c5, rfl, _, _, hX5⟩ := hF.any
                have hb11 := hX5.at HQ1.out.2 (by simp)
                have HX5 := Lib.hid (And.intro (HQ1.out.1.trans hX5) hb11)
                obtain ⟨r0, r1, r2, r3⟩ := blk4 hb11
                have f0 := blkF hb11 0
                have f1 := blkF hb11 1
                have f2 := blkF hb11 2
                have f3 := blkF hb11 3
                clear hF hX5 hb11
                go_wp2_with fail
                refine ⟨HQ.out.1 X5 HX5.out.1, ?_⟩
                refine M_pure (i := 8) (v := ?_) rfl (by kernel_rfl) (by kernel_rfl) (by kernel_rfl) (fun _ _ _ h => h) (by rfl) ?hy ?_; (case hy => (intro w; go_simp; with_reducible rfl)); ((try dsimp only); (try simp only [Act.put, List.setIfInBounds_toArray, List.set_cons_zero, List.set_cons_succ]))
                refine M_pure (i := 9) (v := ?_) rfl (by kernel_rfl) (by kernel_rfl) (by kernel_rfl) (fun _ _ _ h => h) (by rfl) ?hy ?_; (case hy => (intro w; go_simp; with_reducible rfl)); ((try dsimp only); (try simp only [Act.put, List.setIfInBounds_toArray, List.set_cons_zero, List.set_cons_succ]))
                refine M_pure (i := 10) (v := ?_) rfl (by kernel_rfl) (by kernel_rfl) (by kernel_rfl) (fun _ _ _ h => h) (by rfl) ?hy ?_; (case hy => (intro w; go_simp; with_reducible rfl)); ((try dsimp only); (try simp only [Act.put, List.setIfInBounds_toArray, List.set_cons_zero, List.set_cons_succ]))
                refine M_brk (i := 12) rfl (by kernel_rfl) (by rfl) (by rfl) ?_
                go_wp2_with fail
                ((try dsimp only [EffQ]); (try simp only [Act.put, List.setIfInBounds_toArray, List.set_cons_zero, List.set_cons_succ]))
                refine M_pure (i := 13) (v := ?_) rfl (by kernel_rfl) (by kernel_rfl) (by kernel_rfl) (fun _ _ _ h => h) (by rfl) ?hy ?_; (case hy => (intro w; go_simp; with_reducible rfl)); ((try dsimp only); (try simp only [Act.put, List.setIfInBounds_toArray, List.set_cons_zero, List.set_cons_succ]))
                refine M_done (by kernel_rfl) ?_ _
                clear r0 r1 r2 r3 f0 f1 f2 f3
                obtain ⟨Z, hZ⟩ : ∃ Z, Z = (((X5.setCell ⟨Q.heap.size, 0, none⟩ (.int .i64 x5.id)).setCell ⟨Q.heap.size, 1, none⟩ (.int .i64 x5.kind)).setCell ⟨Q.heap.size, 2, none⟩ (.string x5.text)).setCell ⟨Q.heap.size, 3, none⟩ (.slice A5 x5.kids.length c5) := ⟨_, rfl⟩
                rw [← hZ]
                have HZ := Lib.hid (show Chg [] U Z by rw [hZ]; exact HX5.out.1.andThen (chg4 _ _ _ _ _ _) (by have := HQ.out.2.size; simp; omega))
                clear hZ
              all_goals
                go_wp2_with (skip; fail)
                clear wi0
                go_loopw [12, 13] (fun bv jv wr => ∃ (j : Nat) (b : Bool), j ≤ k ∧ jv = .int .i64 j ∧ bv = .bool b ∧ Hid (Chg [] U wr ∧ (b = true ↔ y ∈ t.ids ∨ y ∈ (l.map (·.1.id)).take j))) (fun _ jv _ => k - (intOf jv).toNat)
                case atStart => exact ⟨0, _, Nat.zero_le _, rfl, rfl, Lib.hid ⟨HZ.out, by rw [subT_isSome]; simp⟩⟩
                case round =>
                  obtain ⟨j, b, hj, rfl, rfl, J⟩ := hrel
                  obtain ⟨M, hM⟩ : ∃ M, M = wr := ⟨_, rfl⟩
                  subst hM
                  by_cases hjk : j < k
                  case pos =>
                    have hjl : j < l.length := by omega
                    have hRM := HU.out.1.kept J.out.1 (by simp) (by simp)
                    obtain ⟨g2, c3, A3, cA3, e, _, _, hr⟩ := hRM.at hjl
                    injection e with e1 e2 e3
                    injection e1 with e1
                    injection e1 with e1 _ _
                    subst e1 e3
                    obtain ⟨z, hz⟩ : ∃ z, z = (l[j]).1.id := ⟨_, rfl⟩
                    have hM0 : M.cell? ⟨g, j * 5, none⟩ = some (.int .i64 z) := by rw [hz]; exact hr 0 _ rfl
                    have hM1 : M.cell? ⟨g, k * 5, none⟩ = some (.int .i64 y) := J.out.1.cell HU.out.2.2 (by simp)
                    have htk : (l.map (·.1.id)).take (j + 1) = (l.map (·.1.id)).take j ++ [z] := by
                      rw [List.take_succ_eq_append_getElem (by simpa using hjl), hz]; simp
                    have HM := Lib.hid (And.intro hM0 (And.intro hM1 htk))
                    clear hRM hr hz hM0 hM1 htk
                    go_wp2_with (skip; fail)
                    refine wp_region_M (fun _ => True) (fun k => [].contains k) (fun k => [].contains k) (by kernel_rfl) ?_
                    obtain ⟨N, hN⟩ : ∃ N, N = M.drew := ⟨_, rfl⟩
                    rw [← hN]
                    have hMN : Chg [] M N := by rw [hN]; exact (Chg.refl _ _).drew
                    clear hN
                    have m0 := hMN.cell HM.out.1 (by simp)
                    have m1 := hMN.cell HM.out.2.1 (by simp)
                    have wj0 : (0 : Int) ≤ (j : Int) := by omega
                    have wj1 : (j : Int) < (l.length : Int) := by omega
                    have wk0 : (0 : Int) ≤ (k : Int) := by omega
                    have HN2 := Lib.hid (J.out.1.trans hMN)
                    clear hMN
                    cases b with
                    | true =>
                      ((try dsimp only); (try simp only [Act.put, List.setIfInBounds_toArray, List.set_cons_zero, List.set_cons_succ]))
                      refine M_pure (i := 0) (v := ?_) rfl (by kernel_rfl) (by kernel_rfl) (by kernel_rfl) (fun _ _ _ h => h) (by rfl) ?hy ?_; (case hy => (intro w; go_simp; with_reducible rfl)); ((try dsimp only); (try simp only [Act.put, List.setIfInBounds_toArray, List.set_cons_zero, List.set_cons_succ]))
                      refine M_pure (i := 1) (v := ?_) rfl (by kernel_rfl) (by kernel_rfl) (by kernel_rfl) (fun _ _ _ h => h) (by rfl) ?hy ?_; (case hy => (intro w; go_simp; with_reducible rfl)); ((try dsimp only); (try simp only [Act.put, List.setIfInBounds_toArray, List.set_cons_zero, List.set_cons_succ]))
                      refine M_skip (i := 2) rfl (by kernel_rfl) (by kernel_rfl) (by kernel_rfl) (fun _ _ _ h => h) (by rfl) ?_; ((try dsimp only); (try simp only [Act.put, List.setIfInBounds_toArray, List.set_cons_zero, List.set_cons_succ]))
                      refine M_skip (i := 3) rfl (by kernel_rfl) (by kernel_rfl) (by kernel_rfl) (fun _ _ _ h => h) (by rfl) ?_; ((try dsimp only); (try simp only [Act.put, List.setIfInBounds_toArray, List.set_cons_zero, List.set_cons_succ]))
                      refine M_skip (i := 4) rfl (by kernel_rfl) (by kernel_rfl) (by kernel_rfl) (fun _ _ _ h => h) (by rfl) ?_; ((try dsimp only); (try simp only [Act.put, List.setIfInBounds_toArray, List.set_cons_zero, List.set_cons_succ]))
                      refine M_skip (i := 5) rfl (by kernel_rfl) (by kernel_rfl) (by kernel_rfl) (fun _ _ _ h => h) (by rfl) ?_; ((try dsimp only); (try simp only [Act.put, List.setIfInBounds_toArray, List.set_cons_zero, List.set_cons_succ]))
                      refine M_skip (i := 6) rfl (by kernel_rfl) (by kernel_rfl) (by kernel_rfl) (fun _ _ _ h => h) (by rfl) ?_; ((try dsimp only); (try simp only [Act.put, List.setIfInBounds_toArray, List.set_cons_zero, List.set_cons_succ]))
                      refine M_skip (i := 7) rfl (by kernel_rfl) (by kernel_rfl) (by kernel_rfl) (fun _ _ _ h => h) (by rfl) ?_; ((try dsimp only); (try simp only [Act.put, List.setIfInBounds_toArray, List.set_cons_zero, List.set_cons_succ]))
                      refine M_skip (i := 8) rfl (by kernel_rfl) (by kernel_rfl) (by kernel_rfl) (fun _ _ _ h => h) (by rfl) ?_; ((try dsimp only); (try simp only [Act.put, List.setIfInBounds_toArray, List.set_cons_zero, List.set_cons_succ]))
                      refine M_skip (i := 9) rfl (by kernel_rfl) (by kernel_rfl) (by kernel_rfl) (fun _ _ _ h => h) (by rfl) ?_; ((try dsimp only); (try simp only [Act.put, List.setIfInBounds_toArray, List.set_cons_zero, List.set_cons_succ]))
                      refine M_skip (i := 10) rfl (by kernel_rfl) (by kernel_rfl) (by kernel_rfl) (fun _ _ _ h => h) (by rfl) ?_; ((try dsimp only); (try simp only [Act.put, List.setIfInBounds_toArray, List.set_cons_zero, List.set_cons_succ]))
                      refine M_skip (i := 11) rfl (by kernel_rfl) (by kernel_rfl) (by kernel_rfl) (fun _ _ _ h => h) (by rfl) ?_; ((try dsimp only); (try simp only [Act.put, List.setIfInBounds_toArray, List.set_cons_zero, List.set_cons_succ]))
                      refine M_skip (i := 12) rfl (by kernel_rfl) (by kernel_rfl) (by kernel_rfl) (fun _ _ _ h => h) (by rfl) ?_; ((try dsimp only); (try simp only [Act.put, List.setIfInBounds_toArray, List.set_cons_zero, List.set_cons_succ]))
                      refine M_skip (i := 13) rfl (by kernel_rfl) (by kernel_rfl) (by kernel_rfl) (fun _ _ _ h => h) (by rfl) ?_; ((try dsimp only); (try simp only [Act.put, List.setIfInBounds_toArray, List.set_cons_zero, List.set_cons_succ]))
                      refine M_skip (i := 14) rfl (by kernel_rfl) (by kernel_rfl) (by kernel_rfl) (fun _ _ _ h => h) (by rfl) ?_; ((try dsimp only); (try simp only [Act.put, List.setIfInBounds_toArray, List.set_cons_zero, List.set_cons_succ]))
                      refine M_pure (i := 15) (v := ?_) rfl (by kernel_rfl) (by kernel_rfl) (by kernel_rfl) (fun _ _ _ h => h) (by rfl) ?hy ?_; (case hy => (intro w; go_simp; with_reducible rfl)); ((try dsimp only); (try simp only [Act.put, List.setIfInBounds_toArray, List.set_cons_zero, List.set_cons_succ]))
                      refine M_pure (i := 16) (v := ?_) rfl (by kernel_rfl) (by kernel_rfl) (by kernel_rfl) (fun _ _ _ h => h) (by rfl) ?hy ?_; (case hy => (intro w; go_simp; with_reducible rfl)); ((try dsimp only); (try simp only [Act.put, List.setIfInBounds_toArray, List.set_cons_zero, List.set_cons_succ]))
                      refine M_done (by kernel_rfl) ?_ _
                      clear m0 m1
                      go_wp2_with (skip; fail)
                      go_roundw
                      case rel => exact ⟨j + 1, true, by omega, by go_num, rfl, Lib.hid ⟨HN2.out, by
                        have h := J.out.2.1 rfl
                        rw [HM.out.2.2]
                        simp only [List.mem_append, true_iff]
                        rcases h with h | h
                        · exact .inl h
                        · exact .inr (.inl h)⟩⟩
                      case measure => simp [intOf]; omega
                    | false =>
                      have hJ := J.out.2
                      have HJ := Lib.hid hJ
                      clear hJ
                      ((try dsimp only); (try simp only [Act.put, List.setIfInBounds_toArray, List.set_cons_zero, List.set_cons_succ]))
                      refine M_pure (i := 0) (v := ?_) rfl (by kernel_rfl) (by kernel_rfl) (by kernel_rfl) (fun _ _ _ h => h) (by rfl) ?hy ?_; (case hy => (intro w; go_simp; with_reducible rfl)); ((try dsimp only); (try simp only [Act.put, List.setIfInBounds_toArray, List.set_cons_zero, List.set_cons_succ]))
                      refine M_pure (i := 1) (v := ?_) rfl (by kernel_rfl) (by kernel_rfl) (by kernel_rfl) (fun _ _ _ h => h) (by rfl) ?hy ?_; (case hy => (intro w; go_simp; with_reducible rfl)); ((try dsimp only); (try simp only [Act.put, List.setIfInBounds_toArray, List.set_cons_zero, List.set_cons_succ]))
                      refine M_pure (i := 2) (v := ?_) rfl (by kernel_rfl) (by kernel_rfl) (by kernel_rfl) (fun _ _ _ h => h) (by rfl) ?hy ?_; (case hy => (intro w; go_simp; with_reducible rfl)); ((try dsimp only); (try simp only [Act.put, List.setIfInBounds_toArray, List.set_cons_zero, List.set_cons_succ]))
                      refine M_pure (i := 3) (v := ?_) rfl (by kernel_rfl) (by kernel_rfl) (by kernel_rfl) (fun _ _ _ h => h) (by rfl) ?hy ?_; (case hy => (intro w; go_simp; with_reducible rfl)); ((try dsimp only); (try simp only [Act.put, List.setIfInBounds_toArray, List.set_cons_zero, List.set_cons_succ]))
                      refine M_pure (i := 4) (v := ?_) rfl (by kernel_rfl) (by kernel_rfl) (by kernel_rfl) (fun _ _ _ h => h) (by rfl) ?hy ?_; (case hy => (intro w; go_simp; with_reducible rfl)); ((try dsimp only); (try simp only [Act.put, List.setIfInBounds_toArray, List.set_cons_zero, List.set_cons_succ]))
                      refine M_pure (i := 5) (v := ?_) rfl (by kernel_rfl) (by kernel_rfl) (by kernel_rfl) (fun _ _ _ h => h) (by rfl) ?hy ?_; (case hy => (intro w; go_simp; with_reducible rfl)); ((try dsimp only); (try simp only [Act.put, List.setIfInBounds_toArray, List.set_cons_zero, List.set_cons_succ]))
                      refine M_pure (i := 6) (v := ?_) rfl (by kernel_rfl) (by kernel_rfl) (by kernel_rfl) (fun _ _ _ h => h) (by rfl) ?hy ?_; (case hy => (intro w; go_simp; with_reducible rfl)); ((try dsimp only); (try simp only [Act.put, List.setIfInBounds_toArray, List.set_cons_zero, List.set_cons_succ]))
                      refine M_take (i := 7) (v := ?_) rfl (by kernel_rfl) (by kernel_rfl) (by kernel_rfl) (by kernel_rfl) (fun _ _ _ h => h) (by rfl) ?hy ?_; (case hy => (go_simp; with_reducible rfl)); ((try dsimp only); (try simp only [Act.put, List.setIfInBounds_toArray, List.set_cons_zero, List.set_cons_succ]))
                      refine M_pure (i := 8) (v := ?_) rfl (by kernel_rfl) (by kernel_rfl) (by kernel_rfl) (fun _ _ _ h => h) (by rfl) ?hy ?_; (case hy => (intro w; go_simp; with_reducible rfl)); ((try dsimp only); (try simp only [Act.put, List.setIfInBounds_toArray, List.set_cons_zero, List.set_cons_succ]))
                      refine M_pure (i := 9) (v := ?_) rfl (by kernel_rfl) (by kernel_rfl) (by kernel_rfl) (fun _ _ _ h => h) (by rfl) ?hy ?_; (case hy => (intro w; go_simp; with_reducible rfl)); ((try dsimp only); (try simp only [Act.put, List.setIfInBounds_toArray, List.set_cons_zero, List.set_cons_succ]))
                      refine M_pure (i := 10) (v := ?_) rfl (by kernel_rfl) (by kernel_rfl) (by kernel_rfl) (fun _ _ _ h => h) (by rfl) ?hy ?_; (case hy => (intro w; go_simp; with_reducible rfl)); ((try dsimp only); (try simp only [Act.put, List.setIfInBounds_toArray, List.set_cons_zero, List.set_cons_succ]))
                      refine M_pure (i := 11) (v := ?_) rfl (by kernel_rfl) (by kernel_rfl) (by kernel_rfl) (fun _ _ _ h => h) (by rfl) ?hy ?_; (case hy => (intro w; go_simp; with_reducible rfl)); ((try dsimp only); (try simp only [Act.put, List.setIfInBounds_toArray, List.set_cons_zero, List.set_cons_succ]))
                      refine M_pure (i := 12) (v := ?_) rfl (by kernel_rfl) (by kernel_rfl) (by kernel_rfl) (fun _ _ _ h => h) (by rfl) ?hy ?_; (case hy => (intro w; go_simp; with_reducible rfl)); ((try dsimp only); (try simp only [Act.put, List.setIfInBounds_toArray, List.set_cons_zero, List.set_cons_succ]))
                      refine M_take (i := 13) (v := ?_) rfl (by kernel_rfl) (by kernel_rfl) (by kernel_rfl) (by kernel_rfl) (fun _ _ _ h => h) (by rfl) ?hy ?_; (case hy => (go_simp; with_reducible rfl)); ((try dsimp only); (try simp only [Act.put, List.setIfInBounds_toArray, List.set_cons_zero, List.set_cons_succ]))
                      refine M_pure (i := 14) (v := ?_) rfl (by kernel_rfl) (by kernel_rfl) (by kernel_rfl) (fun _ _ _ h => h) (by rfl) ?hy ?_; (case hy => (intro w; go_simp; with_reducible rfl)); ((try dsimp only); (try simp only [Act.put, List.setIfInBounds_toArray, List.set_cons_zero, List.set_cons_succ]))
                      refine M_pure (i := 15) (v := ?_) rfl (by kernel_rfl) (by kernel_rfl) (by kernel_rfl) (fun _ _ _ h => h) (by rfl) ?hy ?_; (case hy => (intro w; go_simp; with_reducible rfl)); ((try dsimp only); (try simp only [Act.put, List.setIfInBounds_toArray, List.set_cons_zero, List.set_cons_succ]))
                      refine M_pure (i := 16) (v := ?_) rfl (by kernel_rfl) (by kernel_rfl) (by kernel_rfl) (fun _ _ _ h => h) (by rfl) ?hy ?_; (case hy => (intro w; go_simp; with_reducible rfl)); ((try dsimp only); (try simp only [Act.put, List.setIfInBounds_toArray, List.set_cons_zero, List.set_cons_succ]))
                      refine M_done (by kernel_rfl) ?_ _
                      clear m0 m1
                      go_wp2_with (skip; fail)
                      go_roundw
                      case rel => exact ⟨j + 1, (z == y), by omega, by go_num, rfl, Lib.hid ⟨HN2.out, by
                        rw [HM.out.2.2]
                        have h : ¬ (y ∈ t.ids ∨ y ∈ (l.map (·.1.id)).take j) := fun h => by have := HJ.out.2 h; cases this
                        simp only [List.mem_append, List.mem_singleton, beq_iff_eq]
                        constructor
                        · intro h2; exact .inr (.inr h2.symm)
                        · rintro (h2 | h2 | h2)
                          · exact absurd (.inl h2) h
                          · exact absurd (.inr h2) h
                          · exact h2.symm⟩⟩
                      case measure => simp [intOf]; omega
                  case neg =>
                    obtain rfl : j = k := by omega
                    have hsn : (l.map (·.1.id)).take (j + 1) = (l.map (·.1.id)).take j ++ [y] := by
                      rw [List.take_succ_eq_append_getElem (by simpa using hlt), HYy.out]; simp
                    cases b with
                    | true =>
                      have hno : ¬ FreshIds t.ids s.sub.ids := fun hf => by
                        have h1 : FreshIds t.ids ((l.map (·.1.id)).take (j + 1)) := by
                          rw [← HV.out.2.2.1] at hf
                          exact ⟨hf.1.sublist (List.take_sublist _ _), fun i hi => hf.2 i (List.mem_of_mem_take hi)⟩
                        rw [hsn, FreshIds.snoc] at h1
                        rcases J.out.2.1 rfl with h | h
                        · exact h1.2.2 h
                        · exact h1.2.1 h
                      have hres := HI.out
                      rw [if_neg hno] at hres
                      have HR := Lib.hid hres
                      have hIM := HU.out.2.1.kept J.out.1
                      obtain ⟨r0, r1, r2, r3⟩ := blk4 hIM.b2
                      have f0 := blkF hIM.b2 0
                      have f1 := blkF hIM.b2 1
                      have f2 := blkF hIM.b2 2
                      have f3 := blkF hIM.b2 3
                      have HIM := Lib.hid hIM
                      clear hno hres hIM hsn
                      go_wp2_with (skip; fail)
                      refine bodyPost_ret (v := .tuple #[.agg #[.int .i64 0, .int .i64 0, .string ⟨#[]⟩, .slice none 0 0], .int .i64 60]) (results_row_tmp rfl _ _ (w.heap.size + 1 + 1) _ _ _ _ _ rfl rfl (set4 (HIM.out).b2) Try.underlying24 rfl szNode) rfl (by unfold ApplyC; rw [HR.out]; exact ⟨rfl, (HIM.out).chg.andThen (chg4 M (w.heap.size + 1 + 1) _ _ _ _) (by simp; omega)⟩)
                    | false =>
                      have h : ¬ (y ∈ t.ids ∨ y ∈ (l.map (·.1.id)).take j) := fun h => by have := J.out.2.2 h; cases this
                      have hfr : FreshIds t.ids ((l.map (·.1.id)).take (j + 1)) := by
                        rw [hsn, FreshIds.snoc]
                        exact ⟨K.out.2, fun h2 => h (.inr h2), fun h2 => h (.inl h2)⟩
                      have HFr := Lib.hid hfr
                      have HJM := Lib.hid J.out.1
                      clear h hfr hsn J
                      go_wp2_with (skip; fail)
                      go_roundw
                      case rel => exact ⟨j + 1, by omega, by go_num, Lib.hid ⟨K.out.1.trans HJM.out, HFr.out⟩⟩
                      case measure => simp [intOf]; omega
end Go.Proofs.Ytofjocjljbkjgaa
namespace Go.Proofs.Ytofjocjljbkjgaa
open Go.RowKit
set_option maxHeartbeats 4000000 in
set_option maxRecDepth 100000 in
theorem mov09_any (t : Tr) (A : Option Addr) (c : Nat) (s : Stp) (As : Option Addr) (cs : Nat) (w : World) (hT : TrC (fun b => b < w.heap.size) w t [.int .i64 (Tr.id t), .int .i64 (Tr.kind t), .string (Tr.text t), .slice A (Tr.kids t).length c]) (hn : t.nodes ≤ 2000) :
    Calls Try.prog 73 #[.agg #[.int .i64 (Tr.id t), .int .i64 (Tr.kind t), .string (Tr.text t), .slice A (Tr.kids t).length c], .agg #[.int .i8 (Stp.op s), .int .i64 (Stp.id s), .int .i64 (Stp.par s), .int .i64 (Stp.place s), .string (Stp.text s), .int .i64 (Stp.sub s).id, .int .i64 (Stp.sub s).kind, .string (Stp.sub s).text, .slice As (Stp.sub s).kids.length cs]] w (ApplyC (moveT t s.id s.par s.place) w) := by
  obtain ⟨W, hW⟩ : ∃ W, W = ((w.alloc (.cells #[.int .i64 (Tr.id t), .int .i64 (Tr.kind t), .string (Tr.text t), .slice A (Tr.kids t).length c] 24)).alloc (.cells #[.int .i8 (Stp.op s), .int .i64 (Stp.id s), .int .i64 (Stp.par s), .int .i64 (Stp.place s), .string (Stp.text s), .int .i64 (Stp.sub s).id, .int .i64 (Stp.sub s).kind, .string (Stp.sub s).text, .slice As (Stp.sub s).kids.length cs] 27)).alloc (.cells #[.int .i64 0, .int .i64 0, .string ⟨#[]⟩, .slice none 0 0] 24) := ⟨_, rfl⟩
  have hU : IvW w t A c s As cs W := by rw [hW]; exact IvW.new _ _ _ _ _ _ _
  have hfind : ∀ (W' : World) (id : Int), Chg [] w W' → Calls Try.prog 29 #[.agg #[.int .i64 (Tr.id t), .int .i64 (Tr.kind t), .string (Tr.text t), .slice A (Tr.kids t).length c], .int .i64 id] W' (FindR (t.subT id) W') := fun W' id hc => rfind_any t A c id W' ((hT.kept hc (by simp)).weak (fun b hb _ => Nat.lt_of_lt_of_le hb hc.size)) hn
  have hres := moveT_ref t s.id s.par s.place
  obtain ⟨p0, p1, p2, p3⟩ := blk4 (hU).b0; obtain ⟨q0, q1, q2, q3, q4, q5, q6, q7, q8⟩ := cells9 (hU).b1
  have HW := Lib.hid (And.intro hW (And.intro hU (And.intro hfind (And.intro hT (And.intro hn hres)))))
  rw [hW] at p0 p1 p2 p3 q0 q1 q2 q3 q4 q5 q6 q7 q8
  have hl2 := lt_of_block hU.b2
  clear hW hU hfind hT hn hres
  go_enter Try.func73, Try.ntmps73
  go_wp2_with fail
  rw [← HW.out.1]
  clear p0 p1 p2 p3 q0 q1 q2 q3 q4 q5 q6 q7 q8
  refine (HW.out.2.2.1 W s.id HW.out.2.1.chg).mono ?_
  rintro e X hF
  obtain ⟨x, Ax, cx, rfl, hxn, hTx, hX⟩ := hF.any
  clear hF
  obtain ⟨Y, hY⟩ : ∃ Y, Y = X.alloc (.cells #[.int .i64 (Tr.id x), .int .i64 (Tr.kind x), .string (Tr.text x), .slice Ax (Tr.kids x).length cx] 24) := ⟨_, rfl⟩
  have hXY : Chg [] X Y := by rw [hY]; exact (by with_reducible repeat (first | exact Chg.refl _ _ | apply Chg.alloc | apply Chg.drew | apply Chg.drewN | (refine Chg.setCell ?_ _ _ (by simp))))
  have hUY := HW.out.2.1.kept (hX.trans hXY)
  have b6 : Y.heap[X.heap.size]? = some (.cells #[.int .i64 (Tr.id x), .int .i64 (Tr.kind x), .string (Tr.text x), .slice Ax (Tr.kids x).length cx] 24 (0, 0)) := by rw [hY]; exact heap_new _ _ rfl
  have HY := Lib.hid (And.intro hY (And.intro hUY (And.intro b6 (hTx.kept hXY (by simp)))))
  have HYs := Lib.hid (Nat.le_trans hX.size hXY.size)
  cases hsub : t.subT s.id with
  | none =>
    have hres := HW.out.2.2.2.2.2
    rw [hsub] at hres
    have HR := Lib.hid hres
    obtain ⟨r0, r1, r2, r3⟩ := blk4 (hUY).b2; have f0 := blkF (hUY).b2 0; have f1 := blkF (hUY).b2 1; have f2 := blkF (hUY).b2 2; have f3 := blkF (hUY).b2 3
    rw [hY] at r0 r1 r2 r3 f0 f1 f2 f3
    clear hX hXY hUY b6 hTx hxn hsub hres hY
    go_wp2_with (skip; fail)
    rw [← HY.out.1]
    refine bodyPost_ret (v := .tuple #[.agg #[.int .i64 0, .int .i64 0, .string ⟨#[]⟩, .slice none 0 0], .int .i64 4]) (results_row_tmp rfl _ _ (w.heap.size + 1 + 1) _ _ _ _ _ rfl rfl (set4 (HY.out.2.1).b2) Try.underlying24 rfl szNode) rfl (by unfold ApplyC; rw [HR.out]; exact ⟨rfl, (HY.out.2.1).chg.andThen (chg4 Y (w.heap.size + 1 + 1) _ _ _ _) (by simp; omega)⟩)
  | some x' =>
  obtain rfl : x = x' := hxn x' hsub
  have hres := HW.out.2.2.2.2.2
  rw [hsub] at hres
  simp only [] at hres
  have HX := Lib.hid (And.intro hsub hres)
  obtain ⟨p0, p1, p2, p3⟩ := blk4 (hUY).b0; obtain ⟨q0, q1, q2, q3, q4, q5, q6, q7, q8⟩ := cells9 (hUY).b1
  rw [hY] at p0 p1 p2 p3 q0 q1 q2 q3 q4 q5 q6 q7 q8
  clear hX hXY hUY b6 hTx hxn hsub hres hY
  go_wp2_with fail
  rw [← HY.out.1]
  clear p0 p1 p2 p3 q0 q1 q2 q3 q4 q5 q6 q7 q8
  refine (HW.out.2.2.1 Y s.par HY.out.2.1.chg).mono ?_
  rintro e X2 hF
  obtain ⟨z, Az, cz, rfl, _, _, hX2⟩ := hF.any
  have hU2 := HY.out.2.1.kept hX2
  have H2 := Lib.hid (And.intro hU2 (And.intro (hX2.at HY.out.2.2.1 (by simp)) hX2))
  clear hF hX2
  cases hsub : t.subT s.par with
  | none =>
    have hres := HX.out.2
    rw [hsub] at hres
    have HR := Lib.hid hres
    obtain ⟨r0, r1, r2, r3⟩ := blk4 (hU2).b2; have f0 := blkF (hU2).b2 0; have f1 := blkF (hU2).b2 1; have f2 := blkF (hU2).b2 2; have f3 := blkF (hU2).b2 3
    clear hsub hres hU2
    go_wp2_with (skip; fail)
    refine bodyPost_ret (v := .tuple #[.agg #[.int .i64 0, .int .i64 0, .string ⟨#[]⟩, .slice none 0 0], .int .i64 4]) (results_row_tmp rfl _ _ (w.heap.size + 1 + 1) _ _ _ _ _ rfl rfl (set4 (H2.out.1).b2) Try.underlying24 rfl szNode) rfl (by unfold ApplyC; rw [HR.out]; exact ⟨rfl, (H2.out.1).chg.andThen (chg4 X2 (w.heap.size + 1 + 1) _ _ _ _) (by simp; omega)⟩)
  | some z' =>
  have hres := HX.out.2
  rw [hsub] at hres
  simp only [] at hres
  have HX3 := Lib.hid hres
  clear hsub hres
  obtain ⟨p0, p1, p2, p3⟩ := blk4 (hU2).b0; obtain ⟨q0, q1, q2, q3, q4, q5, q6, q7, q8⟩ := cells9 (hU2).b1
  by_cases h0 : t.id = s.id
  case pos =>
    have hres := HX3.out
    rw [if_pos h0] at hres
    have HR := Lib.hid hres
    have hb : (t.id == s.id) = true := by simpa using h0
    obtain ⟨r0, r1, r2, r3⟩ := blk4 (hU2).b2; have f0 := blkF (hU2).b2 0; have f1 := blkF (hU2).b2 1; have f2 := blkF (hU2).b2 2; have f3 := blkF (hU2).b2 3
    clear hres h0 hU2
    go_wp2_with (skip; fail)
    refine bodyPost_ret (v := .tuple #[.agg #[.int .i64 0, .int .i64 0, .string ⟨#[]⟩, .slice none 0 0], .int .i64 90]) (results_row_tmp rfl _ _ (w.heap.size + 1 + 1) _ _ _ _ _ rfl rfl (set4 (H2.out.1).b2) Try.underlying24 rfl szNode) rfl (by unfold ApplyC; rw [HR.out]; exact ⟨rfl, (H2.out.1).chg.andThen (chg4 X2 (w.heap.size + 1 + 1) _ _ _ _) (by simp; omega)⟩)
  case neg =>
  have hb : (t.id == s.id) = false := by simpa using h0
  have hres := HX3.out
  rw [if_neg h0] at hres
  have hxn : x.nodes ≤ 2000 := by obtain ⟨p, _, hat, _⟩ := subT_path HX.out.1; have := Tr.at_nodes p t x hat; have := HW.out.2.2.2.2.1; omega
  have hTx2 : TrC (fun b => b < X2.heap.size) X2 x [.int .i64 (Tr.id x), .int .i64 (Tr.kind x), .string (Tr.text x), .slice Ax (Tr.kids x).length cx] := (HY.out.2.2.2.kept H2.out.2.2 (by simp)).weak (fun b hb _ => by have := HY.out.2.1.chg.size; have := H2.out.2.2.size; have := lt_of_block HY.out.2.2.1; have := lt_of_block HW.out.2.1.b2; have := HW.out.2.1.chg.size; have := HYs.out; omega)
  have hfx := rfind_any x Ax cx s.par X2 hTx2 hxn
  have HX4 := Lib.hid (And.intro hres (And.intro h0 (And.intro hfx hxn)))
  obtain ⟨n0, n1, n2, n3⟩ := blk4 H2.out.2.1
  clear hres h0 hxn hTx2 hfx hU2
  go_wp2_with fail
  clear p0 p1 p2 p3 q0 q1 q2 q3 q4 q5 q6 q7 q8
  clear n0 n1 n2 n3
  refine HX4.out.2.2.1.mono ?_
  rintro e X3 hF
  obtain ⟨z2, Az2, cz2, rfl, _, _, hX3⟩ := hF.any
  have hU3 := H2.out.1.kept hX3
  have H3 := Lib.hid (And.intro hU3 (And.intro (hX3.at H2.out.2.1 (by simp)) (H2.out.2.2.trans hX3)))
  clear hF hX3
  cases hsub : x.subT s.par with
  | some z3 =>
    have hres := HX4.out.1
    rw [hsub] at hres
    have HR := Lib.hid hres
    obtain ⟨r0, r1, r2, r3⟩ := blk4 (hU3).b2; have f0 := blkF (hU3).b2 0; have f1 := blkF (hU3).b2 1; have f2 := blkF (hU3).b2 2; have f3 := blkF (hU3).b2 3
    clear hsub hres hU3
    go_wp2_with (skip; fail)
    refine bodyPost_ret (v := .tuple #[.agg #[.int .i64 0, .int .i64 0, .string ⟨#[]⟩, .slice none 0 0], .int .i64 91]) (results_row_tmp rfl _ _ (w.heap.size + 1 + 1) _ _ _ _ _ rfl rfl (set4 (H3.out.1).b2) Try.underlying24 rfl szNode) rfl (by unfold ApplyC; rw [HR.out]; exact ⟨rfl, (H3.out.1).chg.andThen (chg4 X3 (w.heap.size + 1 + 1) _ _ _ _) (by simp; omega)⟩)
  | none =>
  have hres := HX4.out.1
  rw [hsub] at hres
  simp only [] at hres
  obtain ⟨r, pn, k, ho, hpar, _, hrep⟩ := out_some HX.out.1 HX4.out.2.1
  rw [ho] at hres
  simp only [] at hres
  have hrn : r.nodes ≤ 2000 := by have := Tr.out_nodes s.id t x r ho; have := HW.out.2.2.2.2.1; omega
  have hwo := without_any t A c s.id pn k X3 ((HW.out.2.2.2.1.kept hU3.chg (by simp)).weak (fun b hb _ => Nat.lt_of_lt_of_le hb hU3.chg.size)) (by have := HW.out.2.2.2.2.1; omega) hpar
  rw [hrep] at hwo
  obtain ⟨p0, p1, p2, p3⟩ := blk4 (hU3).b0; obtain ⟨q0, q1, q2, q3, q4, q5, q6, q7, q8⟩ := cells9 (hU3).b1
  have HX5 := Lib.hid (And.intro hres (And.intro hwo hrn))
  clear hsub hres ho hpar hrep hrn hwo hU3
  go_wp2_with fail
  clear p0 p1 p2 p3 q0 q1 q2 q3 q4 q5 q6 q7 q8
  refine HX5.out.2.1.mono ?_
  rintro e X5 ⟨A8, c8, rfl, hV8, hX5⟩
  obtain ⟨Y5, hY5⟩ : ∃ Y5, Y5 = X5.alloc (.cells #[.int .i64 (Tr.id r), .int .i64 (Tr.kind r), .string (Tr.text r), .slice A8 (Tr.kids r).length c8] 24) := ⟨_, rfl⟩
  have hXY : Chg [] X5 Y5 := by rw [hY5]; exact (by with_reducible repeat (first | exact Chg.refl _ _ | apply Chg.alloc | apply Chg.drew | apply Chg.drewN | (refine Chg.setCell ?_ _ _ (by simp))))
  have hU5 := H3.out.1.kept (hX5.trans hXY)
  have b8 : Y5.heap[X5.heap.size]? = some (.cells #[.int .i64 (Tr.id r), .int .i64 (Tr.kind r), .string (Tr.text r), .slice A8 (Tr.kids r).length c8] 24 (0, 0)) := by rw [hY5]; exact heap_new _ _ rfl
  have hT8 : TrC (fun b => b < Y5.heap.size) Y5 r [.int .i64 (Tr.id r), .int .i64 (Tr.kind r), .string (Tr.text r), .slice A8 (Tr.kids r).length c8] := (hV8.toC.kept hXY (by simp)).weak (fun b hb _ => by have := hXY.size; omega)
  have hfr := rfind_any r A8 c8 s.par Y5 hT8 HX5.out.2.2
  have H5 := Lib.hid (And.intro hY5 (And.intro hU5 (And.intro b8 (And.intro hT8 (And.intro ((hX5.trans hXY).at H3.out.2.1 (by simp)) (And.intro hfr (H3.out.2.2.trans (hX5.trans hXY))))))))
  obtain ⟨p0, p1, p2, p3⟩ := blk4 (hU5).b0; obtain ⟨q0, q1, q2, q3, q4, q5, q6, q7, q8⟩ := cells9 (hU5).b1
  obtain ⟨n0, n1, n2, n3⟩ := blk4 b8
  rw [hY5] at p0 p1 p2 p3 q0 q1 q2 q3 q4 q5 q6 q7 q8 n0 n1 n2 n3
  clear hV8 hX5 hXY hU5 b8 hT8 hfr hY5
  go_wp2_with fail
  rw [← H5.out.1]
  clear p0 p1 p2 p3 q0 q1 q2 q3 q4 q5 q6 q7 q8
  clear n0 n1 n2 n3
  refine H5.out.2.2.2.2.2.1.mono ?_
  rintro e X6 hF
  obtain ⟨n, An, cn, rfl, hnn, hTn, hX6⟩ := hF.any
  clear hF
  obtain ⟨Y6, hY6⟩ : ∃ Y6, Y6 = X6.alloc (.cells #[.int .i64 (Tr.id n), .int .i64 (Tr.kind n), .string (Tr.text n), .slice An (Tr.kids n).length cn] 24) := ⟨_, rfl⟩
  have hXY : Chg [] X6 Y6 := by rw [hY6]; exact (by with_reducible repeat (first | exact Chg.refl _ _ | apply Chg.alloc | apply Chg.drew | apply Chg.drewN | (refine Chg.setCell ?_ _ _ (by simp))))
  have hU6 := H5.out.2.1.kept (hX6.trans hXY)
  have b9 : Y6.heap[X6.heap.size]? = some (.cells #[.int .i64 (Tr.id n), .int .i64 (Tr.kind n), .string (Tr.text n), .slice An (Tr.kids n).length cn] 24 (0, 0)) := by rw [hY6]; exact heap_new _ _ rfl
  have H6 := Lib.hid (And.intro hY6 (And.intro hU6 (And.intro b9 (And.intro (hTn.kept hXY (by simp)) (And.intro ((hX6.trans hXY).at H5.out.2.2.1 (by simp)) (And.intro ((hX6.trans hXY).at H5.out.2.2.2.2.1 (by simp)) (hX6.trans hXY)))))))
  cases hsub : r.subT s.par with
  | none =>
    have hres := HX5.out.1
    rw [hsub] at hres
    have HR := Lib.hid hres
    obtain ⟨r0, r1, r2, r3⟩ := blk4 (hU6).b2; have f0 := blkF (hU6).b2 0; have f1 := blkF (hU6).b2 1; have f2 := blkF (hU6).b2 2; have f3 := blkF (hU6).b2 3
    obtain ⟨p0, p1, p2, p3⟩ := blk4 (hU6).b0; obtain ⟨q0, q1, q2, q3, q4, q5, q6, q7, q8⟩ := cells9 (hU6).b1
    rw [hY6] at r0 r1 r2 r3 f0 f1 f2 f3 p0 p1 p2 p3 q0 q1 q2 q3 q4 q5 q6 q7 q8
    clear hX6 hXY hU6 b9 hTn hnn hsub hres hY6
    go_wp2_with (skip; fail)
    rw [← H6.out.1]
    refine bodyPost_ret (v := .tuple #[.agg #[.int .i64 0, .int .i64 0, .string ⟨#[]⟩, .slice none 0 0], .int .i64 2]) (results_row_tmp rfl _ _ (w.heap.size + 1 + 1) _ _ _ _ _ rfl rfl (set4 (H6.out.2.1).b2) Try.underlying24 rfl szNode) rfl (by unfold ApplyC; rw [HR.out]; exact ⟨rfl, (H6.out.2.1).chg.andThen (chg4 Y6 (w.heap.size + 1 + 1) _ _ _ _) (by simp; omega)⟩)
  | some n' =>
  obtain rfl : n = n' := hnn n' hsub
  have hres := HX5.out.1
  rw [hsub] at hres
  simp only [] at hres
  have HN := Lib.hid hsub
  obtain ⟨p0, p1, p2, p3⟩ := blk4 (hU6).b0; obtain ⟨q0, q1, q2, q3, q4, q5, q6, q7, q8⟩ := cells9 (hU6).b1
  obtain ⟨n0, n1, n2, n3⟩ := blk4 b9
  by_cases hpl : 0 ≤ s.place ∧ s.place ≤ n.kids.length
  case neg =>
    rw [if_neg hpl] at hres
    have HR := Lib.hid hres
    have hd : decide (s.place < 0) = true ∨ (decide (s.place < 0) = false ∧ decide ((n.kids.length : Int) < s.place) = true) := by
      by_cases h : s.place < 0
      · exact .inl (decide_eq_true h)
      · exact .inr ⟨decide_eq_false h, decide_eq_true (by omega)⟩
    obtain ⟨r0, r1, r2, r3⟩ := blk4 (hU6).b2; have f0 := blkF (hU6).b2 0; have f1 := blkF (hU6).b2 1; have f2 := blkF (hU6).b2 2; have f3 := blkF (hU6).b2 3
    rw [hY6] at r0 r1 r2 r3 f0 f1 f2 f3 p0 p1 p2 p3 q0 q1 q2 q3 q4 q5 q6 q7 q8 n0 n1 n2 n3
    clear hX6 hXY hU6 b9 hTn hnn hsub hres hY6 hpl
    rcases hd with hd | ⟨hd, hd2⟩
    all_goals
      go_wp2_with (skip; fail)
      rw [← H6.out.1]
      refine bodyPost_ret (v := .tuple #[.agg #[.int .i64 0, .int .i64 0, .string ⟨#[]⟩, .slice none 0 0], .int .i64 2]) (results_row_tmp rfl _ _ (w.heap.size + 1 + 1) _ _ _ _ _ rfl rfl (set4 (H6.out.2.1).b2) Try.underlying24 rfl szNode) rfl (by unfold ApplyC; rw [HR.out]; exact ⟨rfl, (H6.out.2.1).chg.andThen (chg4 Y6 (w.heap.size + 1 + 1) _ _ _ _) (by simp; omega)⟩)
  case pos =>
  rw [if_pos hpl] at hres
  have hd : decide (s.place < 0) = false := decide_eq_false (by omega)
  have hd2 : decide ((n.kids.length : Int) < s.place) = false := decide_eq_false (by omega)
  have HP := Lib.hid (And.intro hpl hres)
  rw [hY6] at p0 p1 p2 p3 q0 q1 q2 q3 q4 q5 q6 q7 q8 n0 n1 n2 n3
  clear hX6 hXY hU6 b9 hTn hnn hsub hres hY6 hpl
  go_wp2_with (skip; fail)
  rw [← H6.out.1]
  clear p0 p1 p2 p3 q0 q1 q2 q3 q4 q5 q6 q7 q8
  clear n0 n1 n2 n3 hd hd2 hb
  obtain ⟨pn', hpn⟩ : ∃ pn' : Nat, (pn' : Int) = s.place := ⟨s.place.toNat, by have := HP.out.1; omega⟩
  have hpt : s.place.toNat = pn' := by omega
  have hpk : pn' ≤ n.kids.length := by have := HP.out.1; omega
  have hres := HP.out.2
  rw [hpt] at hres
  have HR := Lib.hid hres
  obtain ⟨A', c', hcs', hlc', hcm', htx', hKn⟩ := H6.out.2.2.2.1.opens
  simp only [List.cons.injEq, Value.slice.injEq, true_and, and_true] at hcs'
  obtain ⟨rfl, rfl⟩ := hcs'
  have hnn : n.nodes ≤ 2000 := by obtain ⟨p, _, hat, _⟩ := subT_path HN.out; have := Tr.at_nodes p r n hat; have := HX5.out.2.2; omega
  have hkl : n.kids.length ≤ 100000 := by have := nodesL_len n.kids; rw [Tr.nodes_eq] at hnn; omega
  have hkn : nodesL (insAt n.kids pn' x) ≤ 100000 := by rw [insAt_nodes]; have := HX4.out.2.2.2; rw [Tr.nodes_eq] at hnn; omega
  have HE := Lib.hid (And.intro hpn (And.intro hpk (And.intro hlc' (And.intro hcm' (And.intro htx' (And.intro hKn (And.intro hkl hkn)))))))
  clear hres hpn hpt hpk hlc' hcm' htx' hKn hnn hkl hkn
  refine wp_region_M (fun W => IvW w t A c s As cs W ∧ W.heap[X6.heap.size]? = some (.cells #[.int .i64 (Tr.id n), .int .i64 (Tr.kind n), .string (Tr.text n), .slice An (Tr.kids n).length cn] 24 (0, 0)) ∧ W.heap[X5.heap.size]? = some (.cells #[.int .i64 (Tr.id r), .int .i64 (Tr.kind r), .string (Tr.text r), .slice A8 (Tr.kids r).length c8] 24 (0, 0))) (fun k => [8, 11, 12].contains k) (fun k => [12].contains k) (by kernel_rfl) ?_
  obtain ⟨Q, hQ⟩ : ∃ Q, Q = Y6.drew := ⟨_, rfl⟩
  rw [← hQ]
  have hUQ : Chg [] Y6 Q := by rw [hQ]; exact (Chg.refl _ _).drew
  clear hQ
  have hIQ := H6.out.2.1.kept hUQ
  have h9Q := hUQ.at H6.out.2.2.1 (by simp)
  have h8Q := hUQ.at H6.out.2.2.2.2.1 (by simp)
  have h6Q := hUQ.at H6.out.2.2.2.2.2.1 (by simp)
  have hall : ∀ Z : World, (IvW w t A c s As cs Z ∧ Z.heap[X6.heap.size]? = some (.cells #[.int .i64 (Tr.id n), .int .i64 (Tr.kind n), .string (Tr.text n), .slice An (Tr.kids n).length cn] 24 (0, 0)) ∧ Z.heap[X5.heap.size]? = some (.cells #[.int .i64 (Tr.id r), .int .i64 (Tr.kind r), .string (Tr.text r), .slice A8 (Tr.kids r).length c8] 24 (0, 0))) → Z.rangeAt X5.heap.size 0 [.int .i64 (Tr.id r), .int .i64 (Tr.kind r), .string (Tr.text r), .slice A8 (Tr.kids r).length c8] ∧ Z.cell? ⟨w.heap.size + 1, 2, none⟩ = some (.int .i64 s.par) ∧ Z.cell? ⟨X6.heap.size, 2, none⟩ = some (.string n.text) := fun Z h => ⟨range_all h.2.2, (cells9 h.1.b1).2.2.1, (blk4 h.2.1).2.2.1⟩
  have hS : IvW w t A c s As cs Q ∧ Q.heap[X6.heap.size]? = some (.cells #[.int .i64 (Tr.id n), .int .i64 (Tr.kind n), .string (Tr.text n), .slice An (Tr.kids n).length cn] 24 (0, 0)) ∧ Q.heap[X5.heap.size]? = some (.cells #[.int .i64 (Tr.id r), .int .i64 (Tr.kind r), .string (Tr.text r), .slice A8 (Tr.kids r).length c8] 24 (0, 0)) := ⟨hIQ, h9Q, h8Q⟩
  have q3 := (cells9 hIQ.b1).2.2.2.1
  rw [← HE.out.1] at q3
  have n3 := (blk4 h9Q).2.2.2
  have HQ := Lib.hid (And.intro hUQ (And.intro hIQ (And.intro h9Q (And.intro hall (And.intro (range_all h6Q : Q.rangeAt X.heap.size 0 [.int .i64 (Tr.id x), .int .i64 (Tr.kind x), .string (Tr.text x), .slice Ax (Tr.kids x).length cx]) h8Q)))))
  clear hUQ hIQ h9Q h8Q h6Q hall
  ((try dsimp only); (try simp only [Act.put, List.setIfInBounds_toArray, List.set_cons_zero, List.set_cons_succ]))
  refine M_semi (i := 0) rfl (by kernel_rfl) (by kernel_rfl) (by kernel_rfl) (by kernel_rfl) (fun _ _ _ h => h) (by rfl) hS (fun W hS => exec_load_mid 24 (.tmp 8) rfl X5.heap.size 0 rfl _ _ (HQ.out.2.2.2.1 _ hS).1 Try.underlying24 rfl szNode) ?_; ((try dsimp only); (try simp only [Act.put, List.setIfInBounds_toArray, List.set_cons_zero, List.set_cons_succ]))
  refine M_pure (i := 1) (v := ?_) rfl (by kernel_rfl) (by kernel_rfl) (by kernel_rfl) (fun _ _ _ h => h) (by rfl) ?hy ?_; (case hy => (intro w; go_simp; with_reducible rfl)); ((try dsimp only); (try simp only [Act.put, List.setIfInBounds_toArray, List.set_cons_zero, List.set_cons_succ]))
  refine M_semi (i := 2) (v := ?_) rfl (by kernel_rfl) (by kernel_rfl) (by kernel_rfl) (by kernel_rfl) (fun _ _ _ h => h) (by rfl) hS ?hy ?_
  case hy => (intro w' hS; have h2 := (HQ.out.2.2.2.1 w' hS).2.1; clear hS; go_simp; with_reducible rfl)
  ((try dsimp only); (try simp only [Act.put, List.setIfInBounds_toArray, List.set_cons_zero, List.set_cons_succ]))
  refine M_pure (i := 3) (v := ?_) rfl (by kernel_rfl) (by kernel_rfl) (by kernel_rfl) (fun _ _ _ h => h) (by rfl) ?hy ?_; (case hy => (intro w; go_simp; with_reducible rfl)); ((try dsimp only); (try simp only [Act.put, List.setIfInBounds_toArray, List.set_cons_zero, List.set_cons_succ]))
  refine M_take (i := 4) (v := ?_) rfl (by kernel_rfl) (by kernel_rfl) (by kernel_rfl) (by kernel_rfl) (fun _ _ _ h => h) (by rfl) ?hy ?_; (case hy => (go_simp; with_reducible rfl)); ((try dsimp only); (try simp only [Act.put, List.setIfInBounds_toArray, List.set_cons_zero, List.set_cons_succ]))
  refine M_pure (i := 5) (v := ?_) rfl (by kernel_rfl) (by kernel_rfl) (by kernel_rfl) (fun _ _ _ h => h) (by rfl) ?hy ?_; (case hy => (intro w; go_simp; with_reducible rfl)); ((try dsimp only); (try simp only [Act.put, List.setIfInBounds_toArray, List.set_cons_zero, List.set_cons_succ]))
  refine M_take (i := 6) (v := ?_) rfl (by kernel_rfl) (by kernel_rfl) (by kernel_rfl) (by kernel_rfl) (fun _ _ _ h => h) (by rfl) ?hy ?_; (case hy => (go_simp; with_reducible rfl)); ((try dsimp only); (try simp only [Act.put, List.setIfInBounds_toArray, List.set_cons_zero, List.set_cons_succ]))
  refine M_take (i := 7) rfl (by kernel_rfl) (by kernel_rfl) (by kernel_rfl) (by kernel_rfl) (fun _ _ _ h => h) (by rfl) (exec_load_mid 24 (.tmp 6) rfl X.heap.size 0 rfl _ _ HQ.out.2.2.2.2.1 Try.underlying24 rfl szNode) ?_; ((try dsimp only); (try simp only [Act.put, List.setIfInBounds_toArray, List.set_cons_zero, List.set_cons_succ]))
  refine M_pure (i := 9) (v := ?_) rfl (by kernel_rfl) (by kernel_rfl) (by kernel_rfl) (fun _ _ _ h => h) (by rfl) ?hy ?_; (case hy => (intro w; go_simp; with_reducible rfl)); ((try dsimp only); (try simp only [Act.put, List.setIfInBounds_toArray, List.set_cons_zero, List.set_cons_succ]))
  refine M_semi (i := 10) (v := ?_) rfl (by kernel_rfl) (by kernel_rfl) (by kernel_rfl) (by kernel_rfl) (fun _ _ _ h => h) (by rfl) hS ?hy ?_
  case hy => (intro w' hS; have h2 := (HQ.out.2.2.2.1 w' hS).2.2; clear hS; go_simp; with_reducible rfl)
  ((try dsimp only); (try simp only [Act.put, List.setIfInBounds_toArray, List.set_cons_zero, List.set_cons_succ]))
  clear q3 n3 hS
  refine M_eff (i := 8) rfl (by kernel_rfl) (by rfl) ?_
  go_wp2_with fail
  have hYQ : Chg [] Y Q := H5.out.2.2.2.2.2.2.trans (H6.out.2.2.2.2.2.2.trans HQ.out.1)
  have hWQ : W.heap.size ≤ Q.heap.size := by have := HYs.out; have := hYQ.size; omega
  have h5Q : Y5.heap.size ≤ Q.heap.size := (H6.out.2.2.2.2.2.2.trans HQ.out.1).size
  refine (inserted_any n.kids An cn pn' x Ax cx Q ((HE.out.2.2.2.2.2.1.kept HQ.out.1 (by simp)).weak (fun b hb _ => by omega)) ⟨HE.out.2.2.1, HE.out.2.2.2.1⟩ HE.out.2.1 ((HY.out.2.2.2.kept hYQ (by simp)).weak (fun b hb _ => by omega)) HE.out.2.2.2.2.2.2.1).mono ?_
  clear hYQ hWQ
  obtain ⟨ks, hks⟩ : ∃ ks, ks = insAt n.kids pn' x := ⟨_, rfl⟩
  rw [← hks]
  have HKs := Lib.hid hks
  rintro e X9 ⟨A9, c9, rfl, hrow, hX9⟩
  obtain ⟨_, hcl, hcm, hKr⟩ := hrow.toC
  have hI9 := HQ.out.2.1.kept hX9
  have hS9 : IvW w t A c s As cs X9 ∧ X9.heap[X6.heap.size]? = some (.cells #[.int .i64 (Tr.id n), .int .i64 (Tr.kind n), .string (Tr.text n), .slice An (Tr.kids n).length cn] 24 (0, 0)) ∧ X9.heap[X5.heap.size]? = some (.cells #[.int .i64 (Tr.id r), .int .i64 (Tr.kind r), .string (Tr.text r), .slice A8 (Tr.kids r).length c8] 24 (0, 0)) := ⟨hI9, hX9.at HQ.out.2.2.1 (by simp), hX9.at HQ.out.2.2.2.2.2 (by simp)⟩
  have hput := put09_any r A8 c8 s.par ks A9 c9 n.text X9 ((H5.out.2.2.2.1.kept (H6.out.2.2.2.2.2.2.trans (HQ.out.1.trans hX9)) (by simp)).weak (fun b hb _ => by have := hX9.size; omega)) hKr (by have := HX5.out.2.2; omega) (by rw [hks]; exact HE.out.2.2.2.2.2.2.2) HE.out.2.2.2.2.1 hcl hcm
  have H9 := Lib.hid (And.intro hI9 (And.intro hput (And.intro hS9.2.1 hS9.2.2)))
  clear hks hrow hX9 hcl hcm hKr hI9 hput h5Q
  go_wp2_with fail
  refine ⟨hS9, ?_⟩
  clear hS9
  ((try dsimp only); (try simp only [Act.put, List.setIfInBounds_toArray, List.set_cons_zero, List.set_cons_succ]))
  refine M_eff (i := 11) rfl (by kernel_rfl) (by rfl) ?_
  go_wp2_with fail
  refine H9.out.2.1.mono ?_
  obtain ⟨r9, hr⟩ : ∃ r9, r9 = (makesT s.par ks n.text r false).1 := ⟨_, rfl⟩
  rw [← hr]
  have HRr := Lib.hid hr
  clear hr
  rintro e Z ⟨Ar, cr, rfl, hVr, hZ⟩
  have hIZ := H9.out.1.kept hZ
  have hSZ : IvW w t A c s As cs Z ∧ Z.heap[X6.heap.size]? = some (.cells #[.int .i64 (Tr.id n), .int .i64 (Tr.kind n), .string (Tr.text n), .slice An (Tr.kids n).length cn] 24 (0, 0)) ∧ Z.heap[X5.heap.size]? = some (.cells #[.int .i64 (Tr.id r), .int .i64 (Tr.kind r), .string (Tr.text r), .slice A8 (Tr.kids r).length c8] 24 (0, 0)) := ⟨hIZ, hZ.at H9.out.2.2.1 (by simp), hZ.at H9.out.2.2.2 (by simp)⟩
  have HZ := Lib.hid (And.intro hVr (And.intro hIZ hZ.size))
  obtain ⟨r0, r1, r2, r3⟩ := blk4 (hIZ).b2; have f0 := blkF (hIZ).b2 0; have f1 := blkF (hIZ).b2 1; have f2 := blkF (hIZ).b2 2; have f3 := blkF (hIZ).b2 3
  clear hVr hZ hIZ
  go_wp2_with fail
  refine ⟨hSZ, ?_⟩
  clear hSZ
  refine M_brk (i := 12) rfl (by kernel_rfl) (by rfl) (by rfl) ?_
  go_wp2_with fail
  ((try dsimp only [EffQ]); (try simp only [Act.put, List.setIfInBounds_toArray, List.set_cons_zero, List.set_cons_succ]))
  refine M_pure (i := 13) (v := ?_) rfl (by kernel_rfl) (by kernel_rfl) (by kernel_rfl) (fun _ _ _ h => h) (by rfl) ?hy ?_; (case hy => (intro w; go_simp; with_reducible rfl)); ((try dsimp only); (try simp only [Act.put, List.setIfInBounds_toArray, List.set_cons_zero, List.set_cons_succ]))
  refine M_done (by kernel_rfl) ?_ _
  go_wp2_with (skip; fail)
  have hc4 := chg4 Z (w.heap.size + 1 + 1) (.int .i64 r9.id) (.int .i64 r9.kind) (.string r9.text) (.slice Ar r9.kids.length cr)
  have hs4 := hc4.size
  have h9 := H9.out.1.chg.size
  have h92 := lt_of_block H9.out.1.b2
  refine bodyPost_ret (v := .tuple #[.agg #[.int .i64 (Tr.id r9), .int .i64 (Tr.kind r9), .string (Tr.text r9), .slice Ar (Tr.kids r9).length cr], .int .i64 0]) (results_row_tmp rfl _ _ (w.heap.size + 1 + 1) _ _ _ _ _ rfl rfl (set4 HZ.out.2.1.b2) Try.underlying24 rfl szNode) rfl ?_
  unfold ApplyC
  rw [HR.out, ← HKs.out, ← HRr.out]
  exact ⟨Ar, cr, rfl, (HZ.out.1.toC.kept hc4 (fun g hg => by simp; omega)).weak (fun g hg _ => ⟨by omega, by omega⟩), HZ.out.2.1.chg.andThen hc4 (by simp; omega)⟩
end Go.Proofs.Ytofjocjljbkjgaa
namespace Go.Proofs.Ytofjocjljbkjgaa
open Go.RowKit
theorem ApplyC.any {res : Except Int Tr} {w : World} {e : Ending} {w' : World} (h : ApplyC res w e w') : ∃ (x : Tr) (A : Option Addr) (c : Nat) (n : Int), e = .returned (.tuple #[.agg #[.int .i64 (Tr.id x), .int .i64 (Tr.kind x), .string (Tr.text x), .slice A (Tr.kids x).length c], .int .i64 n]) ∧ Chg [] w w' ∧ ∀ (w0 w2 : World) (b : Nat), Chg [] w0 w → b < w.heap.size → w0.heap.size ≤ b → Chg [b] w' w2 → ApplyC res w0 (.returned (.tuple #[.agg #[.int .i64 (Tr.id x), .int .i64 (Tr.kind x), .string (Tr.text x), .slice A (Tr.kids x).length c], .int .i64 n])) w2 := by
  unfold ApplyC at h
  cases res with
  | error n => exact ⟨zeroT, none, 0, n, h.1, h.2, fun w0 w2 b h0 hb hb0 h2 => ⟨rfl, (h0.trans h.2).andThen h2 (by simp; omega)⟩⟩
  | ok t' =>
    obtain ⟨A, c, h1, h2, h3⟩ := h
    refine ⟨t', A, c, 0, h1, h3, fun w0 w2 b h0 hb hb0 h4 => ⟨A, c, rfl, (h2.kept h4 (fun g hg => by simp; omega)).weak (fun g hg _ => ⟨by have := h0.size; omega, by have := h4.size; omega⟩), (h0.trans h3).andThen h4 (by simp; omega)⟩⟩
set_option maxHeartbeats 4000000 in
set_option maxRecDepth 100000 in
theorem apply09_any (t : Tr) (A : Option Addr) (c : Nat) (s : Stp) (As : Option Addr) (cs : Nat) (w : World) (hT : TrC (fun b => b < w.heap.size) w t [.int .i64 (Tr.id t), .int .i64 (Tr.kind t), .string (Tr.text t), .slice A (Tr.kids t).length c]) (hS : StpC (fun b => b < w.heap.size) w s (#[.int .i8 (Stp.op s), .int .i64 (Stp.id s), .int .i64 (Stp.par s), .int .i64 (Stp.place s), .string (Stp.text s), .int .i64 (Stp.sub s).id, .int .i64 (Stp.sub s).kind, .string (Stp.sub s).text, .slice As (Stp.sub s).kids.length cs] : Array Value).toList) :
    Calls Try.prog 33 #[.agg #[.int .i64 (Tr.id t), .int .i64 (Tr.kind t), .string (Tr.text t), .slice A (Tr.kids t).length c], .agg #[.int .i8 (Stp.op s), .int .i64 (Stp.id s), .int .i64 (Stp.par s), .int .i64 (Stp.place s), .string (Stp.text s), .int .i64 (Stp.sub s).id, .int .i64 (Stp.sub s).kind, .string (Stp.sub s).text, .slice As (Stp.sub s).kids.length cs]] w (ApplyC (applyT t s) w) := by
  obtain ⟨W, hW⟩ : ∃ W, W = ((w.alloc (.cells #[.int .i64 (Tr.id t), .int .i64 (Tr.kind t), .string (Tr.text t), .slice A (Tr.kids t).length c] 24)).alloc (.cells #[.int .i8 (Stp.op s), .int .i64 (Stp.id s), .int .i64 (Stp.par s), .int .i64 (Stp.place s), .string (Stp.text s), .int .i64 (Stp.sub s).id, .int .i64 (Stp.sub s).kind, .string (Stp.sub s).text, .slice As (Stp.sub s).kids.length cs] 27)).alloc (.cells #[.int .i64 0, .int .i64 0, .string ⟨#[]⟩, .slice none 0 0] 24) := ⟨_, rfl⟩
  have hU : IvW w t A c s As cs W := by rw [hW]; exact IvW.new _ _ _ _ _ _ _
  obtain ⟨As', cs', e, hsub, htx, _⟩ := hS
  simp only [List.cons.injEq, Value.slice.injEq, true_and, and_true] at e
  obtain ⟨rfl, rfl⟩ := e
  have htC : ∀ W', Chg [] w W' → TrC (fun b => b < W'.heap.size) W' t [.int .i64 (Tr.id t), .int .i64 (Tr.kind t), .string (Tr.text t), .slice A (Tr.kids t).length c] := fun W' hc => hT.next hc
  have hsC : ∀ W', Chg [] w W' → TrC (fun b => b < W'.heap.size) W' s.sub [.int .i64 (Tr.id s.sub), .int .i64 (Tr.kind s.sub), .string (Tr.text s.sub), .slice As (Tr.kids s.sub).length cs] := fun W' hc => hsub.next hc
  obtain ⟨p0, p1, p2, p3⟩ := blk4 (hU).b0; obtain ⟨q0, q1, q2, q3, q4, q5, q6, q7, q8⟩ := cells9 (hU).b1
  have HW := Lib.hid (And.intro hW (And.intro hU (And.intro htC (And.intro hsC htx))))
  rw [hW] at p0 p1 p2 p3 q0 q1 q2 q3 q4 q5 q6 q7 q8
  have hl2 := lt_of_block hU.b2
  clear hW hU hT hsub htx htC hsC
  go_enter Try.func33, Try.ntmps33
  go_wp2_with fail
  rw [← HW.out.1]
  clear p0 p1 p2 p3 q0 q1 q2 q3 q4 q5 q6 q7 q8
  refine (great01_any t A c W (HW.out.2.2.1 W HW.out.2.1.chg)).mono ?_
  rintro e X ⟨rfl, hX⟩
  have hUX := HW.out.2.1.kept hX
  have HX := Lib.hid hUX
  by_cases hbig : 2000 < t.nodes
  case pos =>
    rw [decide_eq_true hbig]
    have HR := Lib.hid (show applyT t s = .error 2 by unfold applyT; rw [if_neg (by omega)])
    obtain ⟨r0, r1, r2, r3⟩ := blk4 (hUX).b2; have f0 := blkF (hUX).b2 0; have f1 := blkF (hUX).b2 1; have f2 := blkF (hUX).b2 2; have f3 := blkF (hUX).b2 3
    clear hX hUX hbig
    go_wp2_with (skip; fail)
    refine bodyPost_ret (v := .tuple #[.agg #[.int .i64 0, .int .i64 0, .string ⟨#[]⟩, .slice none 0 0], .int .i64 2]) (results_row_tmp rfl _ _ (w.heap.size + 1 + 1) _ _ _ _ _ rfl rfl (set4 (HX.out).b2) Try.underlying24 rfl szNode) rfl (by unfold ApplyC; rw [HR.out]; exact ⟨rfl, (HX.out).chg.andThen (chg4 X (w.heap.size + 1 + 1) _ _ _ _) (by simp; omega)⟩)
  case neg =>
  rw [decide_eq_false hbig]
  obtain ⟨p0, p1, p2, p3⟩ := blk4 (hUX).b0; obtain ⟨q0, q1, q2, q3, q4, q5, q6, q7, q8⟩ := cells9 (hUX).b1
  clear hX hUX
  have HBt := Lib.hid hbig
  clear hbig
  go_wp2_with fail
  clear p0 p1 p2 p3 q0 q1 q2 q3 q4 q5 q6 q7 q8
  refine (great01_any s.sub As cs X (HW.out.2.2.2.1 X HX.out.chg)).mono ?_
  rintro e Y ⟨rfl, hY⟩
  have hUY := HX.out.kept hY
  have HY := Lib.hid hUY
  by_cases hbig : 2000 < s.sub.nodes
  case pos =>
    rw [decide_eq_true hbig]
    have HR := Lib.hid (show applyT t s = .error 2 by unfold applyT; rw [if_neg (by omega)])
    obtain ⟨r0, r1, r2, r3⟩ := blk4 (hUY).b2; have f0 := blkF (hUY).b2 0; have f1 := blkF (hUY).b2 1; have f2 := blkF (hUY).b2 2; have f3 := blkF (hUY).b2 3
    clear hY hUY hbig
    go_wp2_with (skip; fail)
    refine bodyPost_ret (v := .tuple #[.agg #[.int .i64 0, .int .i64 0, .string ⟨#[]⟩, .slice none 0 0], .int .i64 2]) (results_row_tmp rfl _ _ (w.heap.size + 1 + 1) _ _ _ _ _ rfl rfl (set4 (HY.out).b2) Try.underlying24 rfl szNode) rfl (by unfold ApplyC; rw [HR.out]; exact ⟨rfl, (HY.out).chg.andThen (chg4 Y (w.heap.size + 1 + 1) _ _ _ _) (by simp; omega)⟩)
  case neg =>
  rw [decide_eq_false hbig]
  have hdo : applyT t s = doT t s := by unfold applyT; rw [if_pos ⟨by have := HBt.out; omega, by omega⟩]
  have HD := Lib.hid (And.intro hdo (show t.nodes ≤ 2000 ∧ s.sub.nodes ≤ 2000 from ⟨by have := HBt.out; omega, by omega⟩))
  obtain ⟨p0, p1, p2, p3⟩ := blk4 (hUY).b0; obtain ⟨q0, q1, q2, q3, q4, q5, q6, q7, q8⟩ := cells9 (hUY).b1
  clear hY hUY hbig hdo
  by_cases h1 : s.op = 1
  case pos =>
    have hb : (s.op == 1) = true := by simpa using h1
    have hcall := ins09_any t A c s As cs Y (HW.out.2.2.1 Y HY.out.chg) (HW.out.2.2.2.1 Y HY.out.chg) HD.out.2.1 HD.out.2.2
    have HR := Lib.hid (And.intro (show applyT t s = insertT t s.par s.place s.sub by rw [HD.out.1]; unfold doT; rw [if_pos h1]) hcall)
    clear h1 hcall
    go_wp2_with fail
    clear p0 p1 p2 p3 q0 q1 q2 q3 q4 q5 q6 q7 q8
    refine HR.out.2.mono ?_
    rintro e Z hP
    obtain ⟨x, Ax, cx, n, rfl, hZ, hend⟩ := hP.any
    have hUZ := HY.out.kept hZ
    have HZ := Lib.hid (And.intro hUZ hend)
    obtain ⟨r0, r1, r2, r3⟩ := blk4 (hUZ).b2; have f0 := blkF (hUZ).b2 0; have f1 := blkF (hUZ).b2 1; have f2 := blkF (hUZ).b2 2; have f3 := blkF (hUZ).b2 3
    clear hP hZ hend hUZ
    go_wp2_with (skip; fail)
    refine bodyPost_ret (v := .tuple #[.agg #[.int .i64 (Tr.id x), .int .i64 (Tr.kind x), .string (Tr.text x), .slice Ax (Tr.kids x).length cx], .int .i64 n]) (results_row_tmp rfl _ _ (w.heap.size + 1 + 1) _ _ _ _ _ rfl rfl (set4 HZ.out.1.b2) Try.underlying24 rfl szNode) rfl ?_
    rw [HR.out.1]
    exact HZ.out.2 w _ (w.heap.size + 1 + 1) HY.out.chg (lt_of_block HY.out.b2) (by omega) (chg4 _ _ _ _ _ _)
  case neg =>
  have hb1 : (s.op == 1) = false := by simpa using h1
  by_cases h3 : s.op = 3
  case pos =>
    have hb : (s.op == 3) = true := by simpa using h3
    have hcall := mov09_any t A c s As cs Y (HW.out.2.2.1 Y HY.out.chg) HD.out.2.1
    have HR := Lib.hid (And.intro (show applyT t s = moveT t s.id s.par s.place by rw [HD.out.1]; unfold doT; rw [if_neg h1, if_neg (by omega), if_pos h3]) hcall)
    clear h1 h3 hcall
    go_wp2_with fail
    clear p0 p1 p2 p3 q0 q1 q2 q3 q4 q5 q6 q7 q8
    refine HR.out.2.mono ?_
    rintro e Z hP
    obtain ⟨x, Ax, cx, n, rfl, hZ, hend⟩ := hP.any
    have hUZ := HY.out.kept hZ
    have HZ := Lib.hid (And.intro hUZ hend)
    obtain ⟨r0, r1, r2, r3⟩ := blk4 (hUZ).b2; have f0 := blkF (hUZ).b2 0; have f1 := blkF (hUZ).b2 1; have f2 := blkF (hUZ).b2 2; have f3 := blkF (hUZ).b2 3
    clear hP hZ hend hUZ
    go_wp2_with (skip; fail)
    refine bodyPost_ret (v := .tuple #[.agg #[.int .i64 (Tr.id x), .int .i64 (Tr.kind x), .string (Tr.text x), .slice Ax (Tr.kids x).length cx], .int .i64 n]) (results_row_tmp rfl _ _ (w.heap.size + 1 + 1) _ _ _ _ _ rfl rfl (set4 HZ.out.1.b2) Try.underlying24 rfl szNode) rfl ?_
    rw [HR.out.1]
    exact HZ.out.2 w _ (w.heap.size + 1 + 1) HY.out.chg (lt_of_block HY.out.b2) (by omega) (chg4 _ _ _ _ _ _)
  case neg =>
  have hb3 : (s.op == 3) = false := by simpa using h3
  by_cases h24 : s.op = 2 ∨ s.op = 4
  case neg =>
    have hb2 : (s.op != 2) = true := by simp; omega
    have hb4 : (s.op != 4) = true := by simp; omega
    have HR := Lib.hid (show applyT t s = .error 2 by rw [HD.out.1]; unfold doT; rw [if_neg h1, if_neg (by omega), if_neg h3, if_neg (by omega)])
    obtain ⟨r0, r1, r2, r3⟩ := blk4 (HY.out).b2; have f0 := blkF (HY.out).b2 0; have f1 := blkF (HY.out).b2 1; have f2 := blkF (HY.out).b2 2; have f3 := blkF (HY.out).b2 3
    clear h1 h3 h24
    go_wp2_with (skip; fail)
    refine bodyPost_ret (v := .tuple #[.agg #[.int .i64 0, .int .i64 0, .string ⟨#[]⟩, .slice none 0 0], .int .i64 2]) (results_row_tmp rfl _ _ (w.heap.size + 1 + 1) _ _ _ _ _ rfl rfl (set4 (HY.out).b2) Try.underlying24 rfl szNode) rfl (by unfold ApplyC; rw [HR.out]; exact ⟨rfl, (HY.out).chg.andThen (chg4 Y (w.heap.size + 1 + 1) _ _ _ _) (by simp; omega)⟩)
  case pos =>
  have hfind := rfind_any t A c s.id Y (HW.out.2.2.1 Y HY.out.chg) HD.out.2.1
  have hb24 : (s.op != 2) = false ∨ ((s.op != 2) = true ∧ (s.op != 4) = false) := by
    rcases h24 with h | h
    · exact .inl (by simp [h])
    · exact .inr ⟨by simp [h], by simp [h]⟩
  have HO := Lib.hid (And.intro h1 (And.intro h3 (And.intro h24 hfind)))
  clear h1 h3 h24 hfind
  rcases hb24 with hb2 | ⟨hb2, hb4⟩
  all_goals
    go_wp2_with fail
    clear p0 p1 p2 p3 q0 q1 q2 q3 q4 q5 q6 q7 q8
    refine HO.out.2.2.2.mono ?_
    rintro e Z hF
    obtain ⟨x, Ax, cx, rfl, hxn, hTx, hZ⟩ := hF.any
    clear hF
    obtain ⟨V, hV⟩ : ∃ V, V = Z.alloc (.cells #[.int .i64 (Tr.id x), .int .i64 (Tr.kind x), .string (Tr.text x), .slice Ax (Tr.kids x).length cx] 24) := ⟨_, rfl⟩
    have hZV : Chg [] Z V := by rw [hV]; exact (by with_reducible repeat (first | exact Chg.refl _ _ | apply Chg.alloc | apply Chg.drew | apply Chg.drewN | (refine Chg.setCell ?_ _ _ (by simp))))
    have hUV := HY.out.kept (hZ.trans hZV)
    have b6 : V.heap[Z.heap.size]? = some (.cells #[.int .i64 (Tr.id x), .int .i64 (Tr.kind x), .string (Tr.text x), .slice Ax (Tr.kids x).length cx] 24 (0, 0)) := by rw [hV]; exact heap_new _ _ rfl
    have HV := Lib.hid (And.intro hV (And.intro hUV (And.intro b6 ((hTx.kept hZV (by simp)).weak (ok' := fun b => b < V.heap.size) (fun b hb _ => by have := hZ.size; have := hZV.size; omega)))))
    cases hsub : t.subT s.id with
    | none =>
      have hres : applyT t s = .error 4 := by
        rw [HD.out.1]; unfold doT
        rw [if_neg HO.out.1, if_neg HO.out.2.1]
        rcases HO.out.2.2.1 with h | h
        · rw [if_pos h, deleteT_ref, hsub]
        · rw [if_neg (by omega), if_pos h, textT_ref, hsub]
      have HR := Lib.hid hres
      obtain ⟨r0, r1, r2, r3⟩ := blk4 (hUV).b2; have f0 := blkF (hUV).b2 0; have f1 := blkF (hUV).b2 1; have f2 := blkF (hUV).b2 2; have f3 := blkF (hUV).b2 3
      rw [hV] at r0 r1 r2 r3 f0 f1 f2 f3
      clear hsub hres hZ hZV hUV b6 hTx hxn hV
      go_wp2_with (skip; fail)
      rw [← HV.out.1]
      refine bodyPost_ret (v := .tuple #[.agg #[.int .i64 0, .int .i64 0, .string ⟨#[]⟩, .slice none 0 0], .int .i64 4]) (results_row_tmp rfl _ _ (w.heap.size + 1 + 1) _ _ _ _ _ rfl rfl (set4 (HV.out.2.1).b2) Try.underlying24 rfl szNode) rfl (by unfold ApplyC; rw [HR.out]; exact ⟨rfl, (HV.out.2.1).chg.andThen (chg4 V (w.heap.size + 1 + 1) _ _ _ _) (by simp; omega)⟩)
    | some x' =>
      obtain rfl : x = x' := hxn x' hsub
      have HX2 := Lib.hid hsub
      obtain ⟨p0, p1, p2, p3⟩ := blk4 (hUV).b0; obtain ⟨q0, q1, q2, q3, q4, q5, q6, q7, q8⟩ := cells9 (hUV).b1
      obtain ⟨n0, n1, n2, n3⟩ := blk4 b6
      obtain ⟨r0, r1, r2, r3⟩ := blk4 (hUV).b2; have f0 := blkF (hUV).b2 0; have f1 := blkF (hUV).b2 1; have f2 := blkF (hUV).b2 2; have f3 := blkF (hUV).b2 3
      have hxn : x.nodes ≤ 2000 := by obtain ⟨p, _, hat, _⟩ := subT_path hsub; have := Tr.at_nodes p t x hat; have := HD.out.2.1; omega
      have HXn := Lib.hid hxn
      clear hsub hZ hZV hUV b6 hTx
      by_cases h4 : s.op = 4
      case pos =>
        have hb5 : (s.op == 4) = true := by simpa using h4
        obtain ⟨A', c', hcs', hlc', hcm', _, hKx⟩ := HV.out.2.2.2.opens
        simp only [List.cons.injEq, Value.slice.injEq, true_and, and_true] at hcs'
        obtain ⟨rfl, rfl⟩ := hcs'
        have hput := put09_any t A c s.id x.kids Ax cx s.text V (HW.out.2.2.1 V HV.out.2.1.chg) hKx (by have := HD.out.2.1; omega) (by rw [Tr.nodes_eq] at hxn; omega) HW.out.2.2.2.2 hlc' hcm'
        have hres : applyT t s = .ok (makesT s.id x.kids s.text t false).1 := by
          rw [HD.out.1]; unfold doT
          rw [if_neg (by omega), if_neg (by omega), if_neg (by omega), if_pos h4, textT_ref, HX2.out]
        obtain ⟨r, hr⟩ : ∃ r, r = (makesT s.id x.kids s.text t false).1 := ⟨_, rfl⟩
        rw [← hr] at hput hres
        have HR := Lib.hid (And.intro hres hput)
        rw [hV] at p0 p1 p2 p3 q0 q1 q2 q3 q4 q5 q6 q7 q8 n0 n1 n2 n3 r0 r1 r2 r3 f0 f1 f2 f3
        clear h4 hlc' hcm' hKx hput hres hr hV hxn
        go_wp2_with fail
        rw [← HV.out.1]
        clear p0 p1 p2 p3 q0 q1 q2 q3 q4 q5 q6 q7 q8
        clear r0 r1 r2 r3 f0 f1 f2 f3
        clear n0 n1 n2 n3
        refine HR.out.2.mono ?_
        rintro e V2 ⟨Ar, cr, rfl, hVr, hV2⟩
        have hUZ := HV.out.2.1.kept hV2
        have HZ := Lib.hid (And.intro hUZ hVr)
        obtain ⟨r0, r1, r2, r3⟩ := blk4 (hUZ).b2; have f0 := blkF (hUZ).b2 0; have f1 := blkF (hUZ).b2 1; have f2 := blkF (hUZ).b2 2; have f3 := blkF (hUZ).b2 3
        clear hV2 hUZ hVr
        go_wp2_with (skip; fail)
        refine bodyPost_ret (v := .tuple #[.agg #[.int .i64 (Tr.id r), .int .i64 (Tr.kind r), .string (Tr.text r), .slice Ar (Tr.kids r).length cr], .int .i64 0]) (results_row_tmp rfl _ _ (w.heap.size + 1 + 1) _ _ _ _ _ rfl rfl (set4 HZ.out.1.b2) Try.underlying24 rfl szNode) rfl ?_
        have hc4 := chg4 V2 (w.heap.size + 1 + 1) (.int .i64 r.id) (.int .i64 r.kind) (.string r.text) (.slice Ar r.kids.length cr)
        have hs4 := hc4.size
        have h9 := HV.out.2.1.chg.size
        have h92 := lt_of_block HV.out.2.1.b2
        unfold ApplyC
        rw [HR.out.1]
        exact ⟨Ar, cr, rfl, (HZ.out.2.toC.kept hc4 (fun g hg => by simp; omega)).weak (fun g hg _ => ⟨by omega, by omega⟩), HZ.out.1.chg.andThen hc4 (by simp; omega)⟩
      case neg =>
        have hb5 : (s.op == 4) = false := by simpa using h4
        have h2 : s.op = 2 := by have := HO.out.2.2.1; omega
        have hdel : applyT t s = deleteT t s.id := by
          rw [HD.out.1]; unfold doT
          rw [if_neg (by omega), if_pos h2]
        rw [deleteT_ref, HX2.out] at hdel
        simp only [] at hdel
        clear h4 h2
        by_cases h0 : t.id = s.id
        case pos =>
          rw [if_pos h0] at hdel
          have hb6 : (t.id == s.id) = true := by simpa using h0
          have HR := Lib.hid hdel
          rw [hV] at p0 p1 p2 p3 q0 q1 q2 q3 q4 q5 q6 q7 q8 n0 n1 n2 n3 r0 r1 r2 r3 f0 f1 f2 f3
          clear h0 hdel hV hxn
          go_wp2_with (skip; fail)
          rw [← HV.out.1]
          refine bodyPost_ret (v := .tuple #[.agg #[.int .i64 0, .int .i64 0, .string ⟨#[]⟩, .slice none 0 0], .int .i64 90]) (results_row_tmp rfl _ _ (w.heap.size + 1 + 1) _ _ _ _ _ rfl rfl (set4 (HV.out.2.1).b2) Try.underlying24 rfl szNode) rfl (by unfold ApplyC; rw [HR.out]; exact ⟨rfl, (HV.out.2.1).chg.andThen (chg4 V (w.heap.size + 1 + 1) _ _ _ _) (by simp; omega)⟩)
        case neg =>
          rw [if_neg h0] at hdel
          have hb6 : (t.id == s.id) = false := by simpa using h0
          obtain ⟨r, pn, k, ho, hpar, _, hrep⟩ := out_some HX2.out h0
          rw [ho] at hdel
          simp only [] at hdel
          have hwo := without_any t A c s.id pn k V (HW.out.2.2.1 V HV.out.2.1.chg) (by have := HD.out.2.1; omega) hpar
          rw [hrep] at hwo
          have HR := Lib.hid (And.intro hdel hwo)
          rw [hV] at p0 p1 p2 p3 q0 q1 q2 q3 q4 q5 q6 q7 q8 n0 n1 n2 n3 r0 r1 r2 r3 f0 f1 f2 f3
          clear h0 hdel hV hxn ho hpar hrep hwo
          go_wp2_with fail
          rw [← HV.out.1]
          clear p0 p1 p2 p3 q0 q1 q2 q3 q4 q5 q6 q7 q8
          clear r0 r1 r2 r3 f0 f1 f2 f3
          clear n0 n1 n2 n3
          refine HR.out.2.mono ?_
          rintro e V2 ⟨Ar, cr, rfl, hVr, hV2⟩
          have hUZ := HV.out.2.1.kept hV2
          have HZ := Lib.hid (And.intro hUZ hVr)
          obtain ⟨r0, r1, r2, r3⟩ := blk4 (hUZ).b2; have f0 := blkF (hUZ).b2 0; have f1 := blkF (hUZ).b2 1; have f2 := blkF (hUZ).b2 2; have f3 := blkF (hUZ).b2 3
          clear hV2 hUZ hVr
          go_wp2_with (skip; fail)
          refine bodyPost_ret (v := .tuple #[.agg #[.int .i64 (Tr.id r), .int .i64 (Tr.kind r), .string (Tr.text r), .slice Ar (Tr.kids r).length cr], .int .i64 0]) (results_row_tmp rfl _ _ (w.heap.size + 1 + 1) _ _ _ _ _ rfl rfl (set4 HZ.out.1.b2) Try.underlying24 rfl szNode) rfl ?_
          have hc4 := chg4 V2 (w.heap.size + 1 + 1) (.int .i64 r.id) (.int .i64 r.kind) (.string r.text) (.slice Ar r.kids.length cr)
          have hs4 := hc4.size
          have h9 := HV.out.2.1.chg.size
          have h92 := lt_of_block HV.out.2.1.b2
          unfold ApplyC
          rw [HR.out.1]
          exact ⟨Ar, cr, rfl, (HZ.out.2.toC.kept hc4 (fun g hg => by simp; omega)).weak (fun g hg _ => ⟨by omega, by omega⟩), HZ.out.1.chg.andThen hc4 (by simp; omega)⟩
end Go.Proofs.Ytofjocjljbkjgaa
