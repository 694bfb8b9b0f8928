import Derived.Test.YtofjocjljbkjgaaFocus
/- The contract of the program's steps: a node moved. -/
set_option linter.unusedVariables false
set_option linter.unusedSimpArgs false
namespace Go.Proofs.Ytofjocjljbkjgaa
open Go.RowKit
/-- A step. -/
structure Stp where
  op : Int
  id : Int
  par : Int
  place : Int
  text : ByteArray
  sub : Tr
theorem find_none {id : Int} {t : Tr} {g o : Nat} {w : World} (h : TrAt (fun _ => True) w g o t) (hp : t.path id = none) : Calls Try.prog 102 #[.pointer (some ⟨g, o, none⟩), .int .i64 id] w fun e w' => e = .returned (.pointer none) ∧ w = w' :=
  (find_any id t g o w h).mono (by
    rintro e w' ⟨rfl, h1⟩
    rcases h1 with ⟨_, h1⟩ | ⟨p, g', o', h1, _⟩
    · exact ⟨h1, rfl⟩
    · rw [hp] at h1; cases h1)
theorem find_some {id : Int} {t : Tr} {g o : Nat} {w : World} {p : List Nat} (h : TrAt (fun _ => True) w g o t) (hp : t.path id = some p) : Calls Try.prog 102 #[.pointer (some ⟨g, o, none⟩), .int .i64 id] w fun e w' => ∃ g' o', e = .returned (.pointer (some ⟨g', o', none⟩)) ∧ NodeAt w g o p g' o' ∧ w = w' :=
  (find_any id t g o w h).mono (by
    rintro e w' ⟨rfl, h1⟩
    rcases h1 with ⟨h1, _⟩ | ⟨p', g', o', h1, h2, h3⟩
    · rw [hp] at h1; cases h1
    · rw [hp] at h1; cases h1; exact ⟨g', o', h3, h2, rfl⟩)
mutual
theorem Tr.path_out (id : Int) : ∀ t : Tr, (t.path id).isSome = true → t.id ≠ id → (t.out id).isSome = true
  | ⟨i, k, x, ks⟩, h, hne => by
    rw [Tr.path, if_neg hne] at h
    have := pathL_out id ks 0 h
    rw [Tr.out]
    cases h1 : outL id ks with
    | none => rw [h1] at this; cases this
    | some y => rfl
theorem pathL_out (id : Int) : ∀ (ks : List Tr) (n : Nat), (pathL id ks n).isSome = true → (outL id ks).isSome = true
  | [], n, h => by simp [pathL] at h
  | k :: ks, n, h => by
    rw [outL]
    by_cases hk : k.id = id
    · rw [if_pos hk]; rfl
    · rw [if_neg hk]
      rw [pathL] at h
      cases hp : k.path id with
      | some q =>
        have := Tr.path_out id k (by rw [hp]; rfl) hk
        cases h1 : k.out id with
        | none => rw [h1] at this; cases this
        | some y => rfl
      | none =>
        rw [hp] at h
        have := pathL_out id ks (n + 1) h
        cases h1 : k.out id with
        | some y => rfl
        | none =>
          cases h2 : outL id ks with
          | none => rw [h2] at this; cases this
          | some y => rfl
end
mutual
theorem Tr.out_nodes (id : Int) : ∀ (t y r : Tr), t.out id = some (y, r) → r.nodes + y.nodes = t.nodes
  | ⟨i, k, x, ks⟩, y, r, h => by
    rw [Tr.out] at h
    cases h1 : outL id ks with
    | none => rw [h1] at h; cases h
    | some z =>
      obtain ⟨z1, z2⟩ := z
      rw [h1] at h
      simp at h
      obtain ⟨rfl, rfl⟩ := h
      have := outL_nodes id ks z1 z2 h1
      simp only [Tr.nodes]; omega
theorem outL_nodes (id : Int) : ∀ (ks : List Tr) (y : Tr) (rs : List Tr), outL id ks = some (y, rs) → nodesL rs + y.nodes = nodesL ks
  | [], y, rs, h => by simp [outL] at h
  | k :: ks, y, rs, h => by
    rw [outL] at h
    by_cases hk : k.id = id
    · rw [if_pos hk] at h; simp at h; obtain ⟨rfl, rfl⟩ := h; simp only [nodesL]; omega
    · rw [if_neg hk] at h
      cases h1 : k.out id with
      | some z =>
        obtain ⟨z1, z2⟩ := z
        rw [h1] at h; simp at h; obtain ⟨rfl, rfl⟩ := h
        have := Tr.out_nodes id k z1 z2 h1
        simp only [nodesL]; omega
      | none =>
        rw [h1] at h
        cases h2 : outL id ks with
        | none => rw [h2] at h; cases h
        | some z =>
          obtain ⟨z1, z2⟩ := z
          rw [h2] at h; simp at h; obtain ⟨rfl, rfl⟩ := h
          have := outL_nodes id ks z1 z2 h2
          simp only [nodesL]; omega
end
theorem Tr.at_nodes : ∀ (p : List Nat) (t x : Tr), Tr.at? p t = some x → x.nodes ≤ t.nodes
  | [], t, x, h => by simp [Tr.at?] at h; rw [h]; omega
  | i :: p, t, x, h => by
    simp only [Tr.at?] at h
    cases hk : t.kids[i]? with
    | none => rw [hk] at h; cases h
    | some k =>
      rw [hk] at h
      have h1 := Tr.at_nodes p k x h
      have h2 := nodesL_mem (List.mem_of_getElem? hk)
      rw [Tr.nodes_eq t]; omega
/-- What a move does: an error, or a tree. -/
def moveT (t : Tr) (id par pl : Int) : Except Int Tr :=
  match t.path id, t.path par with
  | some p, some _ => if t.id = id then .error 90 else match Tr.at? p t with
    | none => .error 1
    | some x => if (x.path par).isSome then .error 91 else match t.out id with
      | none => .error 1
      | some (y, r) => match r.path par with
        | none => .error 2
        | some q => match Tr.at? q r with
          | none => .error 1
          | some n => if 0 ≤ pl ∧ pl ≤ n.kids.length then .ok (Tr.upd q r { n with kids := insAt n.kids pl.toNat y }) else .error 2
  | _, _ => .error 4
/-- What a step on a tree of its own leaves. -/
def DoPost (res : Except Int Tr) (g o : Nat) (F : Nat → Prop) (w : World) (e : Ending) (w' : World) : Prop :=
  match res with
  | .error n => e = .returned (.int .i64 n) ∧ Fr g o F w w'
  | .ok t' => e = .returned (.int .i64 0) ∧ Fr g o F w w' ∧ ∃ Fn, MutAt w' g o t' Fn ∧ ∀ y, Fn y → F y ∨ w.heap.size ≤ y
theorem Fr.trans2 {g o : Nat} {F F' : Nat → Prop} {a b c : World} (h : Fr g o F a b) (k : Fr g o F' b c) (hF : ∀ y, F' y → F y ∨ a.heap.size ≤ y) : Fr g o F a c :=
  ⟨k.os.trans h.os, k.tape.trans h.tape, k.output.trans h.output, Nat.le_trans h.size k.size, fun i hi h1 h2 => (k.block i (Nat.lt_of_lt_of_le hi h.size) h1 (fun hf => by rcases hF i hf with h | h; exact h2 h; omega)).trans (h.block i hi h1 h2), fun j hj => (k.cell j hj).trans (h.cell j hj), fun C ty hC => by obtain ⟨C', h1⟩ := h.shape C ty hC; exact k.shape C' ty h1⟩
theorem Fr.same {w : World} {g o : Nat} {F : Nat → Prop} (h : g < w.heap.size) : Fr g o F w w := Fr.of_chg (Chg.refl _ _) h
theorem Fr.at {g o : Nat} {F : Nat → Prop} {w w' : World} (h : Fr g o F w w') {b : Nat} {ob : Obj} (hb : w.heap[b]? = some ob) (h1 : b ≠ g) (h2 : ¬ F b) : w'.heap[b]? = some ob := (h.block b (lt_of_block hb) h1 h2).trans hb
set_option maxHeartbeats 4000000 in
set_option maxRecDepth 100000 in
theorem move_any (t : Tr) (s : Stp) (g o gs : Nat) (F : Nat → Prop) (As : Option Addr) (cs : Nat) (w : World) (hM : MutAt w g o t F) (hs : w.heap[gs]? = some (.cells #[.int .i8 (Stp.op s), .int .i64 (Stp.id s), .int .i64 (Stp.par s), .int .i64 (Stp.place s), .string (Stp.text s), .int .i64 (Stp.sub s).id, .int .i64 (Stp.sub s).kind, .string (Stp.sub s).text, .slice As (Stp.sub s).kids.length cs] 27 (0, 0))) (hgs : gs ≠ g) (hFs : ¬ F gs) (hN : t.nodes ≤ 100000) :
    Calls Try.prog 104 #[.pointer (some ⟨g, o, none⟩), .pointer (some ⟨gs, 0, none⟩)] w (DoPost (moveT t s.id s.par s.place) g o F w) := by
  have s1 : w.cell? ⟨gs, 1, none⟩ = some (.int .i64 s.id) := by simp [World.cell?, hs]
  have s2 : w.cell? ⟨gs, 2, none⟩ = some (.int .i64 s.par) := by simp [World.cell?, hs]
  have s3 : w.cell? ⟨gs, 3, none⟩ = some (.int .i64 s.place) := by simp [World.cell?, hs]
  have hg := hM.glt
  have hA := hM.toAt
  cases hp : t.path s.id with
  | none =>
    have hc := find_none hA hp
    have HP := Lib.hid (And.intro hc hp)
    clear hc hp hM hs hA
    go_enter Try.func104, Try.ntmps104
    go_wp2_with (go_at_call 102; refine HP.out.1.mono ?_; rintro e X ⟨rfl, rfl⟩)
    go_ret
    unfold DoPost moveT
    rw [HP.out.2]
    exact ⟨rfl, Fr.same hg⟩
  | some p =>
    cases hq : t.path s.par with
    | none =>
      have hc := find_some hA hp
      have hc2 := find_none hA hq
      have HP := Lib.hid (And.intro hc (And.intro hc2 (And.intro hp hq)))
      clear hc hc2 hp hq hM hs hA
      go_enter Try.func104, Try.ntmps104
      go_wp2_with fail
      refine HP.out.1.mono ?_
      rintro e X ⟨g', o', rfl, hn, rfl⟩
      clear hn
      go_wp2_with fail
      refine HP.out.2.1.mono ?_
      rintro e X ⟨rfl, rfl⟩
      go_wp2
      go_ret
      unfold DoPost moveT
      rw [HP.out.2.2.1, HP.out.2.2.2]
      exact ⟨rfl, Fr.same hg⟩
    | some p2 =>
      have hc := find_some hA hp
      have hc2 := find_some hA hq
      obtain ⟨A, c, d0, _⟩ := hA.cells
      by_cases hroot : t.id = s.id
      · have hb : (t.id == s.id) = true := by simpa using hroot
        have HP := Lib.hid (And.intro hc (And.intro hc2 (And.intro hp (And.intro hq hroot))))
        clear hc hc2 hp hq hM hs hA hroot
        go_enter Try.func104, Try.ntmps104
        go_wp2_with fail
        refine HP.out.1.mono ?_
        rintro e X ⟨g', o', rfl, hn, rfl⟩
        clear hn
        go_wp2_with fail
        refine HP.out.2.1.mono ?_
        rintro e X ⟨g2, o2, rfl, hn, rfl⟩
        clear hn
        go_wp2_with fail
        go_quiet (fail)
        go_wp2
        go_ret
        unfold DoPost moveT
        rw [HP.out.2.2.1, HP.out.2.2.2.1]
        simp only [HP.out.2.2.2.2, if_true]
        exact ⟨rfl, Fr.of_chg ((Chg.refl _ _).drewN _) hg⟩
      · have hb : (t.id == s.id) = false := by simpa using hroot
        obtain ⟨x, hx, _⟩ := Tr.path_at s.id t p hp
        have HP := Lib.hid (And.intro hc (And.intro hc2 (And.intro hp (And.intro hq (And.intro hroot (And.intro hx (And.intro hM hs)))))))
        clear hc hc2 hp hq hM hs hA hx hroot
        go_enter Try.func104, Try.ntmps104
        go_wp2_with fail
        refine HP.out.1.mono ?_
        rintro e X ⟨g', o', rfl, hn, rfl⟩
        have HN := Lib.hid hn
        clear hn
        go_wp2_with fail
        refine HP.out.2.1.mono ?_
        rintro e X ⟨g2, o2, rfl, hn, rfl⟩
        clear hn
        go_wp2_with fail
        go_quiet (fail)
        obtain ⟨X, hXe⟩ : ∃ X, X = w.drewN nq := ⟨_, rfl⟩
        have hX : Chg [] w X := by rw [hXe]; exact (Chg.refl _ _).drewN _
        rw [← hXe]
        clear hXe
        have hMX := HP.out.2.2.2.2.2.2.1.kept hX (by simp) (by simp)
        have hsX := hX.at HP.out.2.2.2.2.2.2.2 (by simp)
        obtain ⟨F', hMf, _⟩ := HP.out.2.2.2.2.2.2.1.focus HN.out HP.out.2.2.2.2.2.1
        have hAx := (hMf.kept hX (by simp) (by simp)).toAt
        have x1 := hX.cell s1 (by simp)
        have x2 := hX.cell s2 (by simp)
        cases hl : x.path s.par with
        | some p3 =>
          have hc := find_some hAx hl
          have HC := Lib.hid (And.intro hc (And.intro hl hX))
          clear hc hl hX hMX hsX hMf hAx
          go_wp2_with fail
          refine HC.out.1.mono ?_
          rintro e X' ⟨g3, o3, rfl, hn, rfl⟩
          clear hn
          go_wp2
          go_ret
          unfold DoPost moveT
          rw [HP.out.2.2.1, HP.out.2.2.2.1]
          simp only [HP.out.2.2.2.2.1, if_false, HP.out.2.2.2.2.2.1, HC.out.2.1, Option.isSome_some, if_true]
          exact ⟨rfl, Fr.of_chg HC.out.2.2 hg⟩
        | none =>
          have hc := find_none hAx hl
          have hout := Tr.path_out s.id t (by rw [HP.out.2.2.1]; rfl) HP.out.2.2.2.2.1
          cases ho : t.out s.id with
          | none => rw [ho] at hout; cases hout
          | some yr =>
            obtain ⟨y, r⟩ := yr
            have ht := take_any s.id t g o F X hMX hN
            unfold TakePost at ht
            rw [ho] at ht
            have hrn := Tr.out_nodes s.id t y r ho
            have HC := Lib.hid (And.intro hc (And.intro ht (And.intro hl (And.intro hX (And.intro hsX (And.intro hMX (And.intro ho hrn)))))))
            clear hc ht hl hX hMX hsX hMf hAx ho hout hrn
            go_wp2_with fail
            refine HC.out.1.mono ?_
            rintro e X' ⟨rfl, rfl⟩
            go_wp2_with (go_at_call 103; refine HC.out.2.1.mono ?_; rintro e Y ⟨Ay, cy, Fx, Ft, rfl, hTy, hMy, hFx, hFt, hfr⟩
                         have HY := Lib.hid (And.intro hTy (And.intro hMy (And.intro hFx (And.intro hFt hfr))))
                         have hsY := hfr.at HC.out.2.2.2.2.1 hgs hFs
                         obtain ⟨Z, hZe⟩ : ∃ Z, Z = Y.alloc (.cells #[.int .i64 (Tr.id y), .int .i64 (Tr.kind y), .string (Tr.text y), .slice Ay (Tr.kids y).length cy] 24) := ⟨_, rfl⟩
                         have hYZ : Chg [] Y Z := by rw [hZe]; exact (Chg.refl _ _).alloc _
                         have hZb : Z.heap[Y.heap.size]? = some (.cells #[.int .i64 (Tr.id y), .int .i64 (Tr.kind y), .string (Tr.text y), .slice Ay (Tr.kids y).length cy] 24 (0, 0)) := by rw [hZe]; exact heap_new _ _ rfl
                         have hsZ := hYZ.at hsY (by simp)
                         have y1 : (Y.alloc (.cells #[.int .i64 (Tr.id y), .int .i64 (Tr.kind y), .string (Tr.text y), .slice Ay (Tr.kids y).length cy] 24)).cell? ⟨gs, 1, none⟩ = some (.int .i64 s.id) := by rw [← hZe]; simp [World.cell?, hsZ]
                         have y2 : (Y.alloc (.cells #[.int .i64 (Tr.id y), .int .i64 (Tr.kind y), .string (Tr.text y), .slice Ay (Tr.kids y).length cy] 24)).cell? ⟨gs, 2, none⟩ = some (.int .i64 s.par) := by rw [← hZe]; simp [World.cell?, hsZ]
                         have HSZ := Lib.hid (And.intro hsZ (And.intro hYZ (And.intro hZb hZe)))
                         clear hsZ hYZ hZb hZe hTy hMy hFx hFt hfr hsY)
            rw [← HSZ.out.2.2.2]
            clear y1 y2
            have z2 : Z.cell? ⟨gs, 2, none⟩ = some (.int .i64 s.par) := by simp [World.cell?, HSZ.out.1]
            have z3 : Z.cell? ⟨gs, 3, none⟩ = some (.int .i64 s.place) := by simp [World.cell?, HSZ.out.1]
            have hMZ := HY.out.2.1.kept HSZ.out.2.1 (by simp) (by simp)
            have hfrZ : Fr g o F w Z := (Fr.of_chg HC.out.2.2.2.1 hg).trans (HY.out.2.2.2.2.trans (Fr.of_chg HSZ.out.2.1 HY.out.2.1.glt))
            have hmv : moveT t s.id s.par s.place = match r.path s.par with | none => .error 2 | some q => match Tr.at? q r with | none => .error 1 | some n => if 0 ≤ s.place ∧ s.place ≤ n.kids.length then .ok (Tr.upd q r { n with kids := insAt n.kids s.place.toNat y }) else .error 2 := by
              unfold moveT
              rw [HP.out.2.2.1, HP.out.2.2.2.1]
              simp only [HP.out.2.2.2.2.1, if_false, HP.out.2.2.2.2.2.1, HC.out.2.2.1, Option.isSome_none, Bool.false_eq_true, HC.out.2.2.2.2.2.2.1]
            cases hq : r.path s.par with
            | none =>
              rw [hq] at hmv
              have hc := find_none hMZ.toAt hq
              have HD := Lib.hid (And.intro hc (And.intro hmv hfrZ))
              clear hc hmv hfrZ hMZ hq
              refine HD.out.1.mono ?_
              rintro e X' ⟨rfl, rfl⟩
              go_wp2_with fail
              go_quiet (fail)
              go_wp2
              go_ret
              unfold DoPost
              rw [HD.out.2.1]
              exact ⟨rfl, HD.out.2.2.trans (Fr.of_chg ((Chg.refl _ _).drewN _) (Nat.lt_of_lt_of_le hg HD.out.2.2.size))⟩
            | some q =>
              obtain ⟨n, hn, _⟩ := Tr.path_at s.par r q hq
              rw [hq] at hmv
              simp only [hn] at hmv
              have hc := find_some hMZ.toAt hq
              have hnn := Tr.at_nodes q r n hn
              have HD := Lib.hid (And.intro hc (And.intro hmv (And.intro hfrZ (And.intro hMZ (And.intro hn hnn)))))
              clear hc hmv hfrZ hMZ hq hn hnn
              refine HD.out.1.mono ?_
              rintro e X' ⟨g5, o5, rfl, hnode, rfl⟩
              obtain ⟨F5, hM5, hF5, hg5, hset⟩ := HD.out.2.2.2.1.focus hnode HD.out.2.2.2.2.1
              obtain ⟨A5, c5, n0, n1, n2, n3, hl5, hm5, _⟩ := hM5.toAt.cells
              have HF := Lib.hid (And.intro hM5 (And.intro hF5 (And.intro hg5 hset)))
              clear hM5 hF5 hg5 hset hnode n0 n1 n2
              by_cases hneg : s.place < 0
              · have b1 : decide (s.place < 0) = true := by simpa using hneg
                have HNg := Lib.hid hneg
                clear hneg
                go_wp2_with fail
                go_quiet (fail)
                go_wp2
                go_ret
                unfold DoPost
                rw [HD.out.2.1, if_neg (fun h => by have := HNg.out; omega)]
                exact ⟨rfl, HD.out.2.2.1.trans (Fr.of_chg ((Chg.refl _ _).drewN _) (Nat.lt_of_lt_of_le hg HD.out.2.2.1.size))⟩
              · have b1 : decide (s.place < 0) = false := by simpa using hneg
                by_cases hbig : (n.kids.length : Int) < s.place
                · have b2 : decide ((n.kids.length : Int) < s.place) = true := by simpa using hbig
                  have HNg := Lib.hid hbig
                  clear hneg hbig
                  go_wp2_with fail
                  go_quiet (fail)
                  go_wp2
                  go_ret
                  unfold DoPost
                  rw [HD.out.2.1, if_neg (fun h => by have := HNg.out; omega)]
                  exact ⟨rfl, HD.out.2.2.1.trans (Fr.of_chg ((Chg.refl _ _).drewN _) (Nat.lt_of_lt_of_le hg HD.out.2.2.1.size))⟩
                · have b2 : decide ((n.kids.length : Int) < s.place) = false := by simpa using hbig
                  go_wp2_with fail
                  go_quiet (fail)
                  obtain ⟨V, hVe⟩ : ∃ V, V = Z.drewN nq := ⟨_, rfl⟩
                  have hZV : Chg [] Z V := by rw [hVe]; exact (Chg.refl _ _).drewN _
                  rw [← hVe]
                  obtain ⟨pl, hpl⟩ : ∃ pl : Nat, s.place = pl := ⟨s.place.toNat, by omega⟩
                  have hpn : pl ≤ n.kids.length := by omega
                  have hif : (0 ≤ s.place ∧ s.place ≤ n.kids.length) := ⟨hneg, hbig⟩
                  have hplt : s.place.toNat = pl := by omega
                  have v3 : V.cell? ⟨gs, 3, none⟩ = some (.int .i64 (pl : Int)) := by rw [← hpl]; exact hZV.cell z3 (by simp)
                  have hyV : V.rangeAt Y.heap.size 0 [.int .i64 (Tr.id y), .int .i64 (Tr.kind y), .string (Tr.text y), .slice Ay (Tr.kids y).length cy] := range_all (hZV.at HSZ.out.2.2.1 (by simp))
                  have hVd : Chg [] Z V.drew := hZV.drew
                  have hM5 := HF.out.1
                  have hF5 := HF.out.2.1
                  have hFx := HY.out.2.2.1
                  have hyx : ∀ z, Fx z → ¬ F5 z ∧ z ≠ g5 ∧ z < Y.heap.size := fun z hz => by
                    obtain ⟨h1, h2, h3, h4⟩ := hFx z hz
                    refine ⟨fun h => h4 (hF5 z h), fun e => ?_, h2⟩
                    rcases HF.out.2.2.1 with h | h
                    · exact h3 (e.trans h)
                    · exact h4 (by rw [e]; exact h)
                  have hYV : Chg [] Y V.drew := HSZ.out.2.1.trans hVd
                  have hc5 := put_any n y pl g5 o5 F5 Fx Ay cy V.drew (hM5.kept hVd (by simp) (by simp)) (HY.out.1.kept hYV (by simp)) (fun z hz => ⟨(hyx z hz).1, (hyx z hz).2.1, Nat.lt_of_lt_of_le (hyx z hz).2.2 hYV.size⟩) hpn (by have := nodesL_len n.kids; have := n.nodes_eq; have := HD.out.2.2.2.2.2; have := HC.out.2.2.2.2.2.2.2; omega)
                  have HE := Lib.hid (And.intro hc5 (And.intro hVd (And.intro hyV (And.intro hif hplt))))
                  clear hVe hZV hpl hpn hif hplt hyV hVd hM5 hF5 hFx hyx hYV hc5 hneg hbig
                  go_wp2_with fail
                  refine wp_region_M (fun _ => True) (fun k => [6].contains k) (fun k => [6].contains k) (by kernel_rfl) ?_
                  ((try dsimp only); (try simp only [Act.put, List.setIfInBounds_toArray, List.set_cons_zero, List.set_cons_succ]))
                  refine M_pure (i := 0) (v := ?_) rfl (by kernel_rfl) (by kernel_rfl) (by kernel_rfl) (fun _ _ _ h => h) (by rfl) ?hy ?_; (case hy => (intro w; go_simp; with_reducible rfl)); ((try dsimp only); (try simp only [Act.put, List.setIfInBounds_toArray, List.set_cons_zero, List.set_cons_succ]))
                  refine M_pure (i := 1) (v := ?_) rfl (by kernel_rfl) (by kernel_rfl) (by kernel_rfl) (fun _ _ _ h => h) (by rfl) ?hy ?_; (case hy => (intro w; go_simp; with_reducible rfl)); ((try dsimp only); (try simp only [Act.put, List.setIfInBounds_toArray, List.set_cons_zero, List.set_cons_succ]))
                  refine M_pure (i := 2) (v := ?_) rfl (by kernel_rfl) (by kernel_rfl) (by kernel_rfl) (fun _ _ _ h => h) (by rfl) ?hy ?_; (case hy => (intro w; go_simp; with_reducible rfl)); ((try dsimp only); (try simp only [Act.put, List.setIfInBounds_toArray, List.set_cons_zero, List.set_cons_succ]))
                  refine M_pure (i := 3) (v := ?_) rfl (by kernel_rfl) (by kernel_rfl) (by kernel_rfl) (fun _ _ _ h => h) (by rfl) ?hy ?_; (case hy => (intro w; go_simp; with_reducible rfl)); ((try dsimp only); (try simp only [Act.put, List.setIfInBounds_toArray, List.set_cons_zero, List.set_cons_succ]))
                  refine M_take (i := 4) (v := ?_) rfl (by kernel_rfl) (by kernel_rfl) (by kernel_rfl) (by kernel_rfl) (fun _ _ _ h => h) (by rfl) ?hy ?_; (case hy => (go_simp; with_reducible rfl)); ((try dsimp only); (try simp only [Act.put, List.setIfInBounds_toArray, List.set_cons_zero, List.set_cons_succ]))
                  refine M_take (i := 5) rfl (by kernel_rfl) (by kernel_rfl) (by kernel_rfl) (by kernel_rfl) (fun _ _ _ h => h) (by rfl) (exec_load_mid 24 (.tmp 6) rfl Y.heap.size 0 rfl _ _ (w := V.drew) HE.out.2.2.1 Try.underlying24 rfl szNode) ?_; ((try dsimp only); (try simp only [Act.put, List.setIfInBounds_toArray, List.set_cons_zero, List.set_cons_succ]))
                  refine M_brk (i := 6) rfl (by kernel_rfl) (by rfl) (by rfl) ?_
                  go_wp2_with (go_at_call 132; refine HE.out.1.mono ?_; rintro e U ⟨Ft2, rfl, hMU, hFt2, hfrU⟩; have HU := Lib.hid (And.intro hMU (And.intro hFt2 hfrU)); clear hMU hFt2 hfrU)
                  refine M_done (by kernel_rfl) ?_ _
                  go_wp2
                  go_ret
                  have hXs := HC.out.2.2.2.1.size
                  have hYs := HY.out.2.2.2.2.size
                  have hZs := HSZ.out.2.1.size
                  have hVs := HE.out.2.1.size
                  have hFt := HY.out.2.2.2.1
                  have hMt := HY.out.2.1
                  obtain ⟨Fn, k1, k2, k3⟩ := HF.out.2.2.2 U _ Ft2 ((Fr.of_chg HE.out.2.1 HF.out.1.glt).trans HU.out.2.2) HU.out.1 (fun z hz => by
                    rcases HU.out.2.1 z hz with h | h | h
                    · exact .inl h
                    · obtain ⟨_, _, h3, h4⟩ := HY.out.2.2.1 z h
                      exact .inr ⟨h4, h3⟩
                    · exact .inr ⟨fun h' => by have := hMt.lt z h'; omega, fun e => by have := hMt.glt; omega⟩)
                  unfold DoPost
                  rw [HD.out.2.1, if_pos HE.out.2.2.2.1, HE.out.2.2.2.2]
                  refine ⟨rfl, HD.out.2.2.1.trans2 k2 (fun z hz => ?_), Fn, k1, fun z hz => ?_⟩
                  · rcases hFt z hz with h | h
                    · exact .inl h
                    · exact .inr (by omega)
                  · have old : Ft z → F z ∨ w.heap.size ≤ z := fun h => by
                      rcases hFt z h with h | h
                      · exact .inl h
                      · exact .inr (by omega)
                    rcases k3 z hz with h | h
                    · exact old h
                    · rcases HU.out.2.1 z h with h | h | h
                      · exact old (HF.out.2.1 z h)
                      · rcases (HY.out.2.2.1 z h).1 with h | h
                        · exact .inl h
                        · exact .inr (by omega)
                      · exact .inr (by omega)
end Go.Proofs.Ytofjocjljbkjgaa
