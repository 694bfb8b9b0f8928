import Derived.Test.YtipijkpjmpejlaaTreeW
/- The contract of the references' walk. -/
set_option linter.unusedVariables false
set_option linter.unusedSimpArgs false
namespace Go.Proofs.Ytipijkpjmpejlaa
open Go.RowKit
/-- What a walk leaves: a longer row. -/
def WalkPost (B base : Nat) (v : Value) (res : List (Tr × Int)) (w : World) (e : Ending) (w' : World) : Prop :=
  ∃ v', e = .returned v' ∧ RowS w' B base v' res ∧ Chg v.ownBlock.toList w w' ∧ (v'.ownBlock = v.ownBlock ∨ ∃ b, v'.ownBlock = some b ∧ w.heap.size ≤ b)
theorem own_next {w w' w'' : World} {v v' v'' : Value} (h1 : v'.ownBlock = v.ownBlock ∨ ∃ b, v'.ownBlock = some b ∧ w.heap.size ≤ b) (h2 : v''.ownBlock = v'.ownBlock ∨ ∃ b, v''.ownBlock = some b ∧ w'.heap.size ≤ b) (h : w.heap.size ≤ w'.heap.size) : v''.ownBlock = v.ownBlock ∨ ∃ b, v''.ownBlock = some b ∧ w.heap.size ≤ b := by
  rcases h2 with h2 | ⟨b, h2, h3⟩
  · rw [h2]; exact h1
  · exact .inr ⟨b, h2, by omega⟩
theorem chg_next {w w' w'' : World} {v v' : Value} (h1 : v'.ownBlock = v.ownBlock ∨ ∃ b, v'.ownBlock = some b ∧ w.heap.size ≤ b) (hc : Chg v.ownBlock.toList w w') (hd : Chg v'.ownBlock.toList w' w'') : Chg v.ownBlock.toList w w'' :=
  hc.andThen hd (fun i hi => by
    rcases h1 with h | ⟨b, h, hb⟩
    · rw [h] at hi; exact .inl hi
    · rw [h] at hi; simp at hi; exact .inr (by omega))
theorem blk_grown_at {w w' : World} {b : Nat} {o : Obj} {row : Option Nat} (h : w.heap[b]? = some o) (hg : w.grownBy w' row) (hn : some b ≠ row) : w'.heap[b]? = some o := (hg.block b (lt_of_block h) hn).trans h
/-- The walk under way: the node's box, the row so far. -/
structure Wk (w wr : World) (B base : Nat) (v vr : Value) (ct : Array Value) (l : List (Tr × Int)) : Prop where
  box : wr.heap[w.heap.size]? = some (.cells ct 37 (0, 0))
  row : RowS wr B base vr l
  chg : Chg v.ownBlock.toList w wr
  own : vr.ownBlock = v.ownBlock ∨ ∃ b, vr.ownBlock = some b ∧ w.heap.size < b
set_option maxHeartbeats 4000000 in
set_option maxRecDepth 100000 in
theorem walk_any (B base m : Nat) (hm : m ≤ 1000000) : ∀ (t : Tr) (A : Option Addr) (c : Nat) (d : Int) (v : Value) (l : List (Tr × Int)) (w : World), TrC (fun g => g < B) w t [.int .i64 (Tr.id t), .int .i64 (Tr.kind t), .string (Tr.text t), .slice A (Tr.kids t).length c] → RowS w B base v l → base ≤ w.heap.size → l.length ≤ m → 0 ≤ d → d ≤ l.length + 1 →
    Calls Try.prog 122 #[v, .agg #[.int .i64 (Tr.id t), .int .i64 (Tr.kind t), .string (Tr.text t), .slice A (Tr.kids t).length c], .int .i64 d, .int .i64 m] w (WalkPost B base v ((l ++ t.walk d).take m) w) := by
  intro t
  induction t using Tr.ind with
  | h t ih =>
  intro A c d v l w hT hR hbase hl hd0 hd1
  obtain ⟨ip, hi, hz0, hz1, hz2⟩ := info_parts infoSpot
  obtain ⟨A', c', hcs, hlc, hcm, htx, hK⟩ := hT.opens
  simp only [List.cons.injEq, Value.slice.injEq, true_and, and_true] at hcs
  obtain ⟨rfl, rfl⟩ := hcs
  obtain ⟨Av, cv, rfl⟩ := hR.slice
  have HI := Lib.hid (And.intro hi (And.intro hz0 (And.intro hz1 hz2)))
  have HH := Lib.hid (And.intro ih (And.intro hK (And.intro hT (And.intro hR (And.intro hm hbase)))))
  clear hi hz0 hz1 hz2 ih hK hT hR hbase
  by_cases hfull : m ≤ l.length
  · have hfb : decide ((m : Int) ≤ (l.length : Int)) = true := by simp; omega
    have hml : m = l.length := by omega
    go_enter Try.func122, Try.ntmps122
    go_wp2
    go_ret
    refine ⟨_, rfl, ?_, (by with_reducible repeat (first | exact Chg.refl _ _ | apply Chg.alloc | apply Chg.drew | apply Chg.drewN | (refine Chg.setCell ?_ _ _ (by simp)))), .inl rfl⟩
    rw [List.take_append_of_le_length (by omega), List.take_of_length_le (by omega)]
    exact HH.out.2.2.2.1.kept (c := []) (by with_reducible repeat (first | exact Chg.refl _ _ | apply Chg.alloc | apply Chg.drew | apply Chg.drewN | (refine Chg.setCell ?_ _ _ (by simp)))) (by simp) (by simp)
  · have hfb : decide ((m : Int) ≤ (l.length : Int)) = false := by simp; omega
    have hbx : ∀ W : World, W = w.alloc (.cells #[.int .i64 t.id, .int .i64 t.kind, .string t.text, .slice A t.kids.length c] 37) → Chg [] w W ∧ W.heap[w.heap.size]? = some (.cells #[.int .i64 t.id, .int .i64 t.kind, .string t.text, .slice A t.kids.length c] 37 (0, 0)) ∧ W.heap.size = w.heap.size + 1 := by rintro W rfl; exact ⟨(by with_reducible repeat (first | exact Chg.refl _ _ | apply Chg.alloc | apply Chg.drew | apply Chg.drewN | (refine Chg.setCell ?_ _ _ (by simp)))), heap_new _ _ rfl, by simp⟩
    have hCa : Chg [] w ((w.alloc (.cells #[.int .i64 t.id, .int .i64 t.kind, .string t.text, .slice A t.kids.length c] 37)).alloc (.cells #[.int .i64 t.id, .int .i64 t.kind, .string t.text, .slice A t.kids.length c, .int .i64 d] 165)).drew := (by with_reducible repeat (first | exact Chg.refl _ _ | apply Chg.alloc | apply Chg.drew | apply Chg.drewN | (refine Chg.setCell ?_ _ _ (by simp))))
    have hCb : Chg [] w ((w.alloc (.cells #[.int .i64 t.id, .int .i64 t.kind, .string t.text, .slice A t.kids.length c] 37)).alloc (.cells #[.int .i64 t.id, .int .i64 t.kind, .string t.text, .slice A t.kids.length c, .int .i64 d] 165)) := (by with_reducible repeat (first | exact Chg.refl _ _ | apply Chg.alloc | apply Chg.drew | apply Chg.drewN | (refine Chg.setCell ?_ _ _ (by simp))))
    obtain ⟨xs, hown, hpush⟩ := HH.out.2.2.2.1.push hCb t d _ HH.out.2.2.1
    have HP := Lib.hid (And.intro hown (And.intro hpush (And.intro hCb HH.out.2.2.2.1.own)))
    clear hown hpush hCa hCb hbx
    go_enter Try.func122, Try.ntmps122
    go_wp2_with (first
      | (refine wpList_append_own_at _ rfl (.tmp 15) (.tmp 19) 162 rfl base 165 ip _ 5 64 Try.underlying162 HI.out.1 HI.out.2.1 HI.out.2.2.1 HI.out.2.2.2 rfl (by omega) (.slice Av l.length cv) _ _ rfl HP.out.1 ⟨w.heap.size + 1, 0, none⟩ 1 1 (#[.int .i64 t.id, .int .i64 t.kind, .string t.text, .slice A t.kids.length c, .int .i64 d]).toList rfl rfl (fun j u hu => by rw [Addr.add_mid]; exact range_all (heap_new _ _ (by simp)) j u hu) (by intro u hu; simp at hu; rcases hu with rfl | rfl | rfl | rfl | rfl <;> rfl) (by unfold maxLen; omega) (by omega) (by have := HH.out.2.2.2.2.2; simp; omega) ?_
         intro v' X hown' hgr _ hat
         have hrow := HP.out.2.1 X v' hown' hgr
         have hbox := blk_grown_at (Go.Proofs.Ytipijkpjmpejlaa.heap_old (heap_new w (.cells #[.int .i64 t.id, .int .i64 t.kind, .string t.text, .slice A t.kids.length c] 37) rfl) (.cells #[.int .i64 t.id, .int .i64 t.kind, .string t.text, .slice A t.kids.length c, .int .i64 d] 165)) hgr (fun e => by have := HP.out.2.2.2 _ e.symm; omega)
         have hCX : Chg (Value.slice Av l.length cv).ownBlock.toList w X := Chg.grown (HP.out.2.2.1.mono (by simp)) hgr (by intro k hk; rw [hk]; simp)
         have hnx : v'.ownBlock = (Value.slice Av l.length cv).ownBlock ∨ ∃ b, v'.ownBlock = some b ∧ w.heap.size < b := by
           rcases hat with h | h
           · exact .inl h
           · exact .inr ⟨_, h, by simp; omega⟩
         have HX := Lib.hid (Wk.mk (w := w) hbox hrow hCX hnx)
         obtain ⟨A', c', rfl⟩ := own_slice hown'
         clear hown' hgr hat hrow hbox hCX hnx)
      | fail)
    have hown0 := Lib.hid HP.out.2.2.2
    clear HP
    go_loopw [0, 9] (fun vs i wr => ∃ (k : Nat) (vr : Value), k ≤ t.kids.length ∧ vr = vs ∧ i = .int .i64 k ∧ Hid (Wk w wr B base (.slice Av l.length cv) vr #[.int .i64 t.id, .int .i64 t.kind, .string t.text, .slice A t.kids.length c] ((l ++ (t, d) :: walkL (t.kids.take k) (d + 1)).take m))) (fun _ i _ => t.kids.length - (intOf i).toNat)
    case atStart =>
      refine ⟨0, _, Nat.zero_le _, rfl, rfl, ?_⟩
      have h := HX.out
      rw [show (l ++ (t, d) :: walkL (t.kids.take 0) (d + 1)).take m = l ++ [(t, d)] from by simp only [List.take_zero, walkL]; rw [List.take_of_length_le (by simp; omega)]]
      exact h
    case round =>
      obtain ⟨k, vr, hk, rfl, rfl, H⟩ := hrel
      clear HX
      have q3 := (blk4 H.out.box).2.2.2
      by_cases hlt : k < t.kids.length
      · obtain ⟨gk, ok, cs, rfl, _, hr, hT⟩ := HH.out.2.1 k _ (List.getElem?_eq_getElem hlt)
        obtain ⟨Ak, ck, rfl, _⟩ := hT.opens
        have hnv : ∀ g, g < B → g ∉ (Value.slice Av l.length cv).ownBlock.toList := fun g hg hm => by have := hown0.out g (by simpa using hm); have := HH.out.2.2.2.1.1; omega
        have hgk : gk ∉ (Value.slice Av l.length cv).ownBlock.toList := hnv gk ‹_›
        have hr' := H.out.chg.range hr hgk
        have hlen : ((l ++ (t, d) :: walkL (t.kids.take k) (d + 1)).take m).length ≤ m := by simp; omega
        have hlen2 : l.length + 1 ≤ ((l ++ (t, d) :: walkL (t.kids.take k) (d + 1)).take m).length := by simp; omega
        have hcall := HH.out.1 _ (List.getElem_mem hlt) Ak ck (d + 1) vr _ wr (hT.kept H.out.chg hnv) H.out.row (by have := H.out.chg.size; have := HH.out.2.2.2.2.2; omega) hlen (by omega) (by omega)
        rw [take_take_append, List.append_assoc, List.cons_append, show walkL (t.kids.take k) (d + 1) ++ (t.kids[k]).walk (d + 1) = walkL (t.kids.take (k + 1)) (d + 1) from by rw [take_snoc' _ _ hlt, walkL_append]; simp [walkL]] at hcall
        have HC := Lib.hid (And.intro hcall hr')
        clear hcall hr hT hnv hgk hr' hlen hlen2
        go_wp2_with (first
          | (refine wpList_load_mid rfl 37 (.tmp 32) rfl gk (ok + k * 4) rfl _ _ HC.out.2 Try.underlying37 rfl szNode ?_)
          | (go_at_call 122; refine HC.out.1.mono ?_; rintro e X ⟨v', rfl, hR, hX, hn⟩; have HX := Lib.hid (And.intro hR (And.intro hX hn)); clear hR hX hn))
        go_roundw
        case rel =>
          have hsz := H.out.chg.size
          have hbx := lt_of_block H.out.box
          have hnb : w.heap.size ∉ vr.ownBlock.toList := fun hm => by
            have hm' : vr.ownBlock = some w.heap.size := by simpa using hm
            rcases H.out.own with h | ⟨b, h, hb⟩
            · rw [h] at hm'; have := hown0.out _ hm'; omega
            · rw [h] at hm'; simp at hm'; omega
          refine ⟨k + 1, v', by omega, rfl, by go_num, HX.out.2.1.at H.out.box hnb, HX.out.1, chg_next (v' := vr) ?_ H.out.chg HX.out.2.1, ?_⟩
          · rcases H.out.own with h | ⟨b, h, hb⟩
            · exact .inl h
            · exact .inr ⟨b, h, by omega⟩
          · rcases HX.out.2.2 with h | ⟨b, h, hb⟩
            · rw [h]; exact H.out.own
            · exact .inr ⟨b, h, by omega⟩
        case measure => simp [intOf]; omega
      · obtain rfl : k = t.kids.length := by omega
        go_wp2
        go_ret
        refine ⟨vr, rfl, ?_, H.out.chg, ?_⟩
        · have h := H.out.row
          rw [List.take_of_length_le (Nat.le_refl _)] at h
          rw [Tr.walk_eq]; exact h
        · rcases H.out.own with h | ⟨b, h, hb⟩
          · exact .inl h
          · exact .inr ⟨b, h, by omega⟩
/-- The walk of a tree, at most m of it. -/
theorem walkT_any (B m : Nat) (hm : m ≤ 1000000) (t : Tr) (A : Option Addr) (c : Nat) (w : World) (hT : TrC (fun g => g < B) w t [.int .i64 (Tr.id t), .int .i64 (Tr.kind t), .string (Tr.text t), .slice A (Tr.kids t).length c]) (hB : B ≤ w.heap.size) :
    Calls Try.prog 106 #[.agg #[.int .i64 (Tr.id t), .int .i64 (Tr.kind t), .string (Tr.text t), .slice A (Tr.kids t).length c], .int .i64 m] w fun e w' => ∃ v, e = .returned v ∧ RowS w' B w.heap.size v ((t.walk 1).take m) ∧ Chg [] w w' := by
  have hA : Chg [] w (w.alloc (.cells #[.int .i64 t.id, .int .i64 t.kind, .string t.text, .slice A t.kids.length c] 37)) := (by with_reducible repeat (first | exact Chg.refl _ _ | apply Chg.alloc | apply Chg.drew | apply Chg.drewN | (refine Chg.setCell ?_ _ _ (by simp))))
  have hc := walk_any B w.heap.size m hm t A c 1 (.slice none 0 0) [] (w.alloc (.cells #[.int .i64 t.id, .int .i64 t.kind, .string t.text, .slice A t.kids.length c] 37)) (hT.kept hA (by simp)) (RowS.nil _ hB) (by simp) (by simp) (by omega) (by simp)
  have HC := Lib.hid (And.intro hc hA)
  clear hc hA hT
  go_enter Try.func106, Try.ntmps106
  go_wp2_with (go_at_call 122; refine HC.out.1.mono ?_; rintro e X ⟨v', rfl, hR, hX, hn⟩; have HX := Lib.hid (And.intro hR hX); clear hR hX hn)
  go_ret
  exact ⟨v', rfl, by simpa using HX.out.1, HC.out.2.trans HX.out.2⟩
end Go.Proofs.Ytipijkpjmpejlaa
