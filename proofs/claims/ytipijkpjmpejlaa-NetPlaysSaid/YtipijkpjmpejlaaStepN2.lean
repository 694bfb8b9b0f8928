import Derived.Test.YtipijkpjmpejlaaStepN
/- The law's step: Take, Look, and telling. -/
set_option linter.unusedVariables false
set_option linter.unusedSimpArgs false
namespace Go.Proofs.Ytipijkpjmpejlaa
open Go.RowKit
def lookM (l : List (Msg × Bool)) (k : Int) : Msg := match kth l k with | some x => x.1 | none => bareM 0 0 0
def lookH (l : List (Msg × Bool)) (k : Int) : Bool := match kth l k with | some x => x.2 | none => false
def takeL (l : List (Msg × Bool)) (k : Int) : List (Msg × Bool) := if 0 ≤ k ∧ k < l.length then l.eraseIdx k.toNat else l
theorem kth_none {l : List (Msg × Bool)} {k : Int} (h : ¬ (0 ≤ k ∧ k < l.length)) : kth l k = none := if_neg h
theorem kth_some {l : List (Msg × Bool)} {k : Int} {x : Msg × Bool} (h0 : 0 ≤ k) (hx : l[k.toNat]? = some x) : kth l k = some x ∧ (0 ≤ k ∧ k < l.length) := by
  have hlt := (List.getElem?_eq_some_iff.1 hx).1
  have h : 0 ≤ k ∧ k < l.length := ⟨h0, by omega⟩
  exact ⟨by rw [kth, if_pos h]; exact hx, h⟩
theorem look_c {l : List (Msg × Bool)} {k : Int} {w w' : World} {e : Ending} (h : LookPost l k w e w') : ∃ A c B d, e = .returned (.tuple #[.agg #[.int .i8 (Msg.kind (lookM l k)), .int .i64 (Msg.frm (lookM l k)), .int .i64 (Msg.to (lookM l k)), .int .i64 (Msg.boot (lookM l k)), .int .i64 (Msg.server (lookM l k)), .int .i64 (Msg.number (lookM l k)), .int .i64 (Msg.node (lookM l k)), .int .i64 (Msg.lease (lookM l k)), .int .i64 (Msg.epoch (lookM l k)), .int .i64 (Msg.version (lookM l k)), .int .i64 (Msg.e (lookM l k)), .slice B (Msg.steps (lookM l k)).length d, .int .i64 (Msg.tree (lookM l k)).id, .int .i64 (Msg.tree (lookM l k)).kind, .string (Msg.tree (lookM l k)).text, .slice A (Msg.tree (lookM l k)).kids.length c], .bool (lookH l k), .int .i64 (holdCode l k)]) ∧ MsgC (fun b => w.heap.size ≤ b ∧ b < w'.heap.size) w' (lookM l k) A c B d ∧ Chg [] w w' := by
  rcases h with ⟨h1, rfl, hc⟩ | ⟨x, A, c, B, d, h0, hx, rfl, hM, hc⟩
  · have hk := kth_none h1
    have e1 : lookM l k = bareM 0 0 0 := by simp [lookM, hk]
    have e2 : lookH l k = false := by simp [lookH, hk]
    have e3 : holdCode l k = 4 := if_neg h1
    rw [e1, e2, e3]
    exact ⟨none, 0, none, 0, rfl, bareM_c _ _ _ _ _, hc⟩
  · obtain ⟨hk, hk2⟩ := kth_some h0 hx
    have e1 : lookM l k = x.1 := by simp [lookM, hk]
    have e2 : lookH l k = x.2 := by simp [lookH, hk]
    have e3 : holdCode l k = 0 := if_pos hk2
    rw [e1, e2, e3]
    exact ⟨A, c, B, d, rfl, hM, hc⟩
theorem take_c {g : Nat} {l : List (Msg × Bool)} {N : Nat → Prop} {k : Int} {w w' : World} {e : Ending} (hN : NetV w g l N) (h : TakePost g l N k w e w') : ∃ A c B d, e = .returned (.tuple #[.agg #[.int .i8 (Msg.kind (lookM l k)), .int .i64 (Msg.frm (lookM l k)), .int .i64 (Msg.to (lookM l k)), .int .i64 (Msg.boot (lookM l k)), .int .i64 (Msg.server (lookM l k)), .int .i64 (Msg.number (lookM l k)), .int .i64 (Msg.node (lookM l k)), .int .i64 (Msg.lease (lookM l k)), .int .i64 (Msg.epoch (lookM l k)), .int .i64 (Msg.version (lookM l k)), .int .i64 (Msg.e (lookM l k)), .slice B (Msg.steps (lookM l k)).length d, .int .i64 (Msg.tree (lookM l k)).id, .int .i64 (Msg.tree (lookM l k)).kind, .string (Msg.tree (lookM l k)).text, .slice A (Msg.tree (lookM l k)).kids.length c], .int .i64 (holdCode l k)]) ∧ MsgC (fun b => w.heap.size ≤ b ∧ b < w'.heap.size) w' (lookM l k) A c B d ∧ NetPost g (takeL l k) N w w' := by
  rcases h with ⟨h1, rfl, hc⟩ | ⟨x, A, c, B, d, h0, hx, rfl, hM, hP⟩
  · have hk := kth_none h1
    have e1 : lookM l k = bareM 0 0 0 := by simp [lookM, hk]
    have e3 : holdCode l k = 4 := if_neg h1
    have e4 : takeL l k = l := if_neg h1
    rw [e1, e3, e4]
    exact ⟨none, 0, none, 0, rfl, bareM_c _ _ _ _ _, NetPost.same hN hc⟩
  · obtain ⟨hk, hk2⟩ := kth_some h0 hx
    have e1 : lookM l k = x.1 := by simp [lookM, hk]
    have e3 : holdCode l k = 0 := if_pos hk2
    have e4 : takeL l k = l.eraseIdx k.toNat := if_pos hk2
    rw [e1, e3, e4]
    exact ⟨A, c, B, d, rfl, hM, hP⟩
theorem rtake_c {r : Nat} {l : List (Msg × Bool)} {M : Nat → Prop} {k : Int} {w w' : World} {e : Ending} (hM : RNetV w r l M) (h : RTakePost r l M k w e w') : ∃ A c B d, e = .returned (.tuple #[.agg #[.int .i8 (Msg.kind (lookM l k)), .int .i64 (Msg.frm (lookM l k)), .int .i64 (Msg.to (lookM l k)), .int .i64 (Msg.boot (lookM l k)), .int .i64 (Msg.server (lookM l k)), .int .i64 (Msg.number (lookM l k)), .int .i64 (Msg.node (lookM l k)), .int .i64 (Msg.lease (lookM l k)), .int .i64 (Msg.epoch (lookM l k)), .int .i64 (Msg.version (lookM l k)), .int .i64 (Msg.e (lookM l k)), .slice B (Msg.steps (lookM l k)).length d, .int .i64 (Msg.tree (lookM l k)).id, .int .i64 (Msg.tree (lookM l k)).kind, .string (Msg.tree (lookM l k)).text, .slice A (Msg.tree (lookM l k)).kids.length c], .int .i64 (holdCode l k)]) ∧ MsgC (fun b => w.heap.size ≤ b ∧ b < w'.heap.size) w' (lookM l k) A c B d ∧ RNetPost r (takeL l k) M w w' := by
  rcases h with ⟨h1, rfl, hc⟩ | ⟨x, A, c, B, d, h0, hx, rfl, hM', hP⟩
  · have hk := kth_none h1
    have e1 : lookM l k = bareM 0 0 0 := by simp [lookM, hk]
    have e3 : holdCode l k = 4 := if_neg h1
    have e4 : takeL l k = l := if_neg h1
    rw [e1, e3, e4]
    exact ⟨none, 0, none, 0, rfl, bareM_c _ _ _ _ _, RNetPost.same hM hc⟩
  · obtain ⟨hk, hk2⟩ := kth_some h0 hx
    have e1 : lookM l k = x.1 := by simp [lookM, hk]
    have e3 : holdCode l k = 0 := if_pos hk2
    have e4 : takeL l k = l.eraseIdx k.toNat := if_pos hk2
    rw [e1, e3, e4]
    exact ⟨A, c, B, d, rfl, hM', hP⟩
set_option maxHeartbeats 4000000 in
set_option maxRecDepth 100000 in
theorem step1_any (w0 w : World) (g r : Nat) (l : List (Msg × Bool)) (kv : Int) (m : Msg) (A : Option Addr) (c : Nat) (B : Option Addr) (d : Nat) (hN : Nets w0 w g r l) (hM : MsgC (fun b => b < w0.heap.size) w m A c B d) (hF : m.Fit) :
    Calls Try.prog 53 #[.pointer (some ⟨g, 0, none⟩), .pointer (some ⟨r, 0, none⟩), .agg #[.int .i64 1, .int .i64 kv, .int .i8 (Msg.kind m), .int .i64 (Msg.frm m), .int .i64 (Msg.to m), .int .i64 (Msg.boot m), .int .i64 (Msg.server m), .int .i64 (Msg.number m), .int .i64 (Msg.node m), .int .i64 (Msg.lease m), .int .i64 (Msg.epoch m), .int .i64 (Msg.version m), .int .i64 (Msg.e m), .slice B (Msg.steps m).length d, .int .i64 (Msg.tree m).id, .int .i64 (Msg.tree m).kind, .string (Msg.tree m).text, .slice A (Msg.tree m).kids.length c]] w (StepPost w0 g r) := by
  obtain ⟨M, hI⟩ := stp_in (dv := 1) (kv := kv) hN hM hF
  obtain ⟨X, hX⟩ : ∃ X, X = w.alloc (.cells #[.int .i64 1, .int .i64 kv, .int .i8 (Msg.kind m), .int .i64 (Msg.frm m), .int .i64 (Msg.to m), .int .i64 (Msg.boot m), .int .i64 (Msg.server m), .int .i64 (Msg.number m), .int .i64 (Msg.node m), .int .i64 (Msg.lease m), .int .i64 (Msg.epoch m), .int .i64 (Msg.version m), .int .i64 (Msg.e m), .slice B (Msg.steps m).length d, .int .i64 (Msg.tree m).id, .int .i64 (Msg.tree m).kind, .string (Msg.tree m).text, .slice A (Msg.tree m).kids.length c] 87) := ⟨_, rfl⟩
  rw [← hX] at hI
  have hm : (Try.prog.info? 39).map (·.size) = some 16 := infoMsg
  have HI := Lib.hid (And.intro hI (And.intro (Eq.symm hX) hm))
  clear hI hX hN hM hF hm
  go_enter Try.func53, Try.ntmps53
  go_wp2_with fail
  rw [HI.out.2.1]
  obtain ⟨N, hN, hact⟩ := HI.out.1.nets.act1
  refine (take_any X g l N hN kv).mono ?_
  intro e Y hT
  obtain ⟨A1, c1, B1, d1, rfl, hM1, hP⟩ := take_c hN hT
  obtain ⟨hNY, hA⟩ := hact _ _ hP
  have hbY := hA.at HI.out.1.box (.inl (by simp))
  have hXY := hA.size
  have hlowX := HI.out.1.nets.low
  generalize hmm : lookM l kv = mm at *
  obtain ⟨Y1, hY1⟩ : ∃ Y1, Y1 = Y.alloc (.cells #[.int .i8 (Msg.kind mm), .int .i64 (Msg.frm mm), .int .i64 (Msg.to mm), .int .i64 (Msg.boot mm), .int .i64 (Msg.server mm), .int .i64 (Msg.number mm), .int .i64 (Msg.node mm), .int .i64 (Msg.lease mm), .int .i64 (Msg.epoch mm), .int .i64 (Msg.version mm), .int .i64 (Msg.e mm), .slice B1 (Msg.steps mm).length d1, .int .i64 (Msg.tree mm).id, .int .i64 (Msg.tree mm).kind, .string (Msg.tree mm).text, .slice A1 (Msg.tree mm).kids.length c1] 39) := ⟨_, rfl⟩
  have hY1c : Chg [] Y Y1 := by rw [hY1]; exact (by with_reducible repeat (first | exact Chg.refl _ _ | apply Chg.alloc | apply Chg.drew | apply Chg.drewN | (refine Chg.setCell ?_ _ _ (by simp))))
  have h7 : Y1.heap[Y.heap.size]? = some (.cells #[.int .i8 (Msg.kind mm), .int .i64 (Msg.frm mm), .int .i64 (Msg.to mm), .int .i64 (Msg.boot mm), .int .i64 (Msg.server mm), .int .i64 (Msg.number mm), .int .i64 (Msg.node mm), .int .i64 (Msg.lease mm), .int .i64 (Msg.epoch mm), .int .i64 (Msg.version mm), .int .i64 (Msg.e mm), .slice B1 (Msg.steps mm).length d1, .int .i64 (Msg.tree mm).id, .int .i64 (Msg.tree mm).kind, .string (Msg.tree mm).text, .slice A1 (Msg.tree mm).kids.length c1] 39 (0, 0)) := by rw [hY1]; exact heap_new _ _ rfl
  have h1c : (#[.int .i8 (Msg.kind mm), .int .i64 (Msg.frm mm), .int .i64 (Msg.to mm), .int .i64 (Msg.boot mm), .int .i64 (Msg.server mm), .int .i64 (Msg.number mm), .int .i64 (Msg.node mm), .int .i64 (Msg.lease mm), .int .i64 (Msg.epoch mm), .int .i64 (Msg.version mm), .int .i64 (Msg.e mm), .slice B1 (Msg.steps mm).length d1, .int .i64 (Msg.tree mm).id, .int .i64 (Msg.tree mm).kind, .string (Msg.tree mm).text, .slice A1 (Msg.tree mm).kids.length c1] : Array Value).all (·.oneCell') = true := by simp [Value.oneCell']
  have hN1 := hNY.step hY1c
  obtain ⟨hR, hact2⟩ := hN1.act2
  have hk1 : Y1.cell? ⟨w.heap.size, 1, none⟩ = some (.int .i64 kv) := range_all (hY1c.at hbY (by simp)) 1 _ rfl
  have HY := Lib.hid (And.intro (rtake_any Y1 r l M hR kv) (And.intro hact2 (And.intro (Eq.symm hY1) (And.intro h1c (And.intro h7 (And.intro hM1 (And.intro hY1c (And.intro hXY (And.intro hlowX (And.intro hR hmm))))))))))
  clear hT hP hNY hA hbY hXY hlowX hY1 hY1c h7 h1c hN1 hR hact2 hN hact hM1 hmm
  go_wp2_with (first
    | (refine wpList_store_row rfl 39 (.tmp 7) (.tmp 41) rfl Y.heap.size rfl #[.int .i8 (Msg.kind mm), .int .i64 (Msg.frm mm), .int .i64 (Msg.to mm), .int .i64 (Msg.boot mm), .int .i64 (Msg.server mm), .int .i64 (Msg.number mm), .int .i64 (Msg.node mm), .int .i64 (Msg.lease mm), .int .i64 (Msg.epoch mm), .int .i64 (Msg.version mm), .int .i64 (Msg.e mm), .slice B1 (Msg.steps mm).length d1, .int .i64 (Msg.tree mm).id, .int .i64 (Msg.tree mm).kind, .string (Msg.tree mm).text, .slice A1 (Msg.tree mm).kids.length c1] rfl _ _ (heap_new _ _ rfl) HI.out.2.2 rfl HY.out.2.2.2.1 ?_; rw [setRow_new, HY.out.2.2.1])
    | fail)
  refine HY.out.1.mono ?_
  intro e Z hT
  obtain ⟨A2, c2, B2, d2, rfl, hM2, hP⟩ := rtake_c HY.out.2.2.2.2.2.2.2.2.2.1 hT
  rw [HY.out.2.2.2.2.2.2.2.2.2.2] at hM2 ⊢
  obtain ⟨⟨M', hNZ⟩, hA⟩ := HY.out.2.1 _ _ hP
  have h7Z := hA.at HY.out.2.2.2.2.1 (.inr (fun h => by have := HY.out.2.2.2.2.2.2.2.2.1 _ h; have := HY.out.2.2.2.2.2.2.2.1; omega))
  have hM1Z := hA.msg (HY.out.2.2.2.2.2.1.kept HY.out.2.2.2.2.2.2.1 (by simp)) (fun b hb => .inr (fun h => by have := HY.out.2.2.2.2.2.2.2.2.1 _ h; omega))
  obtain ⟨Z1, hZ1⟩ : ∃ Z1, Z1 = Z.alloc (.cells #[.int .i8 (Msg.kind mm), .int .i64 (Msg.frm mm), .int .i64 (Msg.to mm), .int .i64 (Msg.boot mm), .int .i64 (Msg.server mm), .int .i64 (Msg.number mm), .int .i64 (Msg.node mm), .int .i64 (Msg.lease mm), .int .i64 (Msg.epoch mm), .int .i64 (Msg.version mm), .int .i64 (Msg.e mm), .slice B2 (Msg.steps mm).length d2, .int .i64 (Msg.tree mm).id, .int .i64 (Msg.tree mm).kind, .string (Msg.tree mm).text, .slice A2 (Msg.tree mm).kids.length c2] 39) := ⟨_, rfl⟩
  have hZ1c : Chg [] Z Z1 := by rw [hZ1]; exact (by with_reducible repeat (first | exact Chg.refl _ _ | apply Chg.alloc | apply Chg.drew | apply Chg.drewN | (refine Chg.setCell ?_ _ _ (by simp))))
  have h9 : Z1.heap[Z.heap.size]? = some (.cells #[.int .i8 (Msg.kind mm), .int .i64 (Msg.frm mm), .int .i64 (Msg.to mm), .int .i64 (Msg.boot mm), .int .i64 (Msg.server mm), .int .i64 (Msg.number mm), .int .i64 (Msg.node mm), .int .i64 (Msg.lease mm), .int .i64 (Msg.epoch mm), .int .i64 (Msg.version mm), .int .i64 (Msg.e mm), .slice B2 (Msg.steps mm).length d2, .int .i64 (Msg.tree mm).id, .int .i64 (Msg.tree mm).kind, .string (Msg.tree mm).text, .slice A2 (Msg.tree mm).kids.length c2] 39 (0, 0)) := by rw [hZ1]; exact heap_new _ _ rfl
  have h7Z1 := hZ1c.at h7Z (by simp)
  have h2c : (#[.int .i8 (Msg.kind mm), .int .i64 (Msg.frm mm), .int .i64 (Msg.to mm), .int .i64 (Msg.boot mm), .int .i64 (Msg.server mm), .int .i64 (Msg.number mm), .int .i64 (Msg.node mm), .int .i64 (Msg.lease mm), .int .i64 (Msg.epoch mm), .int .i64 (Msg.version mm), .int .i64 (Msg.e mm), .slice B2 (Msg.steps mm).length d2, .int .i64 (Msg.tree mm).id, .int .i64 (Msg.tree mm).kind, .string (Msg.tree mm).text, .slice A2 (Msg.tree mm).kids.length c2] : Array Value).all (·.oneCell') = true := by simp [Value.oneCell']
  have hsm := sameMsg_any mm A1 c1 B1 d1 A2 c2 B2 d2 Z1 ((hM1Z.kept hZ1c (by simp)).weak (fun _ _ _ => trivial)) ((hM2.kept hZ1c (by simp)).weak (fun _ _ _ => trivial))
  have HZ := Lib.hid (And.intro hsm (And.intro (Eq.symm hZ1) (And.intro h2c (And.intro h9 (And.intro h7Z1 (hNZ.step hZ1c))))))
  clear hT hP hNZ hA h7Z hM1Z hM2 hZ1 hZ1c h9 h7Z1 h2c hsm hk1
  go_wp2_with (first
    | (refine wpList_store_row rfl 39 (.tmp 9) (.tmp 48) rfl Z.heap.size rfl #[.int .i8 (Msg.kind mm), .int .i64 (Msg.frm mm), .int .i64 (Msg.to mm), .int .i64 (Msg.boot mm), .int .i64 (Msg.server mm), .int .i64 (Msg.number mm), .int .i64 (Msg.node mm), .int .i64 (Msg.lease mm), .int .i64 (Msg.epoch mm), .int .i64 (Msg.version mm), .int .i64 (Msg.e mm), .slice B2 (Msg.steps mm).length d2, .int .i64 (Msg.tree mm).id, .int .i64 (Msg.tree mm).kind, .string (Msg.tree mm).text, .slice A2 (Msg.tree mm).kids.length c2] rfl _ _ (heap_new _ _ rfl) HI.out.2.2 rfl HZ.out.2.2.1 ?_; rw [setRow_new, HZ.out.2.1])
    | (refine wpList_load_mid rfl 39 (.tmp 7) rfl Y.heap.size 0 rfl (#[.int .i8 (Msg.kind mm), .int .i64 (Msg.frm mm), .int .i64 (Msg.to mm), .int .i64 (Msg.boot mm), .int .i64 (Msg.server mm), .int .i64 (Msg.number mm), .int .i64 (Msg.node mm), .int .i64 (Msg.lease mm), .int .i64 (Msg.epoch mm), .int .i64 (Msg.version mm), .int .i64 (Msg.e mm), .slice B1 (Msg.steps mm).length d1, .int .i64 (Msg.tree mm).id, .int .i64 (Msg.tree mm).kind, .string (Msg.tree mm).text, .slice A1 (Msg.tree mm).kids.length c1] : Array Value).toList _ (range_all HZ.out.2.2.2.2.1) Try.underlying39 rfl HI.out.2.2 ?_)
    | (refine wpList_load_mid rfl 39 (.tmp 9) rfl Z.heap.size 0 rfl (#[.int .i8 (Msg.kind mm), .int .i64 (Msg.frm mm), .int .i64 (Msg.to mm), .int .i64 (Msg.boot mm), .int .i64 (Msg.server mm), .int .i64 (Msg.number mm), .int .i64 (Msg.node mm), .int .i64 (Msg.lease mm), .int .i64 (Msg.epoch mm), .int .i64 (Msg.version mm), .int .i64 (Msg.e mm), .slice B2 (Msg.steps mm).length d2, .int .i64 (Msg.tree mm).id, .int .i64 (Msg.tree mm).kind, .string (Msg.tree mm).text, .slice A2 (Msg.tree mm).kids.length c2] : Array Value).toList _ (range_all HZ.out.2.2.2.1) Try.underlying39 rfl HI.out.2.2 ?_)
    | (go_at_call 88; refine HZ.out.1.mono ?_; rintro e T ⟨rfl, hT⟩; have HT := Lib.hid (HZ.out.2.2.2.2.2.step hT).bare; clear hT)
    | fail)
  go_ret
  exact ⟨rfl, _, HT.out⟩
set_option maxHeartbeats 4000000 in
set_option maxRecDepth 100000 in
theorem step4_any (w0 w : World) (g r : Nat) (l : List (Msg × Bool)) (kv : Int) (m : Msg) (A : Option Addr) (c : Nat) (B : Option Addr) (d : Nat) (hN : Nets w0 w g r l) (hM : MsgC (fun b => b < w0.heap.size) w m A c B d) (hF : m.Fit) :
    Calls Try.prog 53 #[.pointer (some ⟨g, 0, none⟩), .pointer (some ⟨r, 0, none⟩), .agg #[.int .i64 4, .int .i64 kv, .int .i8 (Msg.kind m), .int .i64 (Msg.frm m), .int .i64 (Msg.to m), .int .i64 (Msg.boot m), .int .i64 (Msg.server m), .int .i64 (Msg.number m), .int .i64 (Msg.node m), .int .i64 (Msg.lease m), .int .i64 (Msg.epoch m), .int .i64 (Msg.version m), .int .i64 (Msg.e m), .slice B (Msg.steps m).length d, .int .i64 (Msg.tree m).id, .int .i64 (Msg.tree m).kind, .string (Msg.tree m).text, .slice A (Msg.tree m).kids.length c]] w (StepPost w0 g r) := by
  obtain ⟨M, hI⟩ := stp_in (dv := 4) (kv := kv) hN hM hF
  obtain ⟨X, hX⟩ : ∃ X, X = w.alloc (.cells #[.int .i64 4, .int .i64 kv, .int .i8 (Msg.kind m), .int .i64 (Msg.frm m), .int .i64 (Msg.to m), .int .i64 (Msg.boot m), .int .i64 (Msg.server m), .int .i64 (Msg.number m), .int .i64 (Msg.node m), .int .i64 (Msg.lease m), .int .i64 (Msg.epoch m), .int .i64 (Msg.version m), .int .i64 (Msg.e m), .slice B (Msg.steps m).length d, .int .i64 (Msg.tree m).id, .int .i64 (Msg.tree m).kind, .string (Msg.tree m).text, .slice A (Msg.tree m).kids.length c] 87) := ⟨_, rfl⟩
  rw [← hX] at hI
  have hm : (Try.prog.info? 39).map (·.size) = some 16 := infoMsg
  have HI := Lib.hid (And.intro hI (And.intro (Eq.symm hX) hm))
  clear hI hX hN hM hF hm
  go_enter Try.func53, Try.ntmps53
  go_wp2_with fail
  rw [HI.out.2.1]
  obtain ⟨N, hN, -⟩ := HI.out.1.nets.act1
  refine (look_any X g l N hN kv).mono ?_
  intro e Y hT
  obtain ⟨A1, c1, B1, d1, rfl, hM1, hXY⟩ := look_c hT
  generalize hmm : lookM l kv = mm at *
  generalize hhh : lookH l kv = hh at *
  obtain ⟨Y1, hY1⟩ : ∃ Y1, Y1 = Y.alloc (.cells #[.int .i8 (Msg.kind mm), .int .i64 (Msg.frm mm), .int .i64 (Msg.to mm), .int .i64 (Msg.boot mm), .int .i64 (Msg.server mm), .int .i64 (Msg.number mm), .int .i64 (Msg.node mm), .int .i64 (Msg.lease mm), .int .i64 (Msg.epoch mm), .int .i64 (Msg.version mm), .int .i64 (Msg.e mm), .slice B1 (Msg.steps mm).length d1, .int .i64 (Msg.tree mm).id, .int .i64 (Msg.tree mm).kind, .string (Msg.tree mm).text, .slice A1 (Msg.tree mm).kids.length c1] 39) := ⟨_, rfl⟩
  have hY1c : Chg [] Y Y1 := by rw [hY1]; exact (by with_reducible repeat (first | exact Chg.refl _ _ | apply Chg.alloc | apply Chg.drew | apply Chg.drewN | (refine Chg.setCell ?_ _ _ (by simp))))
  have h7 : Y1.heap[Y.heap.size]? = some (.cells #[.int .i8 (Msg.kind mm), .int .i64 (Msg.frm mm), .int .i64 (Msg.to mm), .int .i64 (Msg.boot mm), .int .i64 (Msg.server mm), .int .i64 (Msg.number mm), .int .i64 (Msg.node mm), .int .i64 (Msg.lease mm), .int .i64 (Msg.epoch mm), .int .i64 (Msg.version mm), .int .i64 (Msg.e mm), .slice B1 (Msg.steps mm).length d1, .int .i64 (Msg.tree mm).id, .int .i64 (Msg.tree mm).kind, .string (Msg.tree mm).text, .slice A1 (Msg.tree mm).kids.length c1] 39 (0, 0)) := by rw [hY1]; exact heap_new _ _ rfl
  have h1c : (#[.int .i8 (Msg.kind mm), .int .i64 (Msg.frm mm), .int .i64 (Msg.to mm), .int .i64 (Msg.boot mm), .int .i64 (Msg.server mm), .int .i64 (Msg.number mm), .int .i64 (Msg.node mm), .int .i64 (Msg.lease mm), .int .i64 (Msg.epoch mm), .int .i64 (Msg.version mm), .int .i64 (Msg.e mm), .slice B1 (Msg.steps mm).length d1, .int .i64 (Msg.tree mm).id, .int .i64 (Msg.tree mm).kind, .string (Msg.tree mm).text, .slice A1 (Msg.tree mm).kids.length c1] : Array Value).all (·.oneCell') = true := by simp [Value.oneCell']
  have hN1 := HI.out.1.nets.step (hXY.trans hY1c)
  obtain ⟨hR, -⟩ := hN1.act2
  have hk1 : Y1.cell? ⟨w.heap.size, 1, none⟩ = some (.int .i64 kv) := range_all ((hXY.trans hY1c).at HI.out.1.box (by simp)) 1 _ rfl
  have HY := Lib.hid (And.intro (rlook_any Y1 r l M hR kv) (And.intro hN1 (And.intro (Eq.symm hY1) (And.intro h1c (And.intro h7 (And.intro (hM1.kept hY1c (by simp)) (And.intro hmm hhh)))))))
  clear hT hXY hY1 hY1c h7 h1c hN1 hR hN hM1 hmm hhh
  go_wp2_with (first
    | (refine wpList_store_row rfl 39 (.tmp 11) (.tmp 87) rfl Y.heap.size rfl #[.int .i8 (Msg.kind mm), .int .i64 (Msg.frm mm), .int .i64 (Msg.to mm), .int .i64 (Msg.boot mm), .int .i64 (Msg.server mm), .int .i64 (Msg.number mm), .int .i64 (Msg.node mm), .int .i64 (Msg.lease mm), .int .i64 (Msg.epoch mm), .int .i64 (Msg.version mm), .int .i64 (Msg.e mm), .slice B1 (Msg.steps mm).length d1, .int .i64 (Msg.tree mm).id, .int .i64 (Msg.tree mm).kind, .string (Msg.tree mm).text, .slice A1 (Msg.tree mm).kids.length c1] rfl _ _ (heap_new _ _ rfl) HI.out.2.2 rfl HY.out.2.2.2.1 ?_; rw [setRow_new, HY.out.2.2.1])
    | fail)
  refine HY.out.1.mono ?_
  intro e Z hT
  obtain ⟨A2, c2, B2, d2, rfl, hM2, hYZ⟩ := look_c hT
  rw [HY.out.2.2.2.2.2.2.1] at hM2 ⊢
  rw [HY.out.2.2.2.2.2.2.2]
  obtain ⟨Z1, hZ1⟩ : ∃ Z1, Z1 = Z.alloc (.cells #[.int .i8 (Msg.kind mm), .int .i64 (Msg.frm mm), .int .i64 (Msg.to mm), .int .i64 (Msg.boot mm), .int .i64 (Msg.server mm), .int .i64 (Msg.number mm), .int .i64 (Msg.node mm), .int .i64 (Msg.lease mm), .int .i64 (Msg.epoch mm), .int .i64 (Msg.version mm), .int .i64 (Msg.e mm), .slice B2 (Msg.steps mm).length d2, .int .i64 (Msg.tree mm).id, .int .i64 (Msg.tree mm).kind, .string (Msg.tree mm).text, .slice A2 (Msg.tree mm).kids.length c2] 39) := ⟨_, rfl⟩
  have hZ1c : Chg [] Z Z1 := by rw [hZ1]; exact (by with_reducible repeat (first | exact Chg.refl _ _ | apply Chg.alloc | apply Chg.drew | apply Chg.drewN | (refine Chg.setCell ?_ _ _ (by simp))))
  have h9 : Z1.heap[Z.heap.size]? = some (.cells #[.int .i8 (Msg.kind mm), .int .i64 (Msg.frm mm), .int .i64 (Msg.to mm), .int .i64 (Msg.boot mm), .int .i64 (Msg.server mm), .int .i64 (Msg.number mm), .int .i64 (Msg.node mm), .int .i64 (Msg.lease mm), .int .i64 (Msg.epoch mm), .int .i64 (Msg.version mm), .int .i64 (Msg.e mm), .slice B2 (Msg.steps mm).length d2, .int .i64 (Msg.tree mm).id, .int .i64 (Msg.tree mm).kind, .string (Msg.tree mm).text, .slice A2 (Msg.tree mm).kids.length c2] 39 (0, 0)) := by rw [hZ1]; exact heap_new _ _ rfl
  have h7Z1 := (hYZ.trans hZ1c).at HY.out.2.2.2.2.1 (by simp)
  have h2c : (#[.int .i8 (Msg.kind mm), .int .i64 (Msg.frm mm), .int .i64 (Msg.to mm), .int .i64 (Msg.boot mm), .int .i64 (Msg.server mm), .int .i64 (Msg.number mm), .int .i64 (Msg.node mm), .int .i64 (Msg.lease mm), .int .i64 (Msg.epoch mm), .int .i64 (Msg.version mm), .int .i64 (Msg.e mm), .slice B2 (Msg.steps mm).length d2, .int .i64 (Msg.tree mm).id, .int .i64 (Msg.tree mm).kind, .string (Msg.tree mm).text, .slice A2 (Msg.tree mm).kids.length c2] : Array Value).all (·.oneCell') = true := by simp [Value.oneCell']
  have hsm := sameMsg_any mm A1 c1 B1 d1 A2 c2 B2 d2 Z1 ((HY.out.2.2.2.2.2.1.kept (hYZ.trans hZ1c) (by simp)).weak (fun _ _ _ => trivial)) ((hM2.kept hZ1c (by simp)).weak (fun _ _ _ => trivial))
  have HZ := Lib.hid (And.intro hsm (And.intro (Eq.symm hZ1) (And.intro h2c (And.intro h9 (And.intro h7Z1 (HY.out.2.1.step (hYZ.trans hZ1c)))))))
  clear hT hYZ hM2 hZ1 hZ1c h9 h7Z1 h2c hsm hk1
  cases hh
  all_goals
    go_wp2_with (first
      | (refine wpList_store_row rfl 39 (.tmp 14) (.tmp 95) rfl Z.heap.size rfl #[.int .i8 (Msg.kind mm), .int .i64 (Msg.frm mm), .int .i64 (Msg.to mm), .int .i64 (Msg.boot mm), .int .i64 (Msg.server mm), .int .i64 (Msg.number mm), .int .i64 (Msg.node mm), .int .i64 (Msg.lease mm), .int .i64 (Msg.epoch mm), .int .i64 (Msg.version mm), .int .i64 (Msg.e mm), .slice B2 (Msg.steps mm).length d2, .int .i64 (Msg.tree mm).id, .int .i64 (Msg.tree mm).kind, .string (Msg.tree mm).text, .slice A2 (Msg.tree mm).kids.length c2] rfl _ _ (heap_new _ _ rfl) HI.out.2.2 rfl HZ.out.2.2.1 ?_; rw [setRow_new, HZ.out.2.1])
      | (refine wpList_load_mid rfl 39 (.tmp 11) rfl Y.heap.size 0 rfl (#[.int .i8 (Msg.kind mm), .int .i64 (Msg.frm mm), .int .i64 (Msg.to mm), .int .i64 (Msg.boot mm), .int .i64 (Msg.server mm), .int .i64 (Msg.number mm), .int .i64 (Msg.node mm), .int .i64 (Msg.lease mm), .int .i64 (Msg.epoch mm), .int .i64 (Msg.version mm), .int .i64 (Msg.e mm), .slice B1 (Msg.steps mm).length d1, .int .i64 (Msg.tree mm).id, .int .i64 (Msg.tree mm).kind, .string (Msg.tree mm).text, .slice A1 (Msg.tree mm).kids.length c1] : Array Value).toList _ (range_all HZ.out.2.2.2.2.1) Try.underlying39 rfl HI.out.2.2 ?_)
      | (refine wpList_load_mid rfl 39 (.tmp 14) rfl Z.heap.size 0 rfl (#[.int .i8 (Msg.kind mm), .int .i64 (Msg.frm mm), .int .i64 (Msg.to mm), .int .i64 (Msg.boot mm), .int .i64 (Msg.server mm), .int .i64 (Msg.number mm), .int .i64 (Msg.node mm), .int .i64 (Msg.lease mm), .int .i64 (Msg.epoch mm), .int .i64 (Msg.version mm), .int .i64 (Msg.e mm), .slice B2 (Msg.steps mm).length d2, .int .i64 (Msg.tree mm).id, .int .i64 (Msg.tree mm).kind, .string (Msg.tree mm).text, .slice A2 (Msg.tree mm).kids.length c2] : Array Value).toList _ (range_all HZ.out.2.2.2.1) Try.underlying39 rfl HI.out.2.2 ?_)
      | (go_at_call 88; refine HZ.out.1.mono ?_; rintro e T ⟨rfl, hT⟩; have HT := Lib.hid (HZ.out.2.2.2.2.2.step hT).bare; clear hT)
      | fail)
    go_ret
    exact ⟨rfl, _, HT.out⟩
end Go.Proofs.Ytipijkpjmpejlaa
