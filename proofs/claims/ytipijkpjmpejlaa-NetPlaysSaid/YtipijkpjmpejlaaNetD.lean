import Derived.Test.YtipijkpjmpejlaaNetL
/- The contract of Double. -/
set_option linter.unusedVariables false
set_option linter.unusedSimpArgs false
namespace Go.Proofs.Ytipijkpjmpejlaa
open Go.RowKit
theorem NetPost.before {w w1 w' : World} {g : Nat} {l : List (Msg × Bool)} {N : Nat → Prop} (h : NetPost g l N w1 w') (hc : Chg [] w w1) : NetPost g l N w w' := by
  obtain ⟨N', cl, h1, h2, h3, h4⟩ := h
  exact ⟨N', cl, h1, fun b hb => (h2 b hb).imp id (fun h => Nat.le_trans hc.size h), (hc.mono (by simp)).trans h3, h4⟩
def kth (l : List (Msg × Bool)) (k : Int) : Option (Msg × Bool) := if 0 ≤ k ∧ k < l.length then l[k.toNat]? else none
def dblCode (l : List (Msg × Bool)) (k : Int) : Int := match kth l k with | none => 4 | some x => sendCode x.1 l.length
def dblL (l : List (Msg × Bool)) (k : Int) : List (Msg × Bool) := match kth l k with | none => l | some x => if sendCode x.1 l.length = 0 then l ++ [(x.1, false)] else l
set_option maxHeartbeats 4000000 in
set_option maxRecDepth 100000 in
theorem double_any (w : World) (g : Nat) (l : List (Msg × Bool)) (N : Nat → Prop) (h : NetV w g l N) (k : Int) : Calls Try.prog 45 #[.pointer (some ⟨g, 0, none⟩), .int .i64 k] w fun e w' => e = .returned (.int .i64 (dblCode l k)) ∧ NetPost g (dblL l k) N w w' := by
  have hl := look_any w g l N h k
  have hm : (Try.prog.info? 39).map (·.size) = some 16 := infoMsg
  have HV := Lib.hid (And.intro h (And.intro hl hm))
  clear h hl hm
  go_enter Try.func45, Try.ntmps45
  go_wp2_with fail
  refine HV.out.2.1.mono ?_
  rintro e Y (⟨h1, rfl, hC⟩ | ⟨x, A, c, B, d, h0, hx, rfl, hM, hC⟩)
  · have hk : kth l k = none := if_neg h1
    have hd : dblCode l k = 4 := by simp [dblCode, hk]
    have hL : dblL l k = l := by simp [dblL, hk]
    have hCa : Chg [] Y (Y.alloc (.cells #[.int .i8 0, .int .i64 0, .int .i64 0, .int .i64 0, .int .i64 0, .int .i64 0, .int .i64 0, .int .i64 0, .int .i64 0, .int .i64 0, .int .i64 0, .slice none 0 0, .int .i64 0, .int .i64 0, .string ⟨#[]⟩, .slice none 0 0] 39)) := (by with_reducible repeat (first | exact Chg.refl _ _ | apply Chg.alloc | apply Chg.drew | apply Chg.drewN | (refine Chg.setCell ?_ _ _ (by simp))))
    have HC := Lib.hid (hC.trans hCa)
    have HD := Lib.hid (And.intro hd hL)
    clear h1 hk hd hL hC hCa
    go_wp2_with fail
    go_ret
    refine ⟨by rw [HD.out.1]; rfl, ?_⟩
    rw [HD.out.2]
    exact NetPost.same HV.out.1 HC.out
  · have hlt := (List.getElem?_eq_some_iff.1 hx).1
    have hk : kth l k = some x := by rw [kth, if_pos (by omega)]; exact hx
    have hd : dblCode l k = sendCode x.1 l.length := by simp [dblCode, hk]
    have hL : dblL l k = if sendCode x.1 l.length = 0 then l ++ [(x.1, false)] else l := by simp [dblL, hk]
    have HD := Lib.hid (And.intro hd hL)
    have hCa : Chg [] Y (Y.alloc (.cells #[.int .i8 (Msg.kind x.1), .int .i64 (Msg.frm x.1), .int .i64 (Msg.to x.1), .int .i64 (Msg.boot x.1), .int .i64 (Msg.server x.1), .int .i64 (Msg.number x.1), .int .i64 (Msg.node x.1), .int .i64 (Msg.lease x.1), .int .i64 (Msg.epoch x.1), .int .i64 (Msg.version x.1), .int .i64 (Msg.e x.1), .slice B (Msg.steps x.1).length d, .int .i64 (Msg.tree x.1).id, .int .i64 (Msg.tree x.1).kind, .string (Msg.tree x.1).text, .slice A (Msg.tree x.1).kids.length c] 39)) := (by with_reducible repeat (first | exact Chg.refl _ _ | apply Chg.alloc | apply Chg.drew | apply Chg.drewN | (refine Chg.setCell ?_ _ _ (by simp))))
    have hfit : x.1.Fit := by
      obtain ⟨v, css, h⟩ := HV.out.1
      exact h.fit x (List.mem_of_getElem? hx)
    have hs := send_any (Y.alloc (.cells #[.int .i8 (Msg.kind x.1), .int .i64 (Msg.frm x.1), .int .i64 (Msg.to x.1), .int .i64 (Msg.boot x.1), .int .i64 (Msg.server x.1), .int .i64 (Msg.number x.1), .int .i64 (Msg.node x.1), .int .i64 (Msg.lease x.1), .int .i64 (Msg.epoch x.1), .int .i64 (Msg.version x.1), .int .i64 (Msg.e x.1), .slice B (Msg.steps x.1).length d, .int .i64 (Msg.tree x.1).id, .int .i64 (Msg.tree x.1).kind, .string (Msg.tree x.1).text, .slice A (Msg.tree x.1).kids.length c] 39)) g l N (HV.out.1.kept (hC.trans hCa) (by simp)) x.1 A c B d ((hM.kept hCa (by simp)).weak (fun b hb _ => by have := hb.2; simp; omega)) hfit
    have h1c : (#[.int .i8 (Msg.kind x.1), .int .i64 (Msg.frm x.1), .int .i64 (Msg.to x.1), .int .i64 (Msg.boot x.1), .int .i64 (Msg.server x.1), .int .i64 (Msg.number x.1), .int .i64 (Msg.node x.1), .int .i64 (Msg.lease x.1), .int .i64 (Msg.epoch x.1), .int .i64 (Msg.version x.1), .int .i64 (Msg.e x.1), .slice B (Msg.steps x.1).length d, .int .i64 (Msg.tree x.1).id, .int .i64 (Msg.tree x.1).kind, .string (Msg.tree x.1).text, .slice A (Msg.tree x.1).kids.length c] : Array Value).all (·.oneCell') = true := by simp [Value.oneCell']
    have HC := Lib.hid (And.intro hs (And.intro (hC.trans hCa) h1c))
    clear hd hL hk hx hM hC hCa hfit hs h1c hlt h0
    go_wp2_with (first
      | (refine wpList_store_row rfl 39 (.tmp 5) (.tmp 12) rfl Y.heap.size rfl #[.int .i8 (Msg.kind x.1), .int .i64 (Msg.frm x.1), .int .i64 (Msg.to x.1), .int .i64 (Msg.boot x.1), .int .i64 (Msg.server x.1), .int .i64 (Msg.number x.1), .int .i64 (Msg.node x.1), .int .i64 (Msg.lease x.1), .int .i64 (Msg.epoch x.1), .int .i64 (Msg.version x.1), .int .i64 (Msg.e x.1), .slice B (Msg.steps x.1).length d, .int .i64 (Msg.tree x.1).id, .int .i64 (Msg.tree x.1).kind, .string (Msg.tree x.1).text, .slice A (Msg.tree x.1).kids.length c] rfl _ _ (heap_new _ _ rfl) HV.out.2.2 rfl HC.out.2.2 ?_; rw [setRow_new])
      | (refine wpList_load_mid rfl 39 (.tmp 5) rfl Y.heap.size 0 rfl (#[.int .i8 (Msg.kind x.1), .int .i64 (Msg.frm x.1), .int .i64 (Msg.to x.1), .int .i64 (Msg.boot x.1), .int .i64 (Msg.server x.1), .int .i64 (Msg.number x.1), .int .i64 (Msg.node x.1), .int .i64 (Msg.lease x.1), .int .i64 (Msg.epoch x.1), .int .i64 (Msg.version x.1), .int .i64 (Msg.e x.1), .slice B (Msg.steps x.1).length d, .int .i64 (Msg.tree x.1).id, .int .i64 (Msg.tree x.1).kind, .string (Msg.tree x.1).text, .slice A (Msg.tree x.1).kids.length c] : Array Value).toList _ (range_all (heap_new _ _ rfl)) Try.underlying39 rfl HV.out.2.2 ?_)
      | (go_at_call 42; refine HC.out.1.mono ?_; rintro e Z ⟨rfl, hP⟩; have HP := Lib.hid hP; clear hP)
      | fail)
    go_ret
    refine ⟨by rw [HD.out.1]; rfl, ?_⟩
    rw [HD.out.2]
    exact HP.out.before HC.out.2.1
end Go.Proofs.Ytipijkpjmpejlaa
