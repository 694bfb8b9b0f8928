import Derived.Test.YtipijkpjmpejlaaNetS
/- The contract of Send. -/
set_option linter.unusedVariables false
set_option linter.unusedSimpArgs false
namespace Go.Proofs.Ytipijkpjmpejlaa
open Go.RowKit
/-- Is this an address? -/
def inside (n : Int) : Bool := decide (0 ≤ n) && decide (n ≤ 8)
theorem address_any (n : Int) (w : World) : Calls Try.prog 78 #[.int .i64 n] w fun e w' => e = .returned (.bool (inside n)) ∧ w = w' := by
  by_cases h1 : 0 ≤ n
  · by_cases h2 : n ≤ 8
    · rw [show inside n = true from by simp [inside]; omega]
      go_enter Try.func78, Try.ntmps78
      go_wp2
      go_ret
      exact ⟨rfl, rfl⟩
    · rw [show inside n = false from by simp [inside]; omega]
      go_enter Try.func78, Try.ntmps78
      go_wp2
      go_ret
      exact ⟨rfl, rfl⟩
  · rw [show inside n = false from by simp [inside]; omega]
    go_enter Try.func78, Try.ntmps78
    go_wp2
    go_ret
    exact ⟨rfl, rfl⟩
/-- What Send answers. -/
def sendCode (m : Msg) (n : Nat) : Int := if inside m.frm && inside m.to then (if 1024 ≤ n then 20 else 0) else 2
/-- What an act leaves of a net. -/
def NetPost (g : Nat) (l : List (Msg × Bool)) (N : Nat → Prop) (w w' : World) : Prop := ∃ N' cl, NetV w' g l N' ∧ (∀ b, N' b → N b ∨ w.heap.size ≤ b) ∧ Chg cl w w' ∧ ∀ b ∈ cl, N b
theorem NetPost.same {w w' : World} {g : Nat} {l : List (Msg × Bool)} {N : Nat → Prop} (h : NetV w g l N) (hc : Chg [] w w') : NetPost g l N w w' := ⟨N, [], h.kept hc (by simp), fun b hb => .inl hb, hc, by simp⟩
/-- One message more. -/
theorem net_push {w Y Ya Z : World} {g : Nat} {l : List (Msg × Bool)} {N : Nat → Prop} {v v' : Value} {css : List (List Value)} {m : Msg} {hd : Bool} {A1 : Option Addr} {c1 : Nat} {B1 : Option Addr} {d1 b0 : Nat} (HN : NetW w g l N v css) (hF : m.Fit) (hl : ¬ 1024 ≤ l.length)
    (hM : MsgC (fun b => b0 ≤ b ∧ b < Y.heap.size) Y m A1 c1 B1 d1) (hb0 : w.heap.size ≤ b0) (hYa : Chg [] Y Ya) (hsz : Ya.heap.size = Y.heap.size + 1) (hwYa : Chg [] w Ya) (hown : Z.ownsRow 0 139 17 v' (l.length + 1) (css.flatten ++ (#[.int .i8 (Msg.kind m), .int .i64 (Msg.frm m), .int .i64 (Msg.to m), .int .i64 (Msg.boot m), .int .i64 (Msg.server m), .int .i64 (Msg.number m), .int .i64 (Msg.node m), .int .i64 (Msg.lease m), .int .i64 (Msg.epoch m), .int .i64 (Msg.version m), .int .i64 (Msg.e m), .slice B1 (Msg.steps m).length d1, .int .i64 (Msg.tree m).id, .int .i64 (Msg.tree m).kind, .string (Msg.tree m).text, .slice A1 (Msg.tree m).kids.length c1, .bool hd] : Array Value).toList))
    (hgr : Ya.grownBy Z v.ownBlock) (hat : v'.ownBlock = v.ownBlock ∨ v'.ownBlock = some Ya.heap.size) : NetPost g (l ++ [(m, hd)]) N w (Z.setCell ⟨g, 0, none⟩ v') := by
  have hgw := HN.low g HN.foot
  have hws := hwYa.size
  have hownlt : ∀ b, v.ownBlock = some b → b < w.heap.size := fun b hb => HN.low b (HN.own b hb).1
  have hZs : Ya.heap.size ≤ Z.heap.size := hgr.size
  have hS : Chg [g] Z (Z.setCell ⟨g, 0, none⟩ v') := (Chg.refl _ _).setCell _ _ (by simp)
  have hC3 : Chg v.ownBlock.toList w Z := (hwYa.mono (by simp)).grown hgr (by intro k hk; rw [hk]; simp)
  have hCf : Chg (g :: v.ownBlock.toList) w (Z.setCell ⟨g, 0, none⟩ v') := (hC3.mono (fun x hx => by simp [hx])).trans (hS.mono (by simp))
  have hCY : Chg (g :: v.ownBlock.toList) Y (Z.setCell ⟨g, 0, none⟩ v') := ((Chg.grown (hYa.mono (l' := v.ownBlock.toList) (by simp)) hgr (by intro k hk; rw [hk]; simp)).mono (fun x hx => by simp [hx])).trans (hS.mono (by simp))
  have hv' : ∀ b, v'.ownBlock = some b → v.ownBlock = some b ∨ b = Y.heap.size + 1 := fun b hb => by
    rcases hat with h | h
    · exact .inl (h ▸ hb)
    · rw [h] at hb; injection hb with hb; exact .inr (by omega)
  have hlt' : ∀ b, v'.ownBlock = some b → b < Z.heap.size := fun b hb => by
    have := World.ownsRow.lt hown b hb; exact this.2
  have hsz' : (Z.setCell ⟨g, 0, none⟩ v').heap.size = Z.heap.size := by simp
  have hYw : w.heap.size ≤ Y.heap.size + 1 := by omega
  have hbY : ∀ b, v'.ownBlock = some b → b ≠ g := fun b hb e => by
    subst e
    rcases hv' b hb with h | h
    · exact (HN.own b h).2 rfl
    · omega
  refine ⟨fun b => b < Z.heap.size ∧ (N b ∨ w.heap.size ≤ b), g :: v.ownBlock.toList, ⟨v', css ++ [(#[.int .i8 (Msg.kind m), .int .i64 (Msg.frm m), .int .i64 (Msg.to m), .int .i64 (Msg.boot m), .int .i64 (Msg.server m), .int .i64 (Msg.number m), .int .i64 (Msg.node m), .int .i64 (Msg.lease m), .int .i64 (Msg.epoch m), .int .i64 (Msg.version m), .int .i64 (Msg.e m), .slice B1 (Msg.steps m).length d1, .int .i64 (Msg.tree m).id, .int .i64 (Msg.tree m).kind, .string (Msg.tree m).text, .slice A1 (Msg.tree m).kids.length c1, .bool hd] : Array Value).toList], ?_, ?_, ?_, ?_, ?_, ?_, ?_, ?_, ?_⟩, fun b hb => hb.2, hCf, ?_⟩
  · exact heap_setCell_same _ _ 0 _ _ _ (hC3.at HN.box (fun hm => (HN.own g (by simpa using hm)).2 rfl))
  · have hr := HN.row.push (w' := Z) (v' := v') (cs := (#[.int .i8 (Msg.kind m), .int .i64 (Msg.frm m), .int .i64 (Msg.to m), .int .i64 (Msg.boot m), .int .i64 (Msg.server m), .int .i64 (Msg.number m), .int .i64 (Msg.node m), .int .i64 (Msg.lease m), .int .i64 (Msg.epoch m), .int .i64 (Msg.version m), .int .i64 (Msg.e m), .slice B1 (Msg.steps m).length d1, .int .i64 (Msg.tree m).id, .int .i64 (Msg.tree m).kind, .string (Msg.tree m).text, .slice A1 (Msg.tree m).kids.length c1, .bool hd] : Array Value).toList) (by rw [HN.len]; exact hown) rfl
    exact hr.kept hS (fun b hb => by have := hbY b hb; simpa using this)
  · simp [HN.len]
  · intro i x cs h1 h2
    rcases Nat.lt_or_ge i l.length with hi | hi
    · rw [List.getElem?_append_left hi] at h1
      rw [List.getElem?_append_left (by rw [HN.len]; exact hi)] at h2
      refine ((HN.has i x cs h1 h2).kept hCf (fun b hb hm => ?_)).weak (fun b hb _ => ⟨⟨?_, .inl hb.1⟩, hb.2.1, fun e => ?_⟩)
      · simp at hm
        rcases hm with hm | hm
        · exact hb.2.1 hm
        · exact hb.2.2 hm
      · have := HN.low b hb.1; omega
      · rcases hv' b e with h | h
        · exact hb.2.2 h
        · have := HN.low b hb.1; omega
    · rw [List.getElem?_append_right hi] at h1
      rw [List.getElem?_append_right (by rw [HN.len]; exact hi), HN.len] at h2
      have h0 : i - l.length = 0 := by
        have := (List.getElem?_eq_some_iff.1 h1).1
        simp at this; omega
      rw [h0] at h1 h2
      simp only [List.getElem?_cons_zero, Option.some.injEq] at h1 h2
      subst h1 h2
      refine ⟨A1, c1, B1, d1, rfl, (hM.kept hCY (fun b hb hm => ?_)).weak (fun b hb _ => ⟨⟨?_, .inr ?_⟩, ?_, fun e => ?_⟩)⟩
      · simp at hm
        rcases hm with hm | hm
        · omega
        · have := hownlt b hm; omega
      · omega
      · omega
      · omega
      · rcases hv' b e with h | h
        · have := hownlt b h; omega
        · omega
  · exact ⟨by omega, .inl HN.foot⟩
  · exact fun b hb => ⟨⟨hlt' b hb, by
      rcases hv' b hb with h | h
      · exact .inl (HN.own b h).1
      · exact .inr (by omega)⟩, hbY b hb⟩
  · intro x hx
    rcases List.mem_append.1 hx with hx | hx
    · exact HN.fit x hx
    · simp at hx; subst hx; exact hF
  · simp; omega
  · intro b hb; rw [hsz']; exact hb.1
  · intro b hb
    simp at hb
    rcases hb with rfl | hb
    · exact HN.foot
    · exact (HN.own b hb).1
def SendPost (g : Nat) (l : List (Msg × Bool)) (N : Nat → Prop) (m : Msg) (w : World) (e : Ending) (w' : World) : Prop :=
  e = .returned (.int .i64 (sendCode m l.length)) ∧ NetPost g (if sendCode m l.length = 0 then l ++ [(m, false)] else l) N w w'
set_option maxHeartbeats 4000000 in
set_option maxRecDepth 100000 in
theorem send_any (w : World) (g : Nat) (l : List (Msg × Bool)) (N : Nat → Prop) (h : NetV w g l N) (m : Msg) (A : Option Addr) (c : Nat) (B : Option Addr) (d : Nat) (hM : MsgC (fun b => b < w.heap.size) w m A c B d) (hF : m.Fit) :
    Calls Try.prog 42 #[.pointer (some ⟨g, 0, none⟩), .agg #[.int .i8 (Msg.kind m), .int .i64 (Msg.frm m), .int .i64 (Msg.to m), .int .i64 (Msg.boot m), .int .i64 (Msg.server m), .int .i64 (Msg.number m), .int .i64 (Msg.node m), .int .i64 (Msg.lease m), .int .i64 (Msg.epoch m), .int .i64 (Msg.version m), .int .i64 (Msg.e m), .slice B (Msg.steps m).length d, .int .i64 (Msg.tree m).id, .int .i64 (Msg.tree m).kind, .string (Msg.tree m).text, .slice A (Msg.tree m).kids.length c]] w (SendPost g l N m w) := by
  have hCb : Chg [] w (w.alloc (.cells #[.int .i8 (Msg.kind m), .int .i64 (Msg.frm m), .int .i64 (Msg.to m), .int .i64 (Msg.boot m), .int .i64 (Msg.server m), .int .i64 (Msg.number m), .int .i64 (Msg.node m), .int .i64 (Msg.lease m), .int .i64 (Msg.epoch m), .int .i64 (Msg.version m), .int .i64 (Msg.e m), .slice B (Msg.steps m).length d, .int .i64 (Msg.tree m).id, .int .i64 (Msg.tree m).kind, .string (Msg.tree m).text, .slice A (Msg.tree m).kids.length c] 39)) := (by with_reducible repeat (first | exact Chg.refl _ _ | apply Chg.alloc | apply Chg.drew | apply Chg.drewN | (refine Chg.setCell ?_ _ _ (by simp))))
  have HV := Lib.hid (And.intro h (And.intro hM (And.intro hF hCb)))
  obtain ⟨v, css, h⟩ := h
  obtain ⟨Av, cv, rfl⟩ := h.slice
  have c0 := hCb.cell (cell1 h.box) (by simp)
  have HN := Lib.hid h
  clear h hM hF hCb
  by_cases h1 : inside m.frm = true
  · by_cases h2 : inside m.to = true
    · by_cases h3 : 1024 ≤ l.length
      · have hs : sendCode m l.length = 20 := by simp [sendCode, h1, h2, h3]
        unfold SendPost
        rw [hs]
        clear hs
        go_enter Try.func42, Try.ntmps42
        go_wp2_with (first
          | (go_at_call 78; refine (address_any _ _).mono ?_; rintro e X ⟨rfl, rfl⟩)
          | fail)
        go_ret
        exact ⟨rfl, NetPost.same HV.out.1 HV.out.2.2.2⟩
      · have hs : sendCode m l.length = 0 := by simp [sendCode, h1, h2, h3]
        unfold SendPost
        rw [hs]
        clear hs
        go_enter Try.func42, Try.ntmps42
        go_wp2_with (first
          | (go_at_call 78; refine (address_any _ _).mono ?_; rintro e X ⟨rfl, rfl⟩)
          | fail)
        obtain ⟨X, hXe⟩ : ∃ X, X = w.alloc (.cells #[.int .i8 (Msg.kind m), .int .i64 (Msg.frm m), .int .i64 (Msg.to m), .int .i64 (Msg.boot m), .int .i64 (Msg.server m), .int .i64 (Msg.number m), .int .i64 (Msg.node m), .int .i64 (Msg.lease m), .int .i64 (Msg.epoch m), .int .i64 (Msg.version m), .int .i64 (Msg.e m), .slice B (Msg.steps m).length d, .int .i64 (Msg.tree m).id, .int .i64 (Msg.tree m).kind, .string (Msg.tree m).text, .slice A (Msg.tree m).kids.length c] 39) := ⟨_, rfl⟩
        rw [← hXe] at c0 ⊢
        have hwX : Chg [] w X := by rw [hXe]; exact (by with_reducible repeat (first | exact Chg.refl _ _ | apply Chg.alloc | apply Chg.drew | apply Chg.drewN | (refine Chg.setCell ?_ _ _ (by simp))))
        have kb : X.heap[w.heap.size]? = some (.cells #[.int .i8 (Msg.kind m), .int .i64 (Msg.frm m), .int .i64 (Msg.to m), .int .i64 (Msg.boot m), .int .i64 (Msg.server m), .int .i64 (Msg.number m), .int .i64 (Msg.node m), .int .i64 (Msg.lease m), .int .i64 (Msg.epoch m), .int .i64 (Msg.version m), .int .i64 (Msg.e m), .slice B (Msg.steps m).length d, .int .i64 (Msg.tree m).id, .int .i64 (Msg.tree m).kind, .string (Msg.tree m).text, .slice A (Msg.tree m).kids.length c] 39 (0, 0)) := by rw [hXe]; exact heap_new _ _ rfl
        have hcall := copied_any m A c B d X.drew ((HV.out.2.1.kept hwX.drew (by simp)).weak (fun b hb _ => by have := hwX.size; simp; omega)) HV.out.2.2.1
        have hrb : X.drew.rangeAt w.heap.size 0 (#[.int .i8 (Msg.kind m), .int .i64 (Msg.frm m), .int .i64 (Msg.to m), .int .i64 (Msg.boot m), .int .i64 (Msg.server m), .int .i64 (Msg.number m), .int .i64 (Msg.node m), .int .i64 (Msg.lease m), .int .i64 (Msg.epoch m), .int .i64 (Msg.version m), .int .i64 (Msg.e m), .slice B (Msg.steps m).length d, .int .i64 (Msg.tree m).id, .int .i64 (Msg.tree m).kind, .string (Msg.tree m).text, .slice A (Msg.tree m).kids.length c] : Array Value).toList := range_all kb
        have HX := Lib.hid (And.intro hcall (And.intro hwX (And.intro kb hrb)))
        clear hcall hwX kb hXe hrb
        obtain ⟨ip, hi, hz0⟩ : ∃ ip, Try.prog.info? 139 = some ip ∧ ip.zero = some (.agg #[.int .i8 0, .int .i64 0, .int .i64 0, .int .i64 0, .int .i64 0, .int .i64 0, .int .i64 0, .int .i64 0, .int .i64 0, .int .i64 0, .int .i64 0, .slice none 0 0, .int .i64 0, .int .i64 0, .string ⟨#[]⟩, .slice none 0 0, .bool false]) := by
          have h := infoMKz
          cases hh : Try.prog.info? 139 with
          | none => rw [hh] at h; cases h
          | some ip => rw [hh] at h; exact ⟨ip, rfl, by simpa using h⟩
        have hz12 : ip.size = 17 ∧ ip.bytes = 176 := by have h := infoMK; rw [hi] at h; simpa using h
        have HI := Lib.hid (And.intro hi (And.intro hz0 (And.intro hz12.1 hz12.2)))
        clear hi hz0 hz12
        refine wp_region_M (fun W => W.cell? ⟨g, 0, none⟩ = some (.slice Av l.length cv)) (fun k => [6, 8, 9, 12].contains k) (fun k => [12].contains k) (by kernel_rfl) ?_
        ((try dsimp only); (try simp only [Act.put, List.setIfInBounds_toArray, List.set_cons_zero, List.set_cons_succ]))
        refine M_pure (i := 0) (v := ?_) rfl (by kernel_rfl) (by kernel_rfl) (by kernel_rfl) (fun _ _ _ h => h) (by rfl) ?hy ?_; (case hy => (intro w; go_simp; with_reducible rfl)); ((try dsimp only); (try simp only [Act.put, List.setIfInBounds_toArray, List.set_cons_zero, List.set_cons_succ]))
        refine M_pure (i := 1) (v := ?_) rfl (by kernel_rfl) (by kernel_rfl) (by kernel_rfl) (fun _ _ _ h => h) (by rfl) ?hy ?_; (case hy => (intro w; go_simp; with_reducible rfl)); ((try dsimp only); (try simp only [Act.put, List.setIfInBounds_toArray, List.set_cons_zero, List.set_cons_succ]))
        refine M_pure (i := 2) (v := ?_) rfl (by kernel_rfl) (by kernel_rfl) (by kernel_rfl) (fun _ _ _ h => h) (by rfl) ?hy ?_; (case hy => (intro w; go_simp; with_reducible rfl)); ((try dsimp only); (try simp only [Act.put, List.setIfInBounds_toArray, List.set_cons_zero, List.set_cons_succ]))
        refine M_pure (i := 3) (v := ?_) rfl (by kernel_rfl) (by kernel_rfl) (by kernel_rfl) (fun _ _ _ h => h) (by rfl) ?hy ?_; (case hy => (intro w; go_simp; with_reducible rfl)); ((try dsimp only); (try simp only [Act.put, List.setIfInBounds_toArray, List.set_cons_zero, List.set_cons_succ]))
        refine M_semi (i := 4) (v := ?_) rfl (by kernel_rfl) (by kernel_rfl) (by kernel_rfl) (by kernel_rfl) (fun _ _ _ h => h) (by rfl) c0 ?hy ?_; (case hy => (intro w hS; go_simp; with_reducible rfl)); ((try dsimp only); (try simp only [Act.put, List.setIfInBounds_toArray, List.set_cons_zero, List.set_cons_succ]))
        refine M_take (i := 5) rfl (by kernel_rfl) (by kernel_rfl) (by kernel_rfl) (by kernel_rfl) (fun _ _ _ h => h) (by rfl) (exec_load_mid 39 (.tmp 3) rfl w.heap.size 0 rfl _ _ (w := X.drew) HX.out.2.2.2 Try.underlying39 rfl infoMsg) ?_; ((try dsimp only); (try simp only [Act.put, List.setIfInBounds_toArray, List.set_cons_zero, List.set_cons_succ]))
        refine M_eff (i := 6) rfl (by kernel_rfl) (by rfl) ?_
        go_wp2_with (go_at_call 79; refine HX.out.1.mono ?_; rintro e Y ⟨A1, c1, B1, d1, rfl, hM1, hXY⟩; have q0 := hXY.cell (show X.drew.cell? ⟨g, 0, none⟩ = _ from c0) (by simp); have HY := Lib.hid (And.intro hM1 hXY); clear hM1 hXY)
        refine ⟨q0, ?_⟩
        ((try dsimp only); (try simp only [Act.put, List.setIfInBounds_toArray, List.set_cons_zero, List.set_cons_succ]))
        refine M_pure (i := 7) (v := ?_) rfl (by kernel_rfl) (by kernel_rfl) (by kernel_rfl) (fun _ _ _ h => h) (by rfl) ?hy ?_; (case hy => (intro w; go_simp; with_reducible rfl)); ((try dsimp only); (try simp only [Act.put, List.setIfInBounds_toArray, List.set_cons_zero, List.set_cons_succ]))
        refine M_eff (i := 8) rfl (by kernel_rfl) (by rfl) ?_
        refine wpList_slice_one rfl 135 139 (.tmp 33) rfl Try.underlying135 ip _ HI.out.1 HI.out.2.1 (by rw [HI.out.2.2.1]; rfl) (by rw [HI.out.2.2.1]; omega) (by rw [HI.out.2.2.1]; omega) _ rfl (by rw [HI.out.2.2.1]; rfl) ?_
        have hXa : Chg [] Y (Y.alloc (.cells (Value.agg #[.int .i8 (Msg.kind m), .int .i64 (Msg.frm m), .int .i64 (Msg.to m), .int .i64 (Msg.boot m), .int .i64 (Msg.server m), .int .i64 (Msg.number m), .int .i64 (Msg.node m), .int .i64 (Msg.lease m), .int .i64 (Msg.epoch m), .int .i64 (Msg.version m), .int .i64 (Msg.e m), .slice B1 (Msg.steps m).length d1, .int .i64 (Msg.tree m).id, .int .i64 (Msg.tree m).kind, .string (Msg.tree m).text, .slice A1 (Msg.tree m).kids.length c1, .bool false]).cells 139)) := (by with_reducible repeat (first | exact Chg.refl _ _ | apply Chg.alloc | apply Chg.drew | apply Chg.drewN | (refine Chg.setCell ?_ _ _ (by simp))))
        have hwY : Chg [] w (Y.alloc (.cells (Value.agg #[.int .i8 (Msg.kind m), .int .i64 (Msg.frm m), .int .i64 (Msg.to m), .int .i64 (Msg.boot m), .int .i64 (Msg.server m), .int .i64 (Msg.number m), .int .i64 (Msg.node m), .int .i64 (Msg.lease m), .int .i64 (Msg.epoch m), .int .i64 (Msg.version m), .int .i64 (Msg.e m), .slice B1 (Msg.steps m).length d1, .int .i64 (Msg.tree m).id, .int .i64 (Msg.tree m).kind, .string (Msg.tree m).text, .slice A1 (Msg.tree m).kids.length c1, .bool false]).cells 139)) := (HX.out.2.1.drew.trans HY.out.2).trans hXa
        have hrow := HN.out.row.kept hwY (by simp)
        have hrow' := hrow.row
        rw [HN.out.len] at hrow'
        have h17 : ∀ u ∈ (#[.int .i8 (Msg.kind m), .int .i64 (Msg.frm m), .int .i64 (Msg.to m), .int .i64 (Msg.boot m), .int .i64 (Msg.server m), .int .i64 (Msg.number m), .int .i64 (Msg.node m), .int .i64 (Msg.lease m), .int .i64 (Msg.epoch m), .int .i64 (Msg.version m), .int .i64 (Msg.e m), .slice B1 (Msg.steps m).length d1, .int .i64 (Msg.tree m).id, .int .i64 (Msg.tree m).kind, .string (Msg.tree m).text, .slice A1 (Msg.tree m).kids.length c1, .bool false] : Array Value).toList, u.oneCell' = true := by simp [Value.oneCell']
        have HR := Lib.hid (And.intro hXa (And.intro hwY hrow))
        refine wpList_nil ⟨hXa.cell q0 (by simp), ?_⟩
        clear hXa hwY hrow
        ((try dsimp only); (try simp only [Act.put, List.setIfInBounds_toArray, List.set_cons_zero, List.set_cons_succ]))
        refine M_eff (i := 9) rfl (by kernel_rfl) (by rfl) ?_
        refine wpList_append_own_at _ rfl (.tmp 30) (.tmp 34) 135 rfl 0 139 ip _ 17 176 Try.underlying135 HI.out.1 HI.out.2.1 HI.out.2.2.1 HI.out.2.2.2 rfl (by omega) (.slice Av l.length cv) _ _ rfl hrow' ⟨Y.heap.size, 0, none⟩ 1 1 (#[.int .i8 (Msg.kind m), .int .i64 (Msg.frm m), .int .i64 (Msg.to m), .int .i64 (Msg.boot m), .int .i64 (Msg.server m), .int .i64 (Msg.number m), .int .i64 (Msg.node m), .int .i64 (Msg.lease m), .int .i64 (Msg.epoch m), .int .i64 (Msg.version m), .int .i64 (Msg.e m), .slice B1 (Msg.steps m).length d1, .int .i64 (Msg.tree m).id, .int .i64 (Msg.tree m).kind, .string (Msg.tree m).text, .slice A1 (Msg.tree m).kids.length c1, .bool false] : Array Value).toList rfl rfl (fun j u hu => by rw [Addr.add_mid]; exact range_all (heap_new Y _ rfl) j u hu) h17 (by unfold maxLen; omega) (by omega) (by simp) ?_
        intro v' Z hown' hgr _ hat
        have hC3 : Chg (Value.slice Av l.length cv).ownBlock.toList w Z := (HR.out.2.1.mono (by simp)).grown hgr (by intro k hk; rw [hk]; simp)
        have hbox := hC3.at HN.out.box (fun hm => (HN.out.own g (by simpa using hm)).2 rfl)
        have z0 := cell1 hbox
        have zf := blkF hbox 0
        obtain ⟨A', c', rfl⟩ := own_slice hown'
        have HZ := Lib.hid (And.intro hown' (And.intro hgr (And.intro hat (And.intro hC3 hbox))))
        clear hown' hgr hat hC3 hbox hrow' h17 q0 c0
        refine wpList_nil ⟨z0, ?_⟩
        ((try dsimp only); (try simp only [Act.put, List.setIfInBounds_toArray, List.set_cons_zero, List.set_cons_succ]))
        refine M_pure (i := 10) (v := ?_) rfl (by kernel_rfl) (by kernel_rfl) (by kernel_rfl) (fun _ _ _ h => h) (by rfl) ?hy ?_; (case hy => (intro w; go_simp; with_reducible rfl)); ((try dsimp only); (try simp only [Act.put, List.setIfInBounds_toArray, List.set_cons_zero, List.set_cons_succ]))
        refine M_pure (i := 11) (v := ?_) rfl (by kernel_rfl) (by kernel_rfl) (by kernel_rfl) (fun _ _ _ h => h) (by rfl) ?hy ?_; (case hy => (intro w; go_simp; with_reducible rfl)); ((try dsimp only); (try simp only [Act.put, List.setIfInBounds_toArray, List.set_cons_zero, List.set_cons_succ]))
        refine M_brk (i := 12) rfl (by kernel_rfl) (by rfl) (by rfl) ?_
        go_wp2_with fail
        refine M_done (by kernel_rfl) ?_ _
        go_wp2_with fail
        go_ret
        refine ⟨rfl, ?_⟩
        exact net_push HN.out HV.out.2.2.1 h3 HY.out.1 (by have := HX.out.2.1.size; simpa using this) HR.out.1 (by simp) HR.out.2.1 HZ.out.1 HZ.out.2.1 HZ.out.2.2.1
    · have h2' : inside m.to = false := by simpa using h2
      have hs : sendCode m l.length = 2 := by simp [sendCode, h2']
      unfold SendPost
      rw [hs]
      clear hs h2
      go_enter Try.func42, Try.ntmps42
      go_wp2_with (first
        | (go_at_call 78; refine (address_any _ _).mono ?_; rintro e X ⟨rfl, rfl⟩)
        | fail)
      go_ret
      exact ⟨rfl, NetPost.same HV.out.1 HV.out.2.2.2⟩
  · have h1' : inside m.frm = false := by simpa using h1
    have hs : sendCode m l.length = 2 := by simp [sendCode, h1']
    unfold SendPost
    rw [hs]
    clear hs h1
    go_enter Try.func42, Try.ntmps42
    go_wp2_with (first
      | (go_at_call 78; refine (address_any _ _).mono ?_; rintro e X ⟨rfl, rfl⟩)
      | fail)
    go_ret
    exact ⟨rfl, NetPost.same HV.out.1 HV.out.2.2.2⟩
end Go.Proofs.Ytipijkpjmpejlaa
