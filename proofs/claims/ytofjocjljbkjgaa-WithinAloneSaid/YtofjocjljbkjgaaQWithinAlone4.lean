/- Parts of the proof of the law WithinAlone, number 4 of 5: laws over memory, contracts of functions, walks. No condition. -/
import Derived.Deep.CutRange
import Derived.Laws.EntriesVeiled
import Derived.Deep.CutBlock
import Derived.Deep.DeepCutAuto
import Derived.Test.YtofjocjljbkjgaaQWithinAlone3
set_option linter.unusedVariables false
set_option linter.unusedSimpArgs false
namespace Go.Proofs.Ytofjocjljbkjgaa
open Go.RowKit
theorem at_append : ∀ (p q : List Nat) (t : Tr), Tr.at? (p ++ q) t = match Tr.at? p t with | some r => Tr.at? q r | none => none
  | [], q, t => rfl
  | i :: p, q, t => by
    simp only [List.cons_append, Tr.at?]
    cases t.kids[i]? with
    | none => rfl
    | some k => exact at_append p q k
theorem at_upd : ∀ (p : List Nat) (t r x : Tr), Tr.at? p t = some r → Tr.at? p (Tr.upd p t x) = some x
  | [], t, r, x, _ => rfl
  | i :: p, t, r, x, h => by
    simp only [Tr.at?] at h
    cases hk : t.kids[i]? with
    | none => rw [hk] at h; cases h
    | some k =>
      rw [hk] at h
      simp only [Tr.upd, hk, Tr.at?]
      rw [List.getElem?_set_self (List.getElem?_eq_some_iff.1 hk).1]
      exact at_upd p k r x h
theorem upd_upd : ∀ (p : List Nat) (t r x y : Tr), Tr.at? p t = some r → Tr.upd p (Tr.upd p t x) y = Tr.upd p t y
  | [], t, r, x, y, _ => rfl
  | i :: p, t, r, x, y, h => by
    simp only [Tr.at?] at h
    cases hk : t.kids[i]? with
    | none => rw [hk] at h; cases h
    | some k =>
      rw [hk] at h
      simp only [Tr.upd, hk]
      rw [List.getElem?_set_self (List.getElem?_eq_some_iff.1 hk).1]
      simp only [List.set_set, upd_upd p k r x y h]
theorem upd_append : ∀ (p q : List Nat) (t r x : Tr), Tr.at? p t = some r → Tr.upd (p ++ q) t x = Tr.upd p t (Tr.upd q r x)
  | [], q, t, r, x, h => by simp only [Tr.at?, Option.some.injEq] at h; subst h; rfl
  | i :: p, q, t, r, x, h => by
    simp only [Tr.at?] at h
    cases hk : t.kids[i]? with
    | none => rw [hk] at h; cases h
    | some k =>
      rw [hk] at h
      simp only [List.cons_append, Tr.upd, hk, upd_append p q k r x h]
theorem upd_ids {p : List Nat} {t r : Tr} (h : Tr.at? p t = some r) : ∃ l1 l2, t.ids = l1 ++ r.ids ++ l2 ∧ ∀ x, (Tr.upd p t x).ids = l1 ++ x.ids ++ l2 := by
  obtain ⟨l1, l2, h1, h2⟩ := upd_labs p t r h
  refine ⟨l1.map (·.1), l2.map (·.1), ?_, fun x => ?_⟩
  · rw [← Tr.labs_ids, h1, List.map_append, List.map_append, Tr.labs_ids]
  · rw [← Tr.labs_ids, h2, List.map_append, List.map_append, Tr.labs_ids]
theorem at_ids {p : List Nat} {t r : Tr} (h : Tr.at? p t = some r) {x : Int} (hx : x ∈ r.ids) : x ∈ t.ids := by
  obtain ⟨l1, l2, h1, _⟩ := upd_ids h
  rw [h1]; simp [hx]
theorem at_nodup {p : List Nat} {t r : Tr} (h : Tr.at? p t = some r) (hn : t.ids.Nodup) : r.ids.Nodup := by
  obtain ⟨l1, l2, h1, _⟩ := upd_ids h
  rw [h1, List.nodup_append, List.nodup_append] at hn
  exact hn.1.2.1
theorem kid_ids {ks : List Tr} {i : Nat} (hi : i < ks.length) : idsL ks = idsL (ks.take i) ++ (ks[i]).ids ++ idsL (ks.drop (i + 1)) := by
  have h : ks = ks.take i ++ ks[i] :: ks.drop (i + 1) := by rw [← List.drop_eq_getElem_cons hi, List.take_append_drop]
  rw [congrArg idsL h, idsL_append]
  simp [idsL]
theorem kid_apart {ks : List Tr} (hn : (idsL ks).Nodup) {i j : Nat} (hi : i < ks.length) (hj : j < i) {x : Int} (hx : x ∈ (ks[i]).ids) : x ∉ (ks[j]'(by omega)).ids := by
  rw [kid_ids hi, List.append_assoc, List.nodup_append] at hn
  intro h
  refine hn.2.2 x ?_ x (List.mem_append_left _ hx) rfl
  refine mem_idsL (k := ks[j]'(by omega)) ?_ h
  rw [List.mem_iff_getElem]
  exact ⟨j, by simp; omega, by simp⟩
theorem root_apart {t : Tr} (hn : t.ids.Nodup) {x : Int} (hx : x ∈ idsL t.kids) : t.id ≠ x := by
  rw [Tr.ids_eq, List.nodup_cons] at hn
  intro e
  exact hn.1 (by rw [e]; exact hx)
theorem path_comp {id : Int} : ∀ (p : List Nat) (t r : Tr) (q : List Nat), Tr.at? p t = some r → t.ids.Nodup → r.path id = some q → t.path id = some (p ++ q)
  | [], t, r, q, h, _, hq => by simp only [Tr.at?, Option.some.injEq] at h; subst h; exact hq
  | i :: p, t, r, q, h, hn, hq => by
    simp only [Tr.at?] at h
    cases hk : t.kids[i]? with
    | none => rw [hk] at h; cases h
    | some k =>
      rw [hk] at h
      have hi := (List.getElem?_eq_some_iff.1 hk).1
      have he := (List.getElem?_eq_some_iff.1 hk).2
      have hnk : (idsL t.kids).Nodup := by have := hn; rw [Tr.ids_eq, List.nodup_cons] at this; exact this.2
      have hkn : k.ids.Nodup := by rw [kid_ids hi, List.nodup_append, List.nodup_append] at hnk; rw [← he]; exact hnk.1.2.1
      have ih := path_comp p k r q h hkn hq
      have hid : id ∈ k.ids := (Tr.path_iff id k).1 (by rw [ih]; rfl)
      rw [← he] at hid ih
      rw [Tr.path_eq, if_neg (root_apart hn (mem_idsL (List.getElem_mem hi) hid)), pathL_step id t.kids i 0 hi (fun j hj => path_none (kid_apart hnk hi hj hid)), ih]
      simp
theorem out_comp {id : Int} {y r2 : Tr} : ∀ (p : List Nat) (t r : Tr), Tr.at? p t = some r → t.ids.Nodup → r.id ≠ id → r.out id = some (y, r2) → t.out id = some (y, Tr.upd p t r2)
  | [], t, r, h, _, _, hq => by simp only [Tr.at?, Option.some.injEq] at h; subst h; exact hq
  | i :: p, t, r, h, hn, hne, hq => by
    simp only [Tr.at?] at h
    cases hk : t.kids[i]? with
    | none => rw [hk] at h; cases h
    | some k =>
      rw [hk] at h
      have hi := (List.getElem?_eq_some_iff.1 hk).1
      have he := (List.getElem?_eq_some_iff.1 hk).2
      have hnk : (idsL t.kids).Nodup := by have := hn; rw [Tr.ids_eq, List.nodup_cons] at this; exact this.2
      have hkn : k.ids.Nodup := by rw [kid_ids hi, List.nodup_append, List.nodup_append] at hnk; rw [← he]; exact hnk.1.2.1
      have ih := out_comp p k r h hkn hne hq
      have hidr : id ∈ r.ids := by have := Tr.out_perm _ _ _ _ hq; rw [this.1.mem_iff, ← this.2.1]; exact List.mem_append_right _ (id_mem y)
      have hid : id ∈ k.ids := at_ids h hidr
      have hkid : k.id ≠ id := by
        cases p with
        | nil => simp only [Tr.at?, Option.some.injEq] at h; subst h; exact hne
        | cons i' p' =>
          simp only [Tr.at?] at h
          cases hk' : k.kids[i']? with
          | none => rw [hk'] at h; cases h
          | some k' =>
            rw [hk'] at h
            exact root_apart hkn (mem_idsL (List.mem_of_getElem? hk') (at_ids h hidr))
      have hno : ∀ j (hj : j < i), (t.kids[j]'(by omega)).id ≠ id ∧ (t.kids[j]'(by omega)).out id = none := fun j hj => by
        have := kid_apart hnk hi hj (by rw [he]; exact hid)
        exact ⟨fun e => this (by rw [← e]; exact id_mem _), out_none this⟩
      rw [Tr.out_eq, outL_in id y (Tr.upd p k r2) t.kids i hi (by rw [he]; exact hkid) (by rw [he]; exact ih) hno]
      simp only [Tr.upd, hk]
theorem doT_inside {t r y : Tr} {s : Stp} {p : List Nat} {root : Int} (hn : t.ids.Nodup) (hp : t.path root = some p) (hr : Tr.at? p t = some r) (hin : insideB root t s = true) (h : doT t s = .ok y) :
    ∃ r', doT r s = .ok r' ∧ y = Tr.upd p t r' ∧ r'.id = r.id := by
  have hsub : t.subT root = some r := by unfold Tr.subT; rw [hp]; exact hr
  obtain ⟨r0, hr0, hrid⟩ := Tr.path_at root t p hp
  rw [hr] at hr0
  cases hr0
  unfold insideB at hin
  rw [hsub] at hin
  simp only [Bool.and_eq_true, List.all_eq_true, decide_eq_true_eq, Bool.not_eq_true', Bool.and_eq_false_iff, Bool.or_eq_false_iff, decide_eq_false_iff_not] at hin
  obtain ⟨⟨hnot, _⟩, hall⟩ := hin
  have hrn := at_nodup hr hn
  unfold doT at h ⊢
  split at h
  · rename_i ho
    have hpar : s.par ∈ r.ids := hall _ (by unfold touches; rw [if_pos ho]; simp)
    obtain ⟨q, hq⟩ := path_some hpar
    obtain ⟨n, hqn, _⟩ := Tr.path_at _ _ _ hq
    have hpq := path_comp p t r q hr hn hq
    obtain ⟨p', n', hp', hn', hpl, hrange, hfr, rfl⟩ := insertT_ok h
    rw [hpq] at hp'; cases hp'
    rw [at_append, hr] at hn'
    simp only [] at hn'
    rw [hqn] at hn'; cases hn'
    refine ⟨Tr.upd q r { n with kids := insAt n.kids s.place.toNat s.sub }, ?_, upd_append p q t r _ hr, upd_id hqn rfl⟩
    unfold insertT
    rw [if_pos ho, hq]
    simp only [hqn]
    rw [if_pos hpl, if_pos hrange, if_pos ⟨hfr.1, fun i hi hm => hfr.2 i hi (at_ids hr hm)⟩]
  rename_i ho1
  split at h
  · rename_i ho
    have hid : s.id ∈ r.ids := hall _ (by unfold touches; rw [if_neg ho1, if_pos (.inl ho)]; simp)
    have hne : r.id ≠ s.id := by
      rcases hnot with h1 | h1
      · rw [hrid]; exact fun e => h1 e.symm
      · exact absurd ho h1.1
    obtain ⟨q, hq⟩ := path_some hid
    have hout := Tr.path_out s.id r (by rw [hq]; rfl) hne
    obtain ⟨⟨y0, r2⟩, ho2⟩ := Option.isSome_iff_exists.1 hout
    obtain ⟨_, y1, hy1⟩ := deleteT_ok h
    rw [out_comp p t r hr hn hne ho2] at hy1
    cases hy1
    refine ⟨r2, ?_, rfl, (Tr.out_perm _ _ _ _ ho2).2.2⟩
    unfold deleteT
    rw [if_neg ho1, if_pos ho, hq]
    simp only [ho2]
    rw [if_neg hne]
  rename_i ho2
  split at h
  · rename_i ho
    have hid : s.id ∈ r.ids := hall _ (by unfold touches; rw [if_neg ho1, if_neg (by omega), if_pos ho]; simp)
    have hpar : s.par ∈ r.ids := hall _ (by unfold touches; rw [if_neg ho1, if_neg (by omega), if_pos ho]; simp)
    have hne : r.id ≠ s.id := by
      rcases hnot with h1 | h1
      · rw [hrid]; exact fun e => h1 e.symm
      · exact absurd ho h1.2
    obtain ⟨q, hq⟩ := path_some hid
    obtain ⟨x1, hx1, _⟩ := Tr.path_at _ _ _ hq
    obtain ⟨qp, hqp⟩ := path_some hpar
    have hout := Tr.path_out s.id r (by rw [hq]; rfl) hne
    obtain ⟨⟨y0, r2⟩, ho3⟩ := Option.isSome_iff_exists.1 hout
    obtain ⟨_, p0, x0, y1, t2, q2, n2, hp0, hx0, hxp, hout2, hq2, hn2, hpl, rfl⟩ := moveT_ok h
    rw [path_comp p t r q hr hn hq] at hp0; cases hp0
    rw [at_append, hr] at hx0
    simp only [] at hx0
    rw [hx1] at hx0; cases hx0
    rw [out_comp p t r hr hn hne ho3] at hout2; cases hout2
    have hperm := Tr.out_perm _ _ _ _ ho3
    have ht2 := Tr.out_perm _ _ _ _ (out_comp p t r hr hn hne ho3)
    have ht2n : (Tr.upd p t r2).ids.Nodup := by
      have := ht2.1.nodup_iff.1 hn
      rw [List.nodup_append] at this
      exact this.1
    have hpr2 : s.par ∈ r2.ids := by
      rcases List.mem_append.1 (hperm.1.mem_iff.1 hpar) with h1 | h1
      · exact h1
      · exfalso
        obtain ⟨pp, hpp, hat⟩ := Tr.out_path _ _ _ _ ho3 hne
        rw [hq] at hpp; cases hpp
        rw [hx1] at hat; cases hat
        have := (Tr.path_iff s.par x1).2 h1
        rw [hxp] at this; cases this
    obtain ⟨q3, hq3⟩ := path_some hpr2
    obtain ⟨n3, hn3, _⟩ := Tr.path_at _ _ _ hq3
    have hat2 := at_upd p t r r2 hr
    rw [path_comp p _ r2 q3 hat2 ht2n hq3] at hq2; cases hq2
    rw [at_append, hat2] at hn2
    simp only [] at hn2
    rw [hn3] at hn2; cases hn2
    refine ⟨Tr.upd q3 r2 { n2 with kids := insAt n2.kids s.place.toNat y0 }, ?_, ?_, (upd_id (x := { n2 with kids := insAt n2.kids s.place.toNat y0 }) hn3 rfl).trans hperm.2.2⟩
    · unfold moveT
      rw [if_neg ho1, if_neg ho2, if_pos ho, hq, hqp]
      simp only [hx1, hxp, ho3, hq3, hn3]
      rw [if_neg hne, if_pos hpl]
      simp
    · rw [upd_append p q3 _ r2 _ hat2, upd_upd p t r _ _ hr]
  rename_i ho3
  split at h
  · rename_i ho
    have hid : s.id ∈ r.ids := hall _ (by unfold touches; rw [if_neg ho1, if_pos (.inr ho)]; simp)
    obtain ⟨q, hq⟩ := path_some hid
    obtain ⟨n, hqn, _⟩ := Tr.path_at _ _ _ hq
    obtain ⟨p', n', hp', hn', rfl⟩ := textT_ok h
    rw [path_comp p t r q hr hn hq] at hp'; cases hp'
    rw [at_append, hr] at hn'
    simp only [] at hn'
    rw [hqn] at hn'; cases hn'
    refine ⟨Tr.upd q r { n with text := s.text }, ?_, upd_append p q t r _ hr, upd_id hqn rfl⟩
    unfold textT
    rw [if_neg ho1, if_neg ho2, if_neg ho3, if_pos ho, hq]
    simp only [hqn]
  · cases h
end Go.Proofs.Ytofjocjljbkjgaa
namespace Go.Proofs.Ytofjocjljbkjgaa
open Go.RowKit
attribute [local go_sem] Oper.semAt_some
structure WS (w : World) (s : Stp) (As : Option Addr) (cs bV : Nat) (L : List Int) (v : Bool) (W : World) : Prop where
  sb : W.heap[w.heap.size + 1]? = some (.cells #[.int .i8 (Stp.op s), .int .i64 (Stp.id s), .int .i64 (Stp.par s), .int .i64 (Stp.place s), .string (Stp.text s), .int .i64 (Stp.sub s).id, .int .i64 (Stp.sub s).kind, .string (Stp.sub s).text, .slice As (Stp.sub s).kids.length cs] 27 (0, 0))
  mb : W.heap[w.heap.size + 1 + 1 + 1]? = some (.cells #[.map (some (w.heap.size + 1 + 1))] 114 (0, 0))
  mp : MapI W (w.heap.size + 1 + 1) (seenM L)
  vb : W.heap[bV]? = some (.cells #[.bool v] 4 (0, 0))
  lo : w.heap.size + 1 + 1 + 1 < bV
  chg : Chg [] w W
theorem WS.kept {w : World} {s : Stp} {As : Option Addr} {cs bV : Nat} {L : List Int} {v : Bool} {W W' : World} (h : WS w s As cs bV L v W) (hc : Chg [] W W') : WS w s As cs bV L v W' :=
  ⟨hc.at h.sb (by simp), hc.at h.mb (by simp), h.mp.kept hc (by simp), hc.at h.vb (by simp), h.lo, h.chg.trans hc⟩
theorem WS.quiet {w : World} {s : Stp} {As : Option Addr} {cs bV B : Nat} {L : List Int} {v : Bool} {W W' : World} (h : WS w s As cs bV L v W) (hq : Quiet B W W') (hB : bV < B) : WS w s As cs bV L v W' := by
  have hlo := h.lo
  obtain ⟨L', h1, h2⟩ := hq
  have hn : ∀ b, b < B → b ∉ L' := fun b hb hm => by have := (h2 b hm).1; omega
  exact ⟨h1.at h.sb (hn _ (by omega)), h1.at h.mb (hn _ (by omega)), h.mp.kept h1 (hn _ (by omega)), h1.at h.vb (hn _ hB), h.lo, h.chg.andThen h1 (fun i hi => .inr (by have := (h2 i hi).1; omega))⟩
theorem WS.set {w : World} {s : Stp} {As : Option Addr} {cs bV : Nat} {L : List Int} {v : Bool} {W : World} (h : WS w s As cs bV L v W) (u : Bool) : WS w s As cs bV L u (W.setCell ⟨bV, 0, none⟩ (.bool u)) ∧ Chg [bV] W (W.setCell ⟨bV, 0, none⟩ (.bool u)) := by
  have hlo := h.lo
  have hc : Chg [bV] W (W.setCell ⟨bV, 0, none⟩ (.bool u)) := (Chg.refl _ _).setCell _ _ (by simp)
  exact ⟨⟨hc.at h.sb (by simp; omega), hc.at h.mb (by simp; omega), h.mp.kept hc (by simp; omega), heap_setCell_same _ _ 0 _ _ _ h.vb, hlo, h.chg.andThen hc (by simp; omega)⟩, hc⟩
theorem bodyM_ret0 {P : Program} {fn : Func} {R : Ending → World → Prop} {a : Act} {w : World} {v : Value} (hd : a.defers = []) (hr : (results fn a.tmps).run P w = .ok v w) (h : R (.returned v) w) : bodyPostM W0 0 P fn R .ret a w := by
  show LeavesInM W0 0 P fn a.tmps R a.defers .returning w
  rw [hd]
  exact ⟨_, hr, h⟩
theorem step_ret0 {w W : World} {v : Bool} (hc : Chg [] w W) (a : Act) (hd : a.defers = []) (h6 : a.tmps.getD 6 undef = .bool v) : bodyPostM W0 0 Try.prog Try.f61 (fun e w' => e = .returned (.bool v) ∧ Chg [] w w') .ret a W := by
  have h6' : a.tmps[6]?.getD undef = .bool v := by simpa using h6
  refine bodyM_ret0 hd (v := .bool v) ?_ ⟨rfl, hc⟩
  simp [results, Try.results61, go_sem, h6']
theorem step_ret {w W : World} {s : Stp} {As : Option Addr} {cs bV D : Nat} {L : List Int} {v : Bool} (h : WS w s As cs bV L v W) (hD : bV < D) (hK : W.heap[D]? = some (.deferred (some []))) (a : Act) (hd : a.defers = [{ target := .collected D, args := #[] }]) (h6 : a.tmps.getD 6 undef = .bool v) :
    bodyPostM W0 0 Try.prog Try.f61 (fun e w' => e = .returned (.bool v) ∧ Chg [] w w') .ret a W := by
  have hlo := h.lo
  have hP : Chg [D] W (W.putObj D (.deferred none)) := ⟨rfl, rfl, rfl, by simp, fun j _ hj => World.putObj_heap_other (by simpa using hj)⟩
  have h6' : a.tmps[6]?.getD undef = .bool v := by simpa using h6
  refine bodyM_ret hd hK (v := .bool v) ?_ ⟨rfl, h.chg.andThen hP (fun j hj => .inr (by simp at hj; omega))⟩
  simp [results, Try.results61, go_sem, h6']
set_option maxHeartbeats 4000000 in
set_option maxRecDepth 100000 in
theorem wstep_any (t : Tr) (A : Option Addr) (c : Nat) (root : Int) (s : Stp) (As : Option Addr) (cs : Nat) (w : World) (hT : TrC (fun b => b < w.heap.size) w t [.int .i64 (Tr.id t), .int .i64 (Tr.kind t), .string (Tr.text t), .slice A (Tr.kids t).length c]) :
    Calls Try.prog 61 #[.agg #[.int .i64 (Tr.id t), .int .i64 (Tr.kind t), .string (Tr.text t), .slice A (Tr.kids t).length c], .int .i64 root, .agg #[.int .i8 (Stp.op s), .int .i64 (Stp.id s), .int .i64 (Stp.par s), .int .i64 (Stp.place s), .string (Stp.text s), .int .i64 (Stp.sub s).id, .int .i64 (Stp.sub s).kind, .string (Stp.sub s).text, .slice As (Stp.sub s).kids.length cs]] w fun e w' => e = .returned (.bool (insideB root t s)) ∧ Chg [] w w' := by
  have hmm := @run_makeMap Try.prog
  obtain ⟨W, hW⟩ : ∃ W, W = (((w.alloc (.cells #[.int .i64 (Tr.id t), .int .i64 (Tr.kind t), .string (Tr.text t), .slice A (Tr.kids t).length c] 24)).alloc (.cells #[.int .i8 (Stp.op s), .int .i64 (Stp.id s), .int .i64 (Stp.par s), .int .i64 (Stp.place s), .string (Stp.text s), .int .i64 (Stp.sub s).id, .int .i64 (Stp.sub s).kind, .string (Stp.sub s).text, .slice As (Stp.sub s).kids.length cs] 27)).alloc (.map #[] 0)).alloc (.cells #[.map (some (w.heap.size + 1 + 1))] 114) := ⟨_, rfl⟩
  have hcW : Chg [] w W := by rw [hW]; exact (by with_reducible repeat (first | exact Chg.refl _ _ | apply Chg.alloc | apply Chg.drew | apply Chg.drewN | (refine Chg.setCell ?_ _ _ (by simp))))
  have b0 : W.heap[w.heap.size]? = some (.cells #[.int .i64 (Tr.id t), .int .i64 (Tr.kind t), .string (Tr.text t), .slice A (Tr.kids t).length c] 24 (0, 0)) := by rw [hW]; exact heap_old (heap_old (heap_old (heap_new _ _ rfl) _) _) _
  have b1 : W.heap[w.heap.size + 1]? = some (.cells #[.int .i8 (Stp.op s), .int .i64 (Stp.id s), .int .i64 (Stp.par s), .int .i64 (Stp.place s), .string (Stp.text s), .int .i64 (Stp.sub s).id, .int .i64 (Stp.sub s).kind, .string (Stp.sub s).text, .slice As (Stp.sub s).kids.length cs] 27 (0, 0)) := by rw [hW]; exact heap_old (heap_old (heap_new _ _ (by simp)) _) _
  have b3 : W.heap[w.heap.size + 1 + 1 + 1]? = some (.cells #[.map (some (w.heap.size + 1 + 1))] 114 (0, 0)) := by rw [hW]; exact heap_new _ _ (by simp)
  have hM : MapI W (w.heap.size + 1 + 1) (seenM []) := by
    have h1 := MapI.made ((w.alloc (.cells #[.int .i64 (Tr.id t), .int .i64 (Tr.kind t), .string (Tr.text t), .slice A (Tr.kids t).length c] 24)).alloc (.cells #[.int .i8 (Stp.op s), .int .i64 (Stp.id s), .int .i64 (Stp.par s), .int .i64 (Stp.place s), .string (Stp.text s), .int .i64 (Stp.sub s).id, .int .i64 (Stp.sub s).kind, .string (Stp.sub s).text, .slice As (Stp.sub s).kids.length cs] 27))
    rw [show (fun _ => none : Int → Option Value) = seenM [] from by funext n; simp [seenM], show ((w.alloc (.cells #[.int .i64 (Tr.id t), .int .i64 (Tr.kind t), .string (Tr.text t), .slice A (Tr.kids t).length c] 24)).alloc (.cells #[.int .i8 (Stp.op s), .int .i64 (Stp.id s), .int .i64 (Stp.par s), .int .i64 (Stp.place s), .string (Stp.text s), .int .i64 (Stp.sub s).id, .int .i64 (Stp.sub s).kind, .string (Stp.sub s).text, .slice As (Stp.sub s).kids.length cs] 27)).heap.size = w.heap.size + 1 + 1 from by simp] at h1
    rw [hW]; exact h1.kept (l := []) (by with_reducible repeat (first | exact Chg.refl _ _ | apply Chg.alloc | apply Chg.drew | apply Chg.drewN | (refine Chg.setCell ?_ _ _ (by simp)))) (by simp)
  have hbl := below_any (w.heap.size + 1 + 1) root t w.heap.size 0 false [] W ⟨_, range_all b0, (hT.kept hcW (by simp)).weak (fun b hb _ => by omega)⟩ (by omega) hM
  have m3 := cellOne b3
  have HW := Lib.hid (And.intro hW (And.intro hcW (And.intro b1 (And.intro b3 hbl))))
  rw [hW] at m3
  clear hW hcW b0 b1 b3 hM hbl hT
  refine callsIn_wide.1 (callsIn_of_wp_marks (n := 0) Try.func61 rfl trivial (wpIn_wide.2 ?_))
  simp only [Try.ntmps61, List.size_toArray, List.length_cons, List.length_nil, Nat.reduceAdd, Nat.reduceSub, Array.replicate_succ, Array.replicate_zero, List.push_toArray, List.append_toArray, List.nil_append, List.cons_append]
  go_wp2_with fail
  go_step3
  go_wp2_with fail
  rw [← HW.out.1]
  clear m3
  refine HW.out.2.2.2.2.mono ?_
  rintro e X ⟨rfl, hmX, hcX⟩
  rw [List.nil_append] at hmX
  rw [Bool.false_or]
  have hwX : Chg [] w X := HW.out.2.1.andThen hcX (by simp; omega)
  have x1 := hcX.at HW.out.2.2.1 (by simp)
  have x3 := hcX.at HW.out.2.2.2.1 (by simp)
  have hlo := lt_of_block x3
  have hXs : X.heap.size ≠ 0 := by omega
  by_cases hr : root ∈ t.ids
  · obtain ⟨x, hx, _⟩ := subT_some hr
    have hin : insideB root t s = (!(decide (s.id = root) && (decide (s.op = 2) || decide (s.op = 3))) && !(touches s).isEmpty && (touches s).all (fun i => decide (i ∈ x.ids))) := by unfold insideB; rw [hx]
    have hmk : marked root false t = x.ids := by unfold marked; rw [hx]; rfl
    rw [hmk] at hmX
    rw [decide_eq_true hr]
    have hXV : Chg [] X (X.alloc (.cells #[.bool true] 4)) := (by with_reducible repeat (first | exact Chg.refl _ _ | apply Chg.alloc | apply Chg.drew | apply Chg.drewN | (refine Chg.setCell ?_ _ _ (by simp))))
    obtain ⟨q0, q1, q2, q3, q4, q5, q6, q7, q8⟩ := blk9 (hXV.at x1 (by simp))
    have HX := Lib.hid (And.intro hin (And.intro hmX (And.intro hwX (And.intro x1 x3))))
    clear hr hx hin hmk hmX hcX hwX x1 x3
    go_upto_region 3 with (skip; fail)
    go_cut [31] from 14 to 31 (fun v wx => wx = X.alloc (.cells #[.bool true] 4) ∧ v = .bool (decide (s.id = root) && (decide (s.op = 2) || decide (s.op = 3))))
    case first =>
      by_cases h1 : s.id = root
      · have d1 : (s.id == root) = true := by simpa using h1
        by_cases h2 : s.op = 2
        · have d2 : (s.op == 2) = true := by simpa using h2
          have HE := Lib.hid (show (decide (s.id = root) && (decide (s.op = 2) || decide (s.op = 3))) = true by simp [h1, h2])
          clear h1 h2
          go_wp2_with (skip; fail)
          go_meet
          exact ⟨rfl, by rw [HE.out]⟩
        · have d2 : (s.op == 2) = false := by simpa using h2
          by_cases h3 : s.op = 3
          · have d3 : (s.op == 3) = true := by simpa using h3
            have HE := Lib.hid (show (decide (s.id = root) && (decide (s.op = 2) || decide (s.op = 3))) = true by simp [h1, h3])
            clear h1 h2 h3
            go_wp2_with (skip; fail)
            go_meet
            exact ⟨rfl, by rw [HE.out]⟩
          · have d3 : (s.op == 3) = false := by simpa using h3
            have HE := Lib.hid (show (decide (s.id = root) && (decide (s.op = 2) || decide (s.op = 3))) = false by simp [h2, h3])
            clear h1 h2 h3
            go_wp2_with (skip; fail)
            go_meet
            exact ⟨rfl, by rw [HE.out]⟩
      · have d1 : (s.id == root) = false := by simpa using h1
        have HE := Lib.hid (show (decide (s.id = root) && (decide (s.op = 2) || decide (s.op = 3))) = false by simp [h1])
        clear h1
        go_wp2_with (skip; fail)
        go_meet
        exact ⟨rfl, by rw [HE.out]⟩
    case rest =>
    obtain ⟨rfl, rfl⟩ := hcut
    cases hb : (decide (s.id = root) && (decide (s.op = 2) || decide (s.op = 3))) with
    | true =>
      have HB := Lib.hid hb
      clear hb
      go_wp2_with (skip; fail)
      rw [Exit.noGoto_ret]
      show bodyPostM W0 0 Try.prog Try.f61 (fun e w' => e = .returned (.bool (insideB root t s)) ∧ Chg [] w w') .ret _ _
      rw [show insideB root t s = false from by rw [HX.out.1, HB.out]; rfl]
      exact step_ret0 (HX.out.2.2.1.alloc _) _ rfl rfl
    | false =>
      have HB := Lib.hid hb
      obtain ⟨Y, hY⟩ : ∃ Y, Y = X.alloc (.cells #[.bool false] 4) := ⟨_, rfl⟩
      have hXY : Chg [] X Y := by rw [hY]; exact (by with_reducible repeat (first | exact Chg.refl _ _ | apply Chg.alloc | apply Chg.drew | apply Chg.drewN | (refine Chg.setCell ?_ _ _ (by simp))))
      have hS : WS w s As cs X.heap.size x.ids false Y := ⟨hXY.at HX.out.2.2.2.1 (by simp), hXY.at HX.out.2.2.2.2 (by simp), HX.out.2.1.kept hXY (by simp), by rw [hY]; exact heap_new _ _ rfl, by omega, HX.out.2.2.1.trans hXY⟩
      obtain ⟨p0, p1, p2, p3, p4, p5, p6, p7, p8⟩ := blk9 hS.sb
      have HY := Lib.hid (And.intro hS (And.intro (show Y.heap.size = X.heap.size + 1 by rw [hY]; simp) hY))
      rw [hY] at p0 p1 p2 p3 p4 p5 p6 p7 p8
      clear hb hY hXY hS q0 q1 q2 q3 q4 q5 q6 q7 q8
      go_wp2_with (skip; fail)
      go_step3
      go_wp2_with fail
      rw [← HY.out.2.2]
      clear p0 p1 p2 p3 p4 p5 p6 p7 p8
      refine (touch_any s As cs Y).mono ?_
      rintro e Z ⟨rfl, hZb, hYZ⟩
      have HZ := Lib.hid (And.intro (HY.out.1.kept hYZ) (And.intro hZb (show X.heap.size < Y.heap.size by have := HY.out.2.1; omega)))
      have hYl := lt_of_block hZb
      clear hZb hYZ
      go_wp2_with fail
      refine wp_range (gf := 138) (lb := #[.pointer (some ⟨Y.heap.size, 0, none⟩)]) rfl (enters_of Try.func138 (by kernel_rfl) rfl) (touch_iter Y.heap.size s As cs) (fun l i x args W h => by rw [show args = #[.int .i64 x] from h]; rfl)
        (fun i W => WS w s As cs X.heap.size x.ids (decide (0 < i)) W ∧ StI Y.heap.size s As cs W ∧ ∀ (j : Nat) (y : Int), j < i → (touches s)[j]? = some y → y ∈ x.ids)
        (fun c W => c = .exit 0 ∧ WS w s As cs X.heap.size x.ids false W ∧ ∃ (j : Nat) (y : Int), (touches s)[j]? = some y ∧ y ∉ x.ids)
        (fun i W h => h.2.1) (fun i W W' h hq => ⟨h.1.quiet hq (by have := HZ.out.2.2; omega), hq.low h.2.1 hYl, h.2.2⟩) (fun c W W' h hq => ⟨h.1, h.2.1.quiet hq (by have := HZ.out.2.2; omega), h.2.2⟩)
        ⟨HZ.out.1, HZ.out.2.1, fun j y hj => by omega⟩ ?round ?done ?stop
      case round =>
        rintro l i y args W2 ⟨hS, hI, hall⟩ hy rfl hl hlB
        have H1 := Lib.hid (And.intro hS (And.intro hI (And.intro hall hy)))
        clear hS hI hall hy hl hlB
        gi_wp2
        refine ⟨Books.refl _ _, fun W3 hc3 hq3 => ?_⟩
        have hZX := HZ.out.2.2
        have hS3 := H1.out.1.quiet hq3 (by omega)
        have hI3 : StI Y.heap.size s As cs W3 := hq3.low H1.out.2.1 hYl
        have c7 := cellOne hS3.mb
        have c8 := cellOne hS3.vb
        have f8 := blkF hS3.vb 0
        obtain ⟨hS4, hcS⟩ := hS3.set (decide (y ∈ x.ids))
        have hlk := lookup_run (P := Try.prog) (T := 114) Try.underlying114 Try.underlying3 (zeroB W3) hS3.mp y false
        have hBk : Books Z.heap.size W3 (W3.setCell ⟨X.heap.size, 0, none⟩ (.bool (decide (y ∈ x.ids)))) := Books.of_chg hcS (by simp; omega)
        have hI4 : StI Y.heap.size s As cs (W3.setCell ⟨X.heap.size, 0, none⟩ (.bool (decide (y ∈ x.ids)))) := hcS.at hI3 (by simp; omega)
        by_cases hin : y ∈ x.ids
        · rw [show seenM x.ids y = some (.bool true) from by simp [seenM, hin]] at hlk
          simp only [Option.getD_some, Bool.false_eq_true, if_false] at hlk
          rw [decide_eq_true hin] at hS4 hBk hI4
          have H2 := Lib.hid (And.intro hS4 (And.intro hBk (And.intro hI4 hin)))
          clear hS3 hI3 hS4 hcS hBk hI4 hin hc3 hq3
          gi_wp2
          refine ⟨H2.out.2.1, ?_, H2.out.2.2.1, fun j z hj hz => ?_⟩
          · rw [decide_eq_true (by omega)]; exact H2.out.1
          · by_cases e : j = i
            · subst e
              rw [H1.out.2.2.2] at hz; cases hz
              exact H2.out.2.2.2
            · exact H1.out.2.2.1 j z (by omega) hz
        · rw [show seenM x.ids y = none from by simp [seenM, hin]] at hlk
          simp only [Option.getD_none, Bool.false_eq_true, if_false] at hlk
          rw [decide_eq_false hin] at hS4 hBk hI4
          have H2 := Lib.hid (And.intro hS4 (And.intro hBk hin))
          clear hS3 hI3 hS4 hcS hBk hI4 hin hc3 hq3
          gi_wp2
          exact ⟨H2.out.2.1, rfl, H2.out.1, i, y, H1.out.2.2.2, H2.out.2.2⟩
      case done =>
        rintro D W2 hD ⟨hS, hI, hall⟩ hK
        have hZX := HZ.out.2.2
        have c8 := cellOne hS.vb
        have H1 := Lib.hid (And.intro hS (And.intro hall hK))
        clear hS hI hall hK
        have hZs := lt_of_block HZ.out.1.vb
        go_wp2
        rw [Exit.noGoto_ret]
        show bodyPostM W0 0 Try.prog Try.f61 (fun e w' => e = .returned (.bool (insideB root t s)) ∧ Chg [] w w') .ret _ _
        have hv : insideB root t s = decide (0 < (touches s).length) := by
          rw [HX.out.1, HB.out]
          cases ht : touches s with
          | nil => rfl
          | cons a l =>
            simp only [Bool.not_false, List.isEmpty_cons, Bool.true_and, List.length_cons]
            rw [decide_eq_true (by omega), List.all_eq_true.2]
            intro z hz
            obtain ⟨j, hj, rfl⟩ := List.getElem_of_mem hz
            have := H1.out.2.1 j ((a :: l)[j]) (by rw [ht]; exact hj) (by rw [ht]; exact List.getElem?_eq_getElem hj)
            simpa using this
        rw [hv]
        exact step_ret H1.out.1 (by omega) H1.out.2.2 _ rfl rfl
      case stop =>
        rintro D c W2 hD ⟨rfl, hS, hno⟩ hK
        have hZX := HZ.out.2.2
        have c8 := cellOne hS.vb
        have H1 := Lib.hid (And.intro hS (And.intro hno hK))
        clear hS hno hK
        have hZs := lt_of_block HZ.out.1.vb
        go_wp2
        rw [Exit.noGoto_ret]
        show bodyPostM W0 0 Try.prog Try.f61 (fun e w' => e = .returned (.bool (insideB root t s)) ∧ Chg [] w w') .ret _ _
        have hv : insideB root t s = false := by
          obtain ⟨j, y, hj, hy⟩ := H1.out.2.1
          rw [HX.out.1, HB.out, List.all_eq_false.2 ⟨y, List.mem_of_getElem? hj, by simpa using hy⟩]
          simp
        rw [hv]
        exact step_ret H1.out.1 (by omega) H1.out.2.2 _ rfl rfl
  · have hin : insideB root t s = false := by unfold insideB; rw [subT_none hr]
    rw [decide_eq_false hr]
    have HX := Lib.hid (And.intro hin hwX)
    clear hr hin hmX hcX hwX x1 x3
    go_wp2_with (skip; fail)
    rw [Exit.noGoto_ret]
    show bodyPostM W0 0 Try.prog Try.f61 (fun e w' => e = .returned (.bool (insideB root t s)) ∧ Chg [] w w') .ret _ _
    rw [HX.out.1]
    exact step_ret0 (HX.out.2.alloc _) _ rfl rfl
end Go.Proofs.Ytofjocjljbkjgaa
namespace Go.Proofs.Ytofjocjljbkjgaa
open Go.RowKit
def Kd.Small (k : Kd) : Prop := k.name.size ≤ 200 ∧ k.slots.length ≤ 20 ∧ ∀ (j : Nat) (s : Sl), k.slots[j]? = some s → s.kinds.length ≤ 40
def Gr.Small (g : Gr) : Prop := g.kinds.length ≤ 40 ∧ ∀ (i : Nat) (k : Kd), g.kinds[i]? = some k → k.Small
set_option maxHeartbeats 16000000 in
set_option maxRecDepth 100000 in
theorem great5_any (g : Gr) (A : Option Addr) (c : Nat) (w : World) (hG : GrC w A c g.kinds) :
    Calls Try.prog 21 #[.agg #[.slice A g.kinds.length c, .int .i64 g.root]] w (BoolIs (¬ g.Small) w) := by
  obtain ⟨W1, hW1⟩ : ∃ W1, W1 = w.alloc (.cells #[.slice A g.kinds.length c, .int .i64 g.root] 43) := ⟨_, rfl⟩
  have hch : Chg [] w W1 := by rw [hW1]; exact (by with_reducible repeat (first | exact Chg.refl _ _ | apply Chg.alloc | apply Chg.drew | apply Chg.drewN | (refine Chg.setCell ?_ _ _ (by simp))))
  have hg1 : W1.heap[w.heap.size]? = some (.cells #[.slice A g.kinds.length c, .int .i64 g.root] 43 (0, 0)) := by rw [hW1]; exact heap_new _ _ rfl
  have hgl : g.kinds.length ≤ 9223372036854775807 := by have := hG.cap; have := hG.big; omega
  have HC := Lib.hid (And.intro hch (And.intro hg1 (And.intro hW1 (hG.kept hch))))
  obtain ⟨a0, a1⟩ := cell2 hg1
  rw [hW1] at a0 a1
  clear hG hch hg1 hW1
  go_enter Try.func21, Try.ntmps21
  by_cases h40 : 40 < g.kinds.length
  · have d1 : decide (40 < (g.kinds.length : Int)) = true := decide_eq_true (by omega)
    have d1' : decide (40 < g.kinds.length) = true := decide_eq_true h40
    have HN := Lib.hid (show ¬ g.Small from fun h => by have := h.1; omega)
    go_wp2_with (skip; fail)
    go_ret
    exact ⟨true, rfl, by simp [HN.out], (by with_reducible repeat (first | exact Chg.refl _ _ | apply Chg.alloc | apply Chg.drew | apply Chg.drewN | (refine Chg.setCell ?_ _ _ (by simp))))⟩
  have d1 : decide (40 < (g.kinds.length : Int)) = false := decide_eq_false (by omega)
  have d1' : decide (40 < g.kinds.length) = false := decide_eq_false h40
  go_wp2_with (skip; fail)
  clear d1 d1' a0 a1
  rw [← HC.out.2.2.1]
  go_loopw [12] (fun iv wr => ∃ i : Nat, i ≤ g.kinds.length ∧ iv = .int .i64 i ∧ Hid (Chg [] W1 wr ∧ ∀ (j : Nat) (k : Kd), j < i → g.kinds[j]? = some k → k.Small)) (fun iv _ => g.kinds.length - (intOf iv).toNat)
  case atStart => exact ⟨0, Nat.zero_le _, rfl, Lib.hid ⟨Chg.refl _ _, fun j k hj => by omega⟩⟩
  case round =>
    obtain ⟨i, hi, rfl, H⟩ := hrel
    obtain ⟨V, hV⟩ : ∃ V, V = wr := ⟨_, rfl⟩
    subst hV
    obtain ⟨a0, a1⟩ := cell2 (H.out.1.at HC.out.2.1 (by simp))
    by_cases hlt : i < g.kinds.length
    · obtain ⟨gk, ok, hA, _, hat⟩ := (HC.out.2.2.2.kept H.out.1).row.at hlt
      obtain ⟨k, hk⟩ : ∃ k, k = g.kinds[i] := ⟨_, rfl⟩
      rw [← hk] at hat
      have hke : g.kinds[i]? = some k := by rw [hk]; exact List.getElem?_eq_getElem hlt
      obtain ⟨As, cs, hr, hnm, hsl, hrs⟩ := hat.range
      subst hA
      have e0 : V.cell? ⟨gk, ok + i * 3, none⟩ = some (.string k.name) := hr 0 _ rfl
      have e2 : V.cell? ⟨gk, ok + i * 3 + 2, none⟩ = some (.slice As k.slots.length cs) := hr 2 _ rfl
      have HK := Lib.hid (And.intro hke (And.intro hrs (And.intro e2 HC.out.2.1)))
      clear hk hat hke hr hrs
      by_cases h200 : 200 < k.name.size
      · have d1 : decide (200 < (k.name.size : Int)) = true := decide_eq_true (by omega)
        have d1' : decide (200 < k.name.size) = true := decide_eq_true h200
        have HN := Lib.hid (show ¬ g.Small from fun h => by have := (h.2 i k HK.out.1).1; omega)
        go_wp2_with (skip; fail)
        go_ret
        exact ⟨true, rfl, by simp [HN.out], HC.out.1.trans H.out.1⟩
      have d1 : decide (200 < (k.name.size : Int)) = false := decide_eq_false (by omega)
      have d1' : decide (200 < k.name.size) = false := decide_eq_false h200
      by_cases h20 : 20 < k.slots.length
      · have d2 : decide (20 < (k.slots.length : Int)) = true := decide_eq_true (by omega)
        have d2' : decide (20 < k.slots.length) = true := decide_eq_true h20
        have HN := Lib.hid (show ¬ g.Small from fun h => by have := (h.2 i k HK.out.1).2.1; omega)
        go_wp2_with (skip; fail)
        go_ret
        exact ⟨true, rfl, by simp [HN.out], HC.out.1.trans H.out.1⟩
      have d2 : decide (20 < (k.slots.length : Int)) = false := decide_eq_false (by omega)
      have d2' : decide (20 < k.slots.length) = false := decide_eq_false h20
      go_wp2_with (skip; fail)
      clear d1 d1' d2 d2' e0
      go_loopw [40] (fun iv wq => ∃ j : Nat, j ≤ k.slots.length ∧ iv = .int .i64 j ∧ Hid (Chg [] V wq ∧ ∀ (l : Nat) (s : Sl), l < j → k.slots[l]? = some s → s.kinds.length ≤ 40)) (fun iv _ => k.slots.length - (intOf iv).toNat)
      case atStart => exact ⟨0, Nat.zero_le _, rfl, Lib.hid ⟨Chg.refl _ _, fun j k hj => by omega⟩⟩
      case round =>
        obtain ⟨j, hj, rfl, HJ⟩ := hrel
        obtain ⟨U, hU⟩ : ∃ U, U = wr := ⟨_, rfl⟩
        subst hU
        clear a0 a1 e2
        obtain ⟨a0, a1⟩ := cell2 (HJ.out.1.at (H.out.1.at HC.out.2.1 (by simp)) (by simp))
        have e2 := HJ.out.1.cell HK.out.2.2.1 (by simp)
        by_cases hjl : j < k.slots.length
        · obtain ⟨gs, os, hA, _, hat⟩ := (HK.out.2.1.imp HJ.out.1.size fun _ _ _ => SlAt.kept HJ.out.1).at hjl
          obtain ⟨s, hs⟩ : ∃ s, s = k.slots[j] := ⟨_, rfl⟩
          rw [← hs] at hat
          have hse : k.slots[j]? = some s := by rw [hs]; exact List.getElem?_eq_getElem hjl
          obtain ⟨Ai, ci, hri, hci, hcm, hrw⟩ := hat.range
          subst hA
          have f0 : U.cell? ⟨gs, os + j * 3, none⟩ = some (.slice Ai s.kinds.length ci) := hri 0 _ rfl
          have HS := Lib.hid hse
          have hsl2 : s.kinds.length ≤ 9223372036854775807 := by omega
          clear hs hat hri hrw hse
          by_cases h3 : 40 < s.kinds.length
          · have d1 : decide (40 < (s.kinds.length : Int)) = true := decide_eq_true (by omega)
            have d1' : decide (40 < s.kinds.length) = true := decide_eq_true h3
            have HN := Lib.hid (show ¬ g.Small from fun h => by have := (h.2 i k HK.out.1).2.2 j s HS.out; omega)
            go_wp2_with (skip; fail)
            go_ret
            exact ⟨true, rfl, by simp [HN.out], (HC.out.1.trans H.out.1).trans HJ.out.1⟩
          have d1 : decide (40 < (s.kinds.length : Int)) = false := decide_eq_false (by omega)
          have d1' : decide (40 < s.kinds.length) = false := decide_eq_false h3
          go_wp2_with (skip; fail)
          go_roundw
          case rel =>
            refine ⟨j + 1, by omega, by go_num, Lib.hid ⟨HJ.out.1, fun l s' hl hs' => ?_⟩⟩
            by_cases e : l = j
            · subst e; rw [HS.out] at hs'; cases hs'; omega
            · exact HJ.out.2 l s' (by omega) hs'
          case measure => simp [intOf]; omega
        · obtain rfl : j = k.slots.length := by omega
          have HKS : Hid (k.Small) := Lib.hid ⟨by omega, by omega, fun l s hs => HJ.out.2 l s (List.getElem?_eq_some_iff.1 hs).1 hs⟩
          go_wp2_with (skip; fail)
          go_wp2_with (skip; fail)
          go_roundw
          case rel =>
            refine ⟨i + 1, by omega, by go_num, Lib.hid ⟨H.out.1.trans HJ.out.1, fun l k' hl hk' => ?_⟩⟩
            by_cases e : l = i
            · subst e; rw [HK.out.1] at hk'; cases hk'; exact HKS.out
            · exact H.out.2 l k' (by omega) hk'
          case measure => simp [intOf]; omega
    · obtain rfl : i = g.kinds.length := by omega
      have HN := Lib.hid (show g.Small from ⟨by omega, fun j k hk => H.out.2 j k (List.getElem?_eq_some_iff.1 hk).1 hk⟩)
      go_wp2_with (skip; fail)
      go_wp2_with (skip; fail)
      go_ret
      exact ⟨false, rfl, by simp [HN.out], HC.out.1.trans H.out.1⟩
end Go.Proofs.Ytofjocjljbkjgaa
namespace Go.Proofs.Ytofjocjljbkjgaa
open Go.RowKit
def nodesS (l : List Stp) : Nat := (l.map fun s => s.sub.nodes).sum
theorem nodesS_take (l : List Stp) (k : Nat) (h : k < l.length) : nodesS (l.take (k + 1)) = nodesS (l.take k) + (l[k]).sub.nodes := by
  unfold nodesS; rw [take_snoc' l k h, List.map_append, List.sum_append]; simp
def SmallS (ss : List Stp) : Prop := ss.length ≤ 70 ∧ (∀ s ∈ ss, s.sub.nodes ≤ 250) ∧ nodesS ss ≤ 300
def GreatSt (ss : List Stp) (w : World) (e : Ending) (w' : World) : Prop := ∃ r : Bool, e = .returned (.bool r) ∧ (r = false → SmallS ss) ∧ Chg [] w w'
set_option maxHeartbeats 4000000 in
set_option maxRecDepth 100000 in
theorem greatS_any (ss : List Stp) (B : Option Addr) (d : Nat) (w : World) (hS : StpsC (fun b => b < w.heap.size) w B ss) (hl : ss.length ≤ 9223372036854775807) : Calls Try.prog 22 #[.slice B ss.length d] w (GreatSt ss w) := by
  have HH := Lib.hid hS
  clear hS
  go_enter Try.func22, Try.ntmps22
  by_cases h70 : 70 < ss.length
  · have d1 : decide (70 < (ss.length : Int)) = true := decide_eq_true (by omega)
    have d1' : decide (70 < ss.length) = true := decide_eq_true h70
    clear h70
    go_wp2_with (skip; fail)
    go_ret
    exact ⟨true, rfl, (fun h => by cases h), Chg.refl _ _⟩
  have d1 : decide (70 < (ss.length : Int)) = false := decide_eq_false (by omega)
  have d1' : decide (70 < ss.length) = false := decide_eq_false h70
  go_wp2_with (skip; fail)
  clear d1 d1'
  go_loopw [3, 4, 11] (fun nv tv iv wr => ∃ (k : Nat) (T : Int), k ≤ ss.length ∧ iv = .int .i64 k ∧ tv = .int .i64 T ∧ 0 ≤ T ∧ T ≤ 20000 ∧ nv = .int .i64 (nodesS (ss.take k)) ∧ nodesS (ss.take k) ≤ 300 ∧ Hid (Chg [] w wr ∧ ∀ s ∈ ss.take k, s.sub.nodes ≤ 250)) (fun _ _ iv _ => ss.length - (intOf iv).toNat)
  case atStart => exact ⟨0, 0, Nat.zero_le _, rfl, rfl, by omega, by omega, rfl, by simp [nodesS], Lib.hid ⟨Chg.refl _ _, by simp⟩⟩
  case round =>
    obtain ⟨k, T, hk, rfl, rfl, hT0, hT1, rfl, hN, H⟩ := hrel
    obtain ⟨V, hV⟩ : ∃ V, V = wr := ⟨_, rfl⟩
    subst hV
    by_cases hlt : k < ss.length
    · obtain ⟨g, o, A, c, rfl, _, hr, hTr, htx, _⟩ := (HH.out.next H.out.1).at hlt
      obtain ⟨s, hs⟩ : ∃ s, s = ss[k] := ⟨_, rfl⟩
      rw [← hs] at hr hTr htx
      have hsum := nodesS_take ss k hlt
      rw [← hs] at hsum
      have hmem : ss.take (k + 1) = ss.take k ++ [s] := by rw [take_snoc' ss k hlt, hs]
      have r4 : V.cell? ⟨g, o + k * 9 + 4, none⟩ = some (.string s.text) := hr 4 _ rfl
      have hr5 : V.rangeAt g (o + k * 9 + 5) [.int .i64 (Tr.id (Stp.sub s)), .int .i64 (Tr.kind (Stp.sub s)), .string (Tr.text (Stp.sub s)), .slice A (Tr.kids (Stp.sub s)).length c] := range_drop hr 5
      have hgr := great_t s.sub A c V hTr
      have HC := Lib.hid (And.intro hgr (And.intro hr5 (And.intro hTr (And.intro hsum hmem))))
      clear hgr hr5 hTr hsum hmem hr hs
      go_wp2_with (first
        | (refine wpList_load_mid rfl 24 (.tmp 17) rfl g (o + k * 9 + 5) (by kernel_rfl) _ _ HC.out.2.1 Try.underlying24 rfl (by kernel_rfl) ?_
           ((try dsimp only); (try simp only [Act.put, List.setIfInBounds_toArray, List.set_cons_zero, List.set_cons_succ])))
        | (skip; fail))
      refine HC.out.1.mono ?_
      rintro e X ⟨r, rfl, hr, hX⟩
      have HX := Lib.hid (And.intro hr hX)
      have r4 := hX.cell r4 (by simp)
      clear hr hX
      cases r with
      | true =>
        go_wp2_with (skip; fail)
        go_ret
        exact ⟨true, rfl, (fun h => by cases h), H.out.1.trans HX.out.2⟩
      | false =>
        have HN := Lib.hid (HX.out.1 rfl)
        by_cases hb : 20000 - T < (s.text.size : Int)
        · have hbb : decide (20000 - T < (s.text.size : Int)) = true := by simpa using hb
          go_wp2_with (skip; fail)
          go_ret
          exact ⟨true, rfl, (fun h => by cases h), H.out.1.trans HX.out.2⟩
        · have hbb : decide (20000 - T < (s.text.size : Int)) = false := by simpa using hb
          have hwk := walkT_any X.heap.size 251 (by omega) s.sub A c X (HC.out.2.2.1.next HX.out.2) (Nat.le_refl _)
          have hr5 := HX.out.2.range HC.out.2.1 (by simp)
          have HW := Lib.hid (And.intro hwk hr5)
          clear hwk hr5
          go_wp2_with (first
            | (refine wpList_load_mid rfl 24 (.tmp 43) rfl g (o + k * 9 + 5) (by kernel_rfl) _ _ HW.out.2 Try.underlying24 rfl (by kernel_rfl) ?_
               ((try dsimp only); (try simp only [Act.put, List.setIfInBounds_toArray, List.set_cons_zero, List.set_cons_succ])))
            | (skip; fail))
          refine HW.out.1.mono ?_
          rintro e Y ⟨v, rfl, hR, hY⟩
          obtain ⟨A', c', rfl⟩ := hR.slice
          have hlen : ((s.sub.walk 1).take 251).length = s.sub.nodes := by rw [List.length_take, Tr.walk_length]; have := HN.out; omega
          rw [hlen]
          have hn := HN.out
          have HY := Lib.hid hY
          have hsum := HC.out.2.2.2.1
          clear hR hlen hY
          by_cases h3 : 300 < nodesS (ss.take k) + s.sub.nodes
          · have d1 : decide (300 < (nodesS (ss.take k) : Int) + (s.sub.nodes : Int)) = true := decide_eq_true (by omega)
            have d2 : decide (300 < nodesS (ss.take k) + s.sub.nodes) = true := decide_eq_true h3
            clear hsum
            go_wp2_with (skip; fail)
            go_ret
            exact ⟨true, rfl, (fun h => by cases h), (H.out.1.trans HX.out.2).trans HY.out⟩
          · have d1 : decide (300 < (nodesS (ss.take k) : Int) + (s.sub.nodes : Int)) = false := decide_eq_false (by omega)
            have d2 : decide (300 < nodesS (ss.take k) + s.sub.nodes) = false := decide_eq_false h3
            clear hsum
            go_wp2_with (skip; fail)
            go_roundw
            case rel =>
              refine ⟨k + 1, T + s.text.size, by omega, by go_num, rfl, by omega, by omega, by rw [HC.out.2.2.2.1]; go_num, by rw [HC.out.2.2.2.1]; omega, Lib.hid ⟨(H.out.1.trans HX.out.2).trans HY.out, fun x hx => ?_⟩⟩
              rw [HC.out.2.2.2.2] at hx
              rcases List.mem_append.1 hx with hx | hx
              · exact H.out.2 x hx
              · simp at hx; subst hx; exact HN.out
            case measure => simp [intOf]; omega
    · obtain rfl : k = ss.length := by omega
      have hall := H.out.2
      rw [List.take_of_length_le (Nat.le_refl _)] at hall hN
      have HA := Lib.hid (show SmallS ss from ⟨by omega, hall, hN⟩)
      clear hall
      go_wp2_with (skip; fail)
      go_ret
      exact ⟨false, rfl, fun _ => HA.out, H.out.1⟩
end Go.Proofs.Ytofjocjljbkjgaa
namespace Go.Proofs.Ytofjocjljbkjgaa
open Go.RowKit
theorem sz0 : (⟨#[]⟩ : ByteArray).size ≤ 9223372036854775807 := by decide
def leafT (i : Int) : Tr := ⟨i, 0, ⟨#[]⟩, []⟩
def smallT : Tr := ⟨1, 0, ⟨#[]⟩, [leafT 2, ⟨3, 0, ⟨#[]⟩, [leafT 4]⟩]⟩
theorem w1 : applyMove smallT 2 3 1 (leafT 0) = .ok ⟨1, 0, ⟨#[]⟩, [⟨3, 0, ⟨#[]⟩, [leafT 4, leafT 2]⟩]⟩ := by rfl
theorem w2 : applyMove smallT 3 4 0 (leafT 0) = .error 91 := by rfl
theorem w3 : applyMove smallT 2 1 1 (leafT 0) = .ok ⟨1, 0, ⟨#[]⟩, [⟨3, 0, ⟨#[]⟩, [leafT 4]⟩, leafT 2]⟩ := by rfl
end Go.Proofs.Ytofjocjljbkjgaa
namespace Go.Proofs.Ytofjocjljbkjgaa
open Go.RowKit
theorem doJ_ok {j : GJ} {t x : Tr} {s : Stp} (h : doJ j t s = .ok x) : j.ok = true ∧ j.fit x = true ∧ applyT t s = .ok x := by
  unfold doJ at h
  split at h
  · cases h
  · rename_i y e
    split at h
    · rename_i h1
      split at h
      · rename_i h2
        injection h with h
        subst h
        exact ⟨h1, h2, e⟩
      · cases h
    · cases h
theorem applyT_ok {t x : Tr} {s : Stp} (h : applyT t s = .ok x) : t.nodes ≤ 2000 ∧ s.sub.nodes ≤ 2000 ∧ doT t s = .ok x := by
  unfold applyT at h
  split at h
  · rename_i h1; exact ⟨h1.1, h1.2, h⟩
  · cases h
theorem SubOk.nodup {g : Gr} {t : Tr} (h : SubOk g t) : t.ids.Nodup := by
  rw [← Tr.walk_ids t 1]
  refine List.pairwise_iff_getElem.2 fun i j hi hj hij => ?_
  rw [List.getElem_map, List.getElem_map]
  have hj' : j < (t.walk 1).length := by simpa using hj
  have hi' : i < (t.walk 1).length := by simpa using hi
  exact (h.2 j _ hj' (List.getElem?_eq_getElem hj')).2 i _ hij (List.getElem?_eq_getElem hi')
end Go.Proofs.Ytofjocjljbkjgaa
namespace Go.Proofs.Ytofjocjljbkjgaa
open Go.RowKit
def allJ (j : GJ) (root : Int) : Tr → List Stp → Nat → Nat × Int
  | _, [], i => (i, 0)
  | t, s :: l, i => if insideB root t s then match doJ j t s with
      | .error n => (i, n)
      | .ok x => allJ j root x l (i + 1)
    else (i, 130)
def withinAll (j : GJ) (root : Int) (t : Tr) (l : List Stp) : Nat × Int :=
  if checkB l then (if root ∈ t.ids then allJ j root t l 0 else (0, 4)) else (0, 3)
structure WA (g : Gr) (Ag : Option Addr) (cg : Nat) (w : World) (x : Tr) (A : Option Addr) (c : Nat) (W : World) : Prop where
  g : W.heap[w.heap.size]? = some (.cells #[.slice Ag g.kinds.length cg, .int .i64 g.root] 43 (0, 0))
  t : W.heap[w.heap.size + 1]? = some (.cells #[.int .i64 (Tr.id x), .int .i64 (Tr.kind x), .string (Tr.text x), .slice A (Tr.kids x).length c] 24 (0, 0))
  x : TrC (fun b => b < W.heap.size ∧ b ≠ w.heap.size + 1) W x [.int .i64 (Tr.id x), .int .i64 (Tr.kind x), .string (Tr.text x), .slice A (Tr.kids x).length c]
  chg : Chg [] w W
theorem WA.kept {g : Gr} {Ag : Option Addr} {cg : Nat} {w : World} {x : Tr} {A : Option Addr} {c : Nat} {W W' : World} (h : WA g Ag cg w x A c W) (hc : Chg [] W W') : WA g Ag cg w x A c W' :=
  ⟨hc.at h.g (by simp), hc.at h.t (by simp), (h.x.kept hc (by simp)).weak (fun b hb _ => ⟨Nat.lt_of_lt_of_le hb.1 hc.size, hb.2⟩), h.chg.trans hc⟩
theorem WA.read {g : Gr} {Ag : Option Addr} {cg : Nat} {w : World} {x : Tr} {A : Option Addr} {c : Nat} {W : World} (h : WA g Ag cg w x A c W) : TrC (fun b => b < W.heap.size) W x [.int .i64 (Tr.id x), .int .i64 (Tr.kind x), .string (Tr.text x), .slice A (Tr.kids x).length c] := h.x.weak (fun b hb _ => hb.1)
set_option maxHeartbeats 4000000 in
set_option maxRecDepth 100000 in
theorem wall_any (g : Gr) (j : GJ) (hj : j.Of g) (Ag : Option Addr) (cg : Nat) (t : Tr) (A : Option Addr) (c : Nat) (root : Int) (ss : List Stp) (B : Option Addr) (d : Nat) (w : World) (hG : GrC w Ag cg g.kinds) (hT : TrC (fun b => b < w.heap.size) w t [.int .i64 (Tr.id t), .int .i64 (Tr.kind t), .string (Tr.text t), .slice A (Tr.kids t).length c]) (hS : StpsC (fun b => b < w.heap.size) w B ss) (hl : ss.length ≤ 9223372036854775807) :
    Calls Try.prog 26 #[.agg #[.slice Ag g.kinds.length cg, .int .i64 g.root], .agg #[.int .i64 (Tr.id t), .int .i64 (Tr.kind t), .string (Tr.text t), .slice A (Tr.kids t).length c], .int .i64 root, .slice B ss.length d] w fun e w' => e = .returned (.tuple #[.int .i64 (withinAll j root t ss).1, .int .i64 (withinAll j root t ss).2]) ∧ Chg [] w w' := by
  have hmm := @run_makeMap Try.prog
  obtain ⟨W, hW⟩ : ∃ W, W = ((w.alloc (.cells #[.slice Ag g.kinds.length cg, .int .i64 g.root] 43)).alloc (.cells #[.int .i64 (Tr.id t), .int .i64 (Tr.kind t), .string (Tr.text t), .slice A (Tr.kids t).length c] 24)).alloc (.map #[] 0) := ⟨_, rfl⟩
  have hcW : Chg [] w W := by rw [hW]; exact (by with_reducible repeat (first | exact Chg.refl _ _ | apply Chg.alloc | apply Chg.drew | apply Chg.drewN | (refine Chg.setCell ?_ _ _ (by simp))))
  have hWA : WA g Ag cg w t A c W := ⟨by rw [hW]; exact heap_old (heap_old (heap_new _ _ rfl) _) _, by rw [hW]; exact heap_old (heap_new _ _ (by simp)) _, (hT.kept hcW (by simp)).weak (fun b hb _ => ⟨Nat.lt_of_lt_of_le hb hcW.size, by omega⟩), hcW⟩
  have hM : MapI W (w.heap.size + 1 + 1) (seenM []) := by
    have h1 := MapI.made ((w.alloc (.cells #[.slice Ag g.kinds.length cg, .int .i64 g.root] 43)).alloc (.cells #[.int .i64 (Tr.id t), .int .i64 (Tr.kind t), .string (Tr.text t), .slice A (Tr.kids t).length c] 24))
    rw [show (fun _ => none : Int → Option Value) = seenM [] from by funext n; simp [seenM], show ((w.alloc (.cells #[.slice Ag g.kinds.length cg, .int .i64 g.root] 43)).alloc (.cells #[.int .i64 (Tr.id t), .int .i64 (Tr.kind t), .string (Tr.text t), .slice A (Tr.kids t).length c] 24)).heap.size = w.heap.size + 1 + 1 from by simp] at h1
    rw [hW]; exact h1
  have hck := check_any ss B d W (hS.next hcW) hl
  have hbl := below_any (w.heap.size + 1 + 1) root t (w.heap.size + 1) 0 false [] W ⟨_, range_all hWA.t, (hT.kept hcW (by simp)).weak (fun b hb _ => by omega)⟩ (by omega) hM
  have HW := Lib.hid (And.intro hW (And.intro hWA (And.intro hck (And.intro hbl (And.intro hG (And.intro hS (And.intro hj hT)))))))
  clear hW hcW hWA hM hck hbl hG hS hT hj
  go_enter Try.func26, Try.ntmps26
  go_wp2_with fail
  rw [← HW.out.1]
  refine HW.out.2.2.1.mono ?_
  rintro e X ⟨rfl, rfl⟩
  by_cases hch : checkB ss = true
  · have he : checkE ss = 0 := by unfold checkE; rw [hch]; rfl
    rw [he]
    have hwa : withinAll j root t ss = if root ∈ t.ids then allJ j root t ss 0 else (0, 4) := by unfold withinAll; rw [hch]; rfl
    have HA := Lib.hid hwa
    clear hch he hwa
    go_wp2_with fail
    refine HW.out.2.2.2.1.mono ?_
    rintro e X ⟨rfl, _, hX⟩
    rw [Bool.false_or]
    have hXA : WA g Ag cg w t A c X := by
      have h := HW.out.2.1
      have hwX : Chg [] w X := h.chg.andThen hX (by simp; omega)
      exact ⟨hX.at h.g (by simp; omega), hX.at h.t (by simp), (HW.out.2.2.2.2.2.2.2.kept hwX (by simp)).weak (fun b hb _ => ⟨Nat.lt_of_lt_of_le hb hwX.size, by omega⟩), hwX⟩
    by_cases hr : root ∈ t.ids
    · rw [decide_eq_true hr]
      have HX := Lib.hid (And.intro hXA (show withinAll j root t ss = allJ j root t ss 0 by rw [HA.out, if_pos hr]))
      clear hX hXA hr
      go_wp2_with (skip; fail)
      go_loopw [25] (fun iv wr => ∃ (k : Nat) (x : Tr) (Ax : Option Addr) (cx : Nat), k ≤ ss.length ∧ iv = .int .i64 k ∧ Hid (WA g Ag cg w x Ax cx wr ∧ withinAll j root t ss = allJ j root x (ss.drop k) k)) (fun iv _ => ss.length - (intOf iv).toNat)
      case atStart => exact ⟨0, t, A, c, Nat.zero_le _, rfl, Lib.hid ⟨HX.out.1, by rw [HX.out.2]; rfl⟩⟩
      case round =>
        obtain ⟨k, x, Ax, cx, hk, rfl, H⟩ := hrel
        obtain ⟨V, hV⟩ : ∃ V, V = wr := ⟨_, rfl⟩
        subst hV
        by_cases hlt : k < ss.length
        · obtain ⟨gs, os, As, cs, rfl, _, hrs, hTs, hts, hop⟩ := (HW.out.2.2.2.2.2.1.next H.out.1.chg).at hlt
          obtain ⟨s, hs⟩ : ∃ s, s = ss[k] := ⟨_, rfl⟩
          rw [← hs] at hrs hTs hts hop
          have hun : withinAll j root t ss = if insideB root x s then match doJ j x s with | .error n => (k, n) | .ok y => allJ j root y (ss.drop (k + 1)) (k + 1) else (k, 130) := by
            rw [H.out.2, List.drop_eq_getElem_cons hlt, ← hs]; rfl
          obtain ⟨U, hU⟩ : ∃ U, U = V.alloc (.cells #[.int .i8 (Stp.op s), .int .i64 (Stp.id s), .int .i64 (Stp.par s), .int .i64 (Stp.place s), .string (Stp.text s), .int .i64 (Stp.sub s).id, .int .i64 (Stp.sub s).kind, .string (Stp.sub s).text, .slice As (Stp.sub s).kids.length cs] 27) := ⟨_, rfl⟩
          have hVU : Chg [] V U := by rw [hU]; exact (by with_reducible repeat (first | exact Chg.refl _ _ | apply Chg.alloc | apply Chg.drew | apply Chg.drewN | (refine Chg.setCell ?_ _ _ (by simp))))
          have hUA := H.out.1.kept hVU
          have hUb : U.heap[V.heap.size]? = some (.cells #[.int .i8 (Stp.op s), .int .i64 (Stp.id s), .int .i64 (Stp.par s), .int .i64 (Stp.place s), .string (Stp.text s), .int .i64 (Stp.sub s).id, .int .i64 (Stp.sub s).kind, .string (Stp.sub s).text, .slice As (Stp.sub s).kids.length cs] 27 (0, 0)) := by rw [hU]; exact heap_new _ _ rfl
          have HU := Lib.hid (And.intro hrs (And.intro hU (And.intro hUA (And.intro hUb (And.intro (show StpC (fun b => b < U.heap.size) U s (#[.int .i8 (Stp.op s), .int .i64 (Stp.id s), .int .i64 (Stp.par s), .int .i64 (Stp.place s), .string (Stp.text s), .int .i64 (Stp.sub s).id, .int .i64 (Stp.sub s).kind, .string (Stp.sub s).text, .slice As (Stp.sub s).kids.length cs] : Array Value).toList from (show StpC _ V s _ from ⟨As, cs, rfl, hTs, hts, hop⟩).next hVU) hun)))))
          clear hrs hTs hts hop hs hun hU hVU hUA hUb
          obtain ⟨p0, p1, p2, p3⟩ := blk4 HU.out.2.2.1.t
          obtain ⟨q0, q1, q2, q3, q4, q5, q6, q7, q8⟩ := blk9 HU.out.2.2.2.1
          rw [HU.out.2.1] at p0 p1 p2 p3 q0 q1 q2 q3 q4 q5 q6 q7 q8
          have hws := wstep_any x Ax cx root s As cs U HU.out.2.2.1.read
          have HS := Lib.hid hws
          clear hws
          go_wp2_with (first
            | (refine wpList_load_mid rfl 27 (.tmp 28) rfl gs (os + k * 9) (by kernel_rfl) _ _ HU.out.1 Try.underlying27 rfl (by kernel_rfl) ?_
               ((try dsimp only); (try simp only [Act.put, List.setIfInBounds_toArray, List.set_cons_zero, List.set_cons_succ])))
            | (skip; fail))
          rw [← HU.out.2.1]
          clear p0 p1 p2 p3 q0 q1 q2 q3 q4 q5 q6 q7 q8
          refine HS.out.mono ?_
          rintro e Y ⟨rfl, hY⟩
          have hYA := HU.out.2.2.1.kept hY
          have hYb := hY.at HU.out.2.2.2.1 (by simp)
          cases hin : insideB root x s with
          | false =>
            have HE := Lib.hid (And.intro hYA.chg (show withinAll j root t ss = (k, 130) by rw [HU.out.2.2.2.2.2, hin]; rfl))
            clear hin hY hYA hYb
            go_wp2_with (skip; fail)
            go_ret2
            exact ⟨by rw [HE.out.2]; rfl, HE.out.1⟩
          | true =>
            obtain ⟨g0, g1⟩ := cell2 hYA.g
            obtain ⟨p0, p1, p2, p3⟩ := blk4 hYA.t
            obtain ⟨q0, q1, q2, q3, q4, q5, q6, q7, q8⟩ := blk9 hYb
            have hdo := do_any g j HW.out.2.2.2.2.2.2.1 Ag cg x s Ax cx (#[.int .i8 (Stp.op s), .int .i64 (Stp.id s), .int .i64 (Stp.par s), .int .i64 (Stp.place s), .string (Stp.text s), .int .i64 (Stp.sub s).id, .int .i64 (Stp.sub s).kind, .string (Stp.sub s).text, .slice As (Stp.sub s).kids.length cs] : Array Value).toList Y (HW.out.2.2.2.2.1.kept hYA.chg) hYA.read (HU.out.2.2.2.2.1.next hY)
            have hun : withinAll j root t ss = match doJ j x s with | .error n => (k, n) | .ok y => allJ j root y (ss.drop (k + 1)) (k + 1) := by rw [HU.out.2.2.2.2.2, hin]; rfl
            unfold ApplyPost at hdo
            cases hr : doJ j x s with
            | error n =>
              have hn0 := doJ_ne hr
              have e0 : (n == 0) = false := by simpa using hn0
              have e0' : (n != 0) = true := by simpa using hn0
              simp only [hr] at hdo hun
              have HD := Lib.hid (And.intro hdo (And.intro hun hYA))
              clear hdo hun hr hn0 hin hY hYA hYb
              go_wp2_with fail
              refine HD.out.1.mono ?_
              rintro e Z ⟨rfl, hZ⟩
              have hZA := HD.out.2.2.kept hZ
              obtain ⟨p0, p1, p2, p3⟩ := blk4 hZA.t
              have f0 := blkF hZA.t 0
              have f1 := blkF hZA.t 1
              have f2 := blkF hZA.t 2
              have f3 := blkF hZA.t 3
              have HZ := Lib.hid hZA.chg
              clear hZ hZA
              go_wp2_with (skip; fail)
              go_ret2
              exact ⟨by rw [HD.out.2.1]; rfl, HZ.out.andThen (chg4 _ _ _ _ _ _) (by simp)⟩
            | ok y =>
              simp only [hr] at hdo hun
              have HD := Lib.hid (And.intro hdo (And.intro hun hYA))
              clear hdo hun hr hin hY hYA hYb
              go_wp2_with fail
              refine HD.out.1.mono ?_
              rintro e Z ⟨Ay, cy, rfl, hTy, hZ⟩
              have hZA := HD.out.2.2.kept hZ
              obtain ⟨p0, p1, p2, p3⟩ := blk4 hZA.t
              have f0 := blkF hZA.t 0
              have f1 := blkF hZA.t 1
              have f2 := blkF hZA.t 2
              have f3 := blkF hZA.t 3
              have hYl := lt_of_block HD.out.2.2.t
              have HZ := Lib.hid (And.intro hZA (hTy.toC.weak (ok' := fun b => b < Z.heap.size ∧ b ≠ w.heap.size + 1) (fun b hb _ => ⟨hb.2, by omega⟩)))
              clear hZ hZA hTy
              go_wp2_with (skip; fail)
              go_roundw
              case rel =>
                have hc4 := chg4 Z (w.heap.size + 1) (.int .i64 y.id) (.int .i64 y.kind) (.string y.text) (.slice Ay y.kids.length cy)
                have hs4 := hc4.size
                refine ⟨k + 1, y, Ay, cy, by omega, by go_num, Lib.hid ⟨⟨hc4.at HZ.out.1.g (by simp), set4 HZ.out.1.t, ?_, HZ.out.1.chg.andThen hc4 (by simp)⟩, by rw [HD.out.2.1]⟩⟩
                exact (HZ.out.2.kept hc4 (fun b hb => by simp; exact hb.2)).weak (fun b hb _ => ⟨by omega, hb.2⟩)
              case measure => simp [intOf]; omega
        · obtain rfl : k = ss.length := by omega
          have hfin := H.out.2
          rw [List.drop_length] at hfin
          have HF := Lib.hid hfin
          clear hfin
          go_wp2_with (skip; fail)
          go_ret2
          exact ⟨by rw [HF.out]; rfl, H.out.1.chg⟩
    · rw [decide_eq_false hr]
      have HX := Lib.hid (And.intro hXA.chg (show withinAll j root t ss = (0, 4) by rw [HA.out, if_neg hr]))
      clear hX hXA hr
      go_wp2_with (skip; fail)
      go_ret2
      exact ⟨by rw [HX.out.2]; rfl, HX.out.1⟩
  · have he : checkE ss = 3 := by unfold checkE; rw [if_neg hch]
    rw [he]
    have HA := Lib.hid (show withinAll j root t ss = (0, 3) by unfold withinAll; rw [if_neg hch])
    clear hch he
    go_wp2_with (skip; fail)
    go_ret2
    exact ⟨by rw [HA.out]; rfl, HW.out.2.1.chg⟩
end Go.Proofs.Ytofjocjljbkjgaa
namespace Go.Proofs.Ytofjocjljbkjgaa
open Go.RowKit
theorem subT_path {id : Int} {t x : Tr} (h : t.subT id = some x) : ∃ p, t.path id = some p ∧ Tr.at? p t = some x ∧ x.id = id := by
  unfold Tr.subT at h
  cases hp : t.path id with
  | none => rw [hp] at h; cases h
  | some p =>
    rw [hp] at h
    simp only [] at h
    obtain ⟨y, h1, h2⟩ := Tr.path_at id t p hp
    rw [h] at h1; cases h1
    exact ⟨p, rfl, h, h2⟩
theorem doJ_fit {j : GJ} {g : Gr} (hj : j.Of g) {t y : Tr} {s : Stp} (h : doJ j t s = .ok y) : y.kind = g.root ∧ SubOk g y := (hj.fit y).1 (doJ_ok h).2.1
end Go.Proofs.Ytofjocjljbkjgaa
namespace Go.Proofs.Ytofjocjljbkjgaa
open Go.RowKit
theorem foldF_yes {f : Tr → Stp → Except Int Tr} {t y : Tr} {s : Stp} (h : f t s = .ok y) (l : List Stp) (i : Nat) : foldF f t (s :: l) i = foldF f y l (i + 1) := by simp only [foldF, h]
theorem foldF_nodes {f : Tr → Stp → Except Int Tr} {n : Nat} (hf : ∀ x s y, f x s = .ok y → y.nodes ≤ n) : ∀ (l : List Stp) (t : Tr) (i : Nat), t.nodes ≤ n → (foldF f t l i).1.nodes ≤ n
  | [], t, i, h => h
  | s :: l, t, i, h => by
    simp only [foldF]
    cases hx : f t s with
    | error e => exact h
    | ok y => exact foldF_nodes hf l y (i + 1) (hf t s y hx)
theorem applyL_nodes {j : GJ} {t : Tr} {l : List Stp} {n : Nat} (hn : t.nodes ≤ n) (h4 : 4000 ≤ n) : (applyL j t l).1.nodes ≤ n := by
  have hd : ∀ x s y, doJ j x s = .ok y → y.nodes ≤ n := fun x s y h => Nat.le_trans (applyT_nodes (doJ_ok h).2.2) h4
  unfold applyL
  split
  · split
    · exact foldF_nodes hd l t 0 hn
    · exact hn
  · exact hn
end Go.Proofs.Ytofjocjljbkjgaa


namespace Go.Proofs.Ytofjocjljbkjgaa
open Go.RowKit
theorem first_kid (id : Int) : ∀ ks : List Tr, (∀ (j : Nat) (hj : j < ks.length), id ∉ (ks[j]).ids) ∨ ∃ (k : Nat) (hk : k < ks.length), id ∈ (ks[k]).ids ∧ ∀ (j : Nat) (hj : j < k), id ∉ (ks[j]'(by omega)).ids
  | [] => .inl fun j hj => by simp at hj
  | x :: ks => by
    by_cases h : id ∈ x.ids
    · exact .inr ⟨0, by simp, h, fun j hj => by omega⟩
    · rcases first_kid id ks with h1 | ⟨k, hk, h1, h2⟩
      · refine .inl fun j hj => ?_
        cases j with
        | zero => exact h
        | succ j => exact h1 j (by simpa using hj)
      · refine .inr ⟨k + 1, by simpa using hk, h1, fun j hj => ?_⟩
        cases j with
        | zero => exact h
        | succ j => exact h2 j (by omega)
def subL (id : Int) : List Tr → Option Tr
  | [] => none
  | k :: ks => match k.subT id with
    | some x => some x
    | none => subL id ks
theorem subL_none (id : Int) : ∀ ks : List Tr, (∀ (j : Nat) (hj : j < ks.length), id ∉ (ks[j]).ids) → subL id ks = none
  | [], _ => rfl
  | k :: ks, h => by
    rw [subL, subT_none (t := k) (h 0 (by simp))]
    exact subL_none id ks (fun j hj => h (j + 1) (by simpa using hj))
theorem subL_some (id : Int) : ∀ (ks : List Tr) (k : Nat) (hk : k < ks.length), id ∈ (ks[k]).ids → (∀ (j : Nat) (hj : j < k), id ∉ (ks[j]'(by omega)).ids) → subL id ks = (ks[k]).subT id
  | x :: ks, 0, _, h, _ => by
    obtain ⟨y, hy, _⟩ := subT_some (t := x) (by simpa using h)
    rw [subL, hy]; simpa using hy.symm
  | x :: ks, k + 1, hk, h, h2 => by
    rw [subL, subT_none (by simpa using h2 0 (by omega))]
    simpa using subL_some id ks k (by simpa using hk) (by simpa using h) (fun j hj => by simpa using h2 (j + 1) (by omega))
theorem subT_eq (id : Int) (t : Tr) : t.subT id = if t.id = id then some t else subL id t.kids := by
  by_cases h : t.id = id
  · rw [if_pos h, subT_root h]
  · rw [if_neg h]
    rcases first_kid id t.kids with h1 | ⟨k, hk, h1, h2⟩
    · rw [subL_none id _ h1, subT_none (ids_out h h1)]
    · rw [subL_some id _ k hk h1 h2, subT_kid h hk h2 h1]
def firstW (id : Int) (l : List (Tr × Int)) : Option Tr := (l.find? (fun y => decide (y.1.id = id))).map (·.1)
theorem firstW_append (id : Int) (a b : List (Tr × Int)) : firstW id (a ++ b) = match firstW id a with | some x => some x | none => firstW id b := by
  unfold firstW
  rw [List.find?_append]
  cases a.find? (fun y => decide (y.1.id = id)) <;> rfl
mutual
theorem Tr.walk_sub (id : Int) : ∀ (t : Tr) (d : Int), firstW id (t.walk d) = t.subT id
  | ⟨i, k, x, ks⟩, d => by
    rw [subT_eq, Tr.walk]
    show firstW id ((⟨i, k, x, ks⟩, d) :: walkL ks (d + 1)) = _
    by_cases h : i = id
    · rw [if_pos h]; unfold firstW; simp [h]
    · rw [if_neg h]
      have := walkL_sub id ks (d + 1)
      unfold firstW at this ⊢
      rw [List.find?_cons, decide_eq_false (p := (⟨i, k, x, ks⟩ : Tr).id = id) h]
      exact this
theorem walkL_sub (id : Int) : ∀ (ks : List Tr) (d : Int), firstW id (walkL ks d) = subL id ks
  | [], _ => rfl
  | k :: ks, d => by
    rw [walkL, firstW_append, Tr.walk_sub id k d, walkL_sub id ks d, subL]
end
theorem firstW_at {id : Int} {l : List (Tr × Int)} {k : Nat} (hk : k < l.length) (h : (l[k]).1.id = id) (h2 : ∀ (j : Nat) (hj : j < k), (l[j]'(by omega)).1.id ≠ id) : firstW id l = some (l[k]).1 := by
  unfold firstW
  rw [(List.find?_eq_some_iff_getElem (p := fun y : Tr × Int => decide (y.1.id = id)) (xs := l) (b := l[k])).2 ⟨by simpa using h, k, hk, rfl, fun j hj => by simpa using h2 j hj⟩]
  rfl
theorem firstW_none {id : Int} {l : List (Tr × Int)} (h : ∀ (j : Nat) (hj : j < l.length), (l[j]).1.id ≠ id) : firstW id l = none := by
  unfold firstW
  rw [List.find?_eq_none.2 (fun y hy => by obtain ⟨j, hj, rfl⟩ := List.getElem_of_mem hy; simpa using h j hj)]
  rfl
def FindR (r : Option Tr) (w : World) (e : Ending) (w' : World) : Prop := match r with
  | none => e = .returned (.tuple #[.agg #[.int .i64 0, .int .i64 0, .string ⟨#[]⟩, .slice none 0 0], .bool false]) ∧ Chg [] w w'
  | some x => ∃ A c, e = .returned (.tuple #[.agg #[.int .i64 (Tr.id x), .int .i64 (Tr.kind x), .string (Tr.text x), .slice A (Tr.kids x).length c], .bool true]) ∧ TrC (fun b => b < w.heap.size) w' x [.int .i64 (Tr.id x), .int .i64 (Tr.kind x), .string (Tr.text x), .slice A (Tr.kids x).length c] ∧ Chg [] w w'
set_option maxHeartbeats 4000000 in
set_option maxRecDepth 100000 in
theorem rfind_any (t : Tr) (A : Option Addr) (c : Nat) (id : Int) (w : World) (hT : TrC (fun b => b < w.heap.size) w t [.int .i64 (Tr.id t), .int .i64 (Tr.kind t), .string (Tr.text t), .slice A (Tr.kids t).length c]) (hn : t.nodes ≤ 2000) : Calls Try.prog 29 #[.agg #[.int .i64 (Tr.id t), .int .i64 (Tr.kind t), .string (Tr.text t), .slice A (Tr.kids t).length c], .int .i64 id] w (FindR (t.subT id) w) := by
  obtain ⟨W, hW⟩ : ∃ W, W = (w.alloc (.cells #[.int .i64 (Tr.id t), .int .i64 (Tr.kind t), .string (Tr.text t), .slice A (Tr.kids t).length c] 24)).alloc (.cells #[.int .i64 0, .int .i64 0, .string ⟨#[]⟩, .slice none 0 0] 24) := ⟨_, rfl⟩
  have hcW : Chg [] w W := by rw [hW]; exact (by with_reducible repeat (first | exact Chg.refl _ _ | apply Chg.alloc | apply Chg.drew | apply Chg.drewN | (refine Chg.setCell ?_ _ _ (by simp))))
  have b0 : W.heap[w.heap.size]? = some (.cells #[.int .i64 (Tr.id t), .int .i64 (Tr.kind t), .string (Tr.text t), .slice A (Tr.kids t).length c] 24 (0, 0)) := by rw [hW]; exact heap_old (heap_new _ _ rfl) _
  have b1 : W.heap[w.heap.size + 1]? = some (.cells #[.int .i64 0, .int .i64 0, .string ⟨#[]⟩, .slice none 0 0] 24 (0, 0)) := by rw [hW]; exact heap_new _ _ (by simp)
  have hwk := walkT_any w.heap.size 2000 (by omega) t A c W (hT.kept hcW (by simp)) hcW.size
  obtain ⟨p0, p1, p2, p3⟩ := blk4 b0
  have HW := Lib.hid (And.intro hW (And.intro hcW (And.intro b1 hwk)))
  rw [hW] at p0 p1 p2 p3
  clear hW hcW b0 b1 hwk hT
  go_enter Try.func29, Try.ntmps29
  go_wp2_with fail
  rw [← HW.out.1]
  clear p0 p1 p2 p3
  refine HW.out.2.2.2.mono ?_
  rintro e X ⟨v, rfl, hR, hX⟩
  obtain ⟨A', c', rfl⟩ := hR.slice
  obtain ⟨l, hl⟩ : ∃ l, l = (t.walk 1).take 2000 := ⟨_, rfl⟩
  rw [← hl] at hR ⊢
  have hlen : l.length ≤ 2000 := by rw [hl, List.length_take]; omega
  have hsub : firstW id l = t.subT id := by rw [hl, List.take_of_length_le (by rw [Tr.walk_length]; exact hn), Tr.walk_sub]
  have x1 := hX.at HW.out.2.2.1 (by simp)
  have HX := Lib.hid (And.intro hR (And.intro hsub (And.intro (HW.out.2.1.trans hX) x1)))
  have hl1 := lt_of_block x1
  clear hR hl hsub hX x1
  go_wp2_with (skip; fail)
  go_loop [7] (fun iv => ∃ k : Nat, k ≤ l.length ∧ iv = .int .i64 k ∧ Hid (∀ (j : Nat) (hj : j < k) (hl : j < l.length), (l[j]).1.id ≠ id)) (fun iv => l.length - (intOf iv).toNat)
  case atStart => exact ⟨0, Nat.zero_le _, rfl, Lib.hid fun j hj => by omega⟩
  case round =>
    obtain ⟨k, hk, rfl, H⟩ := hrel
    by_cases hlt : k < l.length
    · obtain ⟨g, c2, A2, cA, e, _, hT, hr⟩ := HX.out.1.at hlt
      injection e with e1 e2 e3
      subst e1 e3
      have r0 : X.cell? ⟨g, k * 5, none⟩ = some (.int .i64 (l[k]).1.id) := hr 0 _ rfl
      have r4 : X.rangeAt g (k * 5) [.int .i64 (Tr.id (l[k]).1), .int .i64 (Tr.kind (l[k]).1), .string (Tr.text (l[k]).1), .slice A2 (Tr.kids (l[k]).1).length cA] := fun j u hu => hr j u (by
        have hj : j < 4 := by have := (List.getElem?_eq_some_iff.1 hu).1; simpa using this
        match j, hu with
        | 0, hu => exact hu
        | 1, hu => exact hu
        | 2, hu => exact hu
        | 3, hu => exact hu)
      have HR := Lib.hid (And.intro hT r4)
      clear hT hr r4
      by_cases hid : (l[k]).1.id = id
      · have hb : ((l[k]).1.id == id) = true := by simpa using hid
        have hres : t.subT id = some (l[k]).1 := by rw [← HX.out.2.1]; exact firstW_at hlt hid (fun j hj => H.out j hj (by omega))
        have HI := Lib.hid hres
        obtain ⟨q0, q1, q2, q3⟩ := blk4 HX.out.2.2.2
        have f0 := blkF HX.out.2.2.2 0
        have f1 := blkF HX.out.2.2.2 1
        have f2 := blkF HX.out.2.2.2 2
        have f3 := blkF HX.out.2.2.2 3
        clear hid hres
        go_wp2_with (first
          | (refine wpList_load_mid rfl 24 (.tmp 27) rfl g (k * 5) (by kernel_rfl) _ _ HR.out.2 Try.underlying24 rfl (by kernel_rfl) ?_
             ((try dsimp only); (try simp only [Act.put, List.setIfInBounds_toArray, List.set_cons_zero, List.set_cons_succ])))
          | (skip; fail))
        refine bodyPost_ret (v := .tuple #[.agg #[.int .i64 (Tr.id (l[k]).1), .int .i64 (Tr.kind (l[k]).1), .string (Tr.text (l[k]).1), .slice A2 (Tr.kids (l[k]).1).length cA], .bool true]) (results_row_tmp rfl _ _ (w.heap.size + 1) _ _ _ _ _ rfl rfl (set4 HX.out.2.2.2) Try.underlying24 rfl szNode) rfl ?_
        unfold FindR
        rw [HI.out]
        have hc4 := chg4 X (w.heap.size + 1) (.int .i64 (l[k]).1.id) (.int .i64 (l[k]).1.kind) (.string (l[k]).1.text) (.slice A2 (l[k]).1.kids.length cA)
        exact ⟨A2, cA, rfl, HR.out.1.kept hc4 (fun b hb => by simp; omega), HX.out.2.2.1.andThen hc4 (by simp)⟩
      · have hb : ((l[k]).1.id == id) = false := by simpa using hid
        have HI := Lib.hid hid
        clear hid
        go_wp2_with (skip; fail)
        go_round
        case rel =>
          refine ⟨k + 1, by omega, by go_num, Lib.hid fun j hj hl => ?_⟩
          rcases Nat.lt_or_ge j k with h | h
          · exact H.out j h hl
          · obtain rfl : j = k := by omega
            exact HI.out
        case measure => simp [intOf]; omega
    · obtain rfl : k = l.length := by omega
      have hres : t.subT id = none := by rw [← HX.out.2.1]; exact firstW_none (fun j hj => H.out j hj hj)
      have HI := Lib.hid hres
      obtain ⟨q0, q1, q2, q3⟩ := blk4 HX.out.2.2.2
      have f0 := blkF HX.out.2.2.2 0
      have f1 := blkF HX.out.2.2.2 1
      have f2 := blkF HX.out.2.2.2 2
      have f3 := blkF HX.out.2.2.2 3
      clear hres
      go_wp2_with (skip; fail)
      refine bodyPost_ret (v := .tuple #[.agg #[.int .i64 0, .int .i64 0, .string ⟨#[]⟩, .slice none 0 0], .bool false]) (results_row_tmp rfl _ _ (w.heap.size + 1) _ _ _ _ _ rfl rfl (set4 HX.out.2.2.2) Try.underlying24 rfl szNode) rfl ?_
      unfold FindR
      rw [HI.out]
      exact ⟨rfl, HX.out.2.2.1.andThen (chg4 _ _ _ _ _ _) (by simp)⟩
end Go.Proofs.Ytofjocjljbkjgaa

namespace Go.Proofs.Ytofjocjljbkjgaa
open Go.RowKit
def ints (l : List Nat) : List Int := l.map (fun (i : Nat) => (i : Int))
end Go.Proofs.Ytofjocjljbkjgaa
namespace Go.Proofs.Ytofjocjljbkjgaa
open Go.RowKit
section
variable {P : Program} {ops : Array Oper} {Q : Exit → Act → World → Prop} {md : Region.Mode} {S : World → Prop} {eff brk : Nat → Bool}
theorem M_two {i j : Nat} {oi oj : Oper} {fuel : Nat} {listed : Array Bool} {a : Act} {w : World} (hi0 : ops.toList[i]? = some oi) (hj0 : ops.toList[j]? = some oj) (hr : Region.ready md ops listed = [i, j]) (hei : eff i = true) (hej : eff j = true)
    (h : wpList P ops (EffQ Q (fun a' w' => S w' ∧ wpAnyM P md ops Q S eff brk fuel (listed.setIfInBounds i true) a' w')) [oi] a w)
    (k : wpList P ops (EffQ Q (fun a' w' => S w' ∧ wpAnyM P md ops Q S eff brk fuel (listed.setIfInBounds j true) a' w')) [oj] a w) : wpAnyM P md ops Q S eff brk (fuel + 1) listed a w := by
  have key : ∀ (x : Nat) (ox : Oper), ops[x]? = some ox → eff x = true → wpList P ops (EffQ Q (fun a' w' => S w' ∧ wpAnyM P md ops Q S eff brk fuel (listed.setIfInBounds x true) a' w')) [ox] a w →
      wpOp P ops Q x (fun a' w' => (eff x = false → w' = w) ∧ (brk x = false → S w → S w') ∧ wpAnyM P md ops Q S eff brk fuel (listed.setIfInBounds x true) a' w') a w := by
    intro x ox hx he h
    refine wpOp_mono (K := fun a' w' => S w' ∧ wpAnyM P md ops Q S eff brk fuel (listed.setIfInBounds x true) a' w') (fun a' w' h => ⟨fun h0 => (by rw [he] at h0; cases h0), fun _ _ => h.1, h.2⟩) ?_
    unfold wpOp
    simp only [hx]
    unfold wpList at h
    split
    · rename_i hw
      rw [if_pos hw] at h
      rcases h with h | ⟨h1, a', w', h2⟩
      · exact .inl (wp_of_EffQ (Oper.wp_mono (fun a w h => h) h))
      · exact .inr ⟨h1, a', w', h2⟩
    · rename_i hw
      rw [if_neg hw] at h
      exact h
  refine ⟨fun h0 => (by rw [h0] at hr; cases hr), fun x hx => ?_⟩
  rw [hr] at hx
  rcases List.mem_cons.1 hx with rfl | hx
  · exact key _ _ (by simpa using hi0) hei h
  · obtain rfl := List.mem_singleton.1 hx
    exact key _ _ (by simpa using hj0) hej k
end
end Go.Proofs.Ytofjocjljbkjgaa


namespace Go.Proofs.Ytofjocjljbkjgaa
open Go.RowKit
def zeroT : Tr := ⟨0, 0, ⟨#[]⟩, []⟩
end Go.Proofs.Ytofjocjljbkjgaa
namespace Go.Proofs.Ytofjocjljbkjgaa
open Go.RowKit
theorem szST9 : (Try.prog.info? 27).map (·.size) = some 9 := by kernel_rfl
theorem zeroC (ok : Nat → Prop) (w : World) : TrC ok w zeroT [.int .i64 (Tr.id zeroT), .int .i64 (Tr.kind zeroT), .string (Tr.text zeroT), .slice none (Tr.kids zeroT).length 0] := .none zeroT none 0 rfl (by omega) (by decide)
end Go.Proofs.Ytofjocjljbkjgaa

namespace Go.Proofs.Ytofjocjljbkjgaa
open Go.RowKit
theorem flatN {n : Nat} : ∀ css : List (List Value), (∀ cs ∈ css, cs.length = n) → css.flatten.length = css.length * n
  | [], _ => by simp
  | c :: css, h => by
    rw [List.flatten_cons, List.length_append, flatN css (fun x hx => h x (by simp [hx])), h c (by simp), List.length_cons, Nat.add_mul]; omega
theorem flatN_at {n : Nat} : ∀ (css : List (List Value)) (i : Nat) (cs : List Value) (j : Nat) (v : Value), (∀ cs ∈ css, cs.length = n) → css[i]? = some cs → cs[j]? = some v → css.flatten[i * n + j]? = some v
  | [], i, cs, j, v, _, h, _ => by simp at h
  | c :: css, 0, cs, j, v, h, h1, h2 => by
    simp at h1; subst h1
    rw [List.flatten_cons, Nat.zero_mul, Nat.zero_add, List.getElem?_append_left (List.getElem?_eq_some_iff.1 h2).1]; exact h2
  | c :: css, i + 1, cs, j, v, h, h1, h2 => by
    have h4 := h c (by simp)
    rw [List.flatten_cons, List.getElem?_append_right (by rw [h4, Nat.add_mul]; omega), h4, show (i + 1) * n + j - n = i * n + j from by rw [Nat.add_mul]; omega]
    exact flatN_at css i cs j v (fun x hx => h x (by simp [hx])) (by simpa using h1) h2
theorem flatN_set {n : Nat} : ∀ (css : List (List Value)) (i j : Nat) (u : Value) (hi : i < css.length), (∀ cs ∈ css, cs.length = n) → j < n → css.flatten.set (i * n + j) u = (css.set i ((css[i]).set j u)).flatten
  | c :: css, 0, j, u, _, h, hj => by
    have h4 := h c (by simp)
    simp only [Nat.zero_mul, Nat.zero_add, List.flatten_cons, List.getElem_cons_zero, List.set_cons_zero]
    rw [List.set_append_left _ _ (by omega)]
  | c :: css, i + 1, j, u, hi, h, hj => by
    have h4 := h c (by simp)
    simp only [List.flatten_cons, List.getElem_cons_succ, List.set_cons_succ]
    rw [List.set_append_right _ _ (by rw [h4, Nat.add_mul]; omega), h4, show (i + 1) * n + j - n = i * n + j from by rw [Nat.add_mul]; omega]
    rw [flatN_set css i j u (by simpa using hi) (fun x hx => h x (by simp [hx])) hj]
structure RowR (w : World) (n : Nat) (T : TypeId) (base : Nat) (v : Value) (css : List (List Value)) : Prop where
  row : w.ownsRow base T n v css.length css.flatten
  len : ∀ cs ∈ css, cs.length = n
namespace RowR
variable {w w' : World} {n base : Nat} {T : TypeId} {v v' : Value} {css : List (List Value)} {l : List Nat}
theorem nil (w : World) (n : Nat) (T : TypeId) (base : Nat) : RowR w n T base (.slice none 0 0) [] := ⟨World.ownsRow_nil _ _ _ _, by simp⟩
theorem own (h : RowR w n T base v css) : ∀ b, v.ownBlock = some b → base ≤ b ∧ b < w.heap.size := h.row.lt
theorem slice (h : RowR w n T base v css) : ∃ A c, v = .slice A css.length c := own_slice h.row
theorem kept (h : RowR w n T base v css) (hc : Chg l w w') (hl : ∀ b, v.ownBlock = some b → b ∉ l) : RowR w' n T base v css := ⟨own_kept h.row hc hl, h.len⟩
theorem weak {base' : Nat} (h : RowR w n T base v css) (hb : base' ≤ base) : RowR w n T base' v css := by
  refine ⟨⟨h.row.1, ?_⟩, h.len⟩
  rcases h.row.2 with h0 | ⟨g, c, C, e1, e2, r⟩
  · exact .inl h0
  · exact .inr ⟨g, c, C, e1, by omega, r⟩
theorem push {cs : List Value} (h : RowR w n T base v css) (ho : w'.ownsRow base T n v' (css.length + 1) (css.flatten ++ cs)) (hl : cs.length = n) : RowR w' n T base v' (css ++ [cs]) :=
  ⟨by simpa using ho, fun x hx => by rcases List.mem_append.1 hx with hx | hx; exact h.len x hx; simp at hx; rw [hx]; exact hl⟩
theorem pushN {ds : List (List Value)} (h : RowR w n T base v css) (ho : w'.ownsRow base T n v' (css.length + ds.length) (css.flatten ++ ds.flatten)) (hl : ∀ cs ∈ ds, cs.length = n) : RowR w' n T base v' (css ++ ds) :=
  ⟨by simpa using ho, fun x hx => by rcases List.mem_append.1 hx with hx | hx; exact h.len x hx; exact hl x hx⟩
theorem block (h : RowR w n T base v css) (hp : 0 < css.length) : ∃ g c C, v = .slice (some ⟨g, 0, none⟩) css.length c ∧ base ≤ g ∧ w.heap[g]? = some (.cells C T (0, 0)) ∧ css.length ≤ c ∧ c ≤ maxLen ∧ C.size = c * n ∧ C.toList.take (css.length * n) = css.flatten ∧ ∀ i (hi : i < css.length), w.rangeAt g (i * n) (css[i]) := by
  rcases h.row.2 with ⟨rfl, h0⟩ | ⟨g, cap, cur, rfl, hb, hg, hn1, hn2, hsz, htk⟩
  · omega
  · refine ⟨g, cap, cur, rfl, hb, hg, hn1, hn2, hsz, htk, fun i hi j u hu => ?_⟩
    have := flatN_at css i _ j u h.len (List.getElem?_eq_getElem hi) hu
    rw [← htk, List.getElem?_take] at this
    split at this
    · simp only [World.cell?, hg]; simpa using this
    · cases this
theorem setCell {g c i j : Nat} {C : Array Value} {u : Value} (h : RowR w n T base (.slice (some ⟨g, 0, none⟩) css.length c) css) (hi : i < css.length) (hj : j < n) : RowR (w.setCell ⟨g, i * n + j, none⟩ u) n T base (.slice (some ⟨g, 0, none⟩) css.length c) (css.set i ((css[i]).set j u)) := by
  obtain ⟨g', c', C, e, hb, hg, h1, h2, h3, h4, _⟩ := h.block (by omega)
  injection e with e1 _ e3
  injection e1 with e1
  injection e1 with e1 _ _
  subst e1 e3
  have hlen : ∀ cs ∈ css.set i ((css[i]).set j u), cs.length = n := fun cs hcs => by
    rcases List.mem_or_eq_of_mem_set hcs with hm | rfl
    · exact h.len cs hm
    · simpa using h.len _ (List.getElem_mem hi)
  refine ⟨⟨by rw [flatN _ hlen], .inr ⟨g, c, C.setIfInBounds (i * n + j) u, by simp, hb, heap_setCell_same _ _ _ _ _ _ hg, by simpa using h1, h2, by simpa using h3, ?_⟩⟩, hlen⟩
  rw [Array.toList_setIfInBounds, List.take_set, List.length_set, h4, flatN_set css i j u hi h.len hj]
end RowR
end Go.Proofs.Ytofjocjljbkjgaa

namespace Go.Proofs.Ytofjocjljbkjgaa
open Go.RowKit
structure IvW (w : World) (t : Tr) (A : Option Addr) (c : Nat) (s : Stp) (As : Option Addr) (cs : Nat) (W : World) : Prop where
  b0 : W.heap[w.heap.size]? = some (.cells #[.int .i64 (Tr.id t), .int .i64 (Tr.kind t), .string (Tr.text t), .slice A (Tr.kids t).length c] 24 (0, 0))
  b1 : W.heap[w.heap.size + 1]? = some (.cells #[.int .i8 (Stp.op s), .int .i64 (Stp.id s), .int .i64 (Stp.par s), .int .i64 (Stp.place s), .string (Stp.text s), .int .i64 (Stp.sub s).id, .int .i64 (Stp.sub s).kind, .string (Stp.sub s).text, .slice As (Stp.sub s).kids.length cs] 27 (0, 0))
  b2 : W.heap[w.heap.size + 2]? = some (.cells #[.int .i64 0, .int .i64 0, .string ⟨#[]⟩, .slice none 0 0] 24 (0, 0))
  chg : Chg [] w W
theorem IvW.kept {w : World} {t : Tr} {A : Option Addr} {c : Nat} {s : Stp} {As : Option Addr} {cs : Nat} {W W' : World} (h : IvW w t A c s As cs W) (hc : Chg [] W W') : IvW w t A c s As cs W' :=
  ⟨hc.at h.b0 (by simp), hc.at h.b1 (by simp), hc.at h.b2 (by simp), h.chg.trans hc⟩
end Go.Proofs.Ytofjocjljbkjgaa
namespace Go.Proofs.Ytofjocjljbkjgaa
open Go.RowKit
section
variable {P : Program} {ops : Array Oper} {rest : List Oper} {o : Oper} {a : Act} {w : World} {Q : Exit → Act → World → Prop}
theorem wpList_store_at (hgd : o.guard = none) (T : TypeId) (x y : Operand) (ho : o.op = .store T x y) (g k : Nat) (hx : a.eval x = .pointer (some ⟨g, k, none⟩)) (cells : Array Value) (hy : a.eval y = .agg cells)
    (cur : Array Value) (t : TypeId) (hg : w.heap[g]? = some (.cells cur t (0, 0))) (hi : (P.info? T).map (·.size) = some cells.size) (hfit : k + cells.size ≤ cur.size) (h1 : ∀ u ∈ cells.toList, u.oneCell' = true)
    (h : wpList P ops Q rest (a.put o.dst undef) (w.setRow g (cur.toList.take k ++ cells.toList ++ cur.toList.drop (k + cells.size)).toArray)) : wpList P ops Q (o :: rest) a w := by
  refine wpList_runs hgd ?_ h
  have := run_storeCells_at (P := P) g k t cells.toList 0 cur w hg (by simpa using hfit) h1
  cases hq : P.info? T with
  | none => simp [hq] at hi
  | some i =>
    have hs : cells.size = i.size := by simp [hq] at hi; omega
    simp only [Nat.add_zero, Array.length_toList] at this
    simp [execOp, ho, hx, hy, Instr.storeAt, Instr.sureAddr, storeVar, sizeOf, typeInfo, hq, Value.cells, hs, Result.andThen]
    rw [hs] at this
    rw [this]
    simp
end
end Go.Proofs.Ytofjocjljbkjgaa



namespace Go.Proofs.Ytofjocjljbkjgaa
open Go.RowKit
structure Box2 (g : Gr) (Ag : Option Addr) (cg : Nat) (t : Tr) (A : Option Addr) (c : Nat) (w W : World) : Prop where
  g : W.heap[w.heap.size]? = some (.cells #[.slice Ag g.kinds.length cg, .int .i64 g.root] 43 (0, 0))
  t : W.heap[w.heap.size + 1]? = some (.cells #[.int .i64 (Tr.id t), .int .i64 (Tr.kind t), .string (Tr.text t), .slice A (Tr.kids t).length c] 24 (0, 0))
  chg : Chg [] w W
theorem Box2.kept {g : Gr} {Ag : Option Addr} {cg : Nat} {t : Tr} {A : Option Addr} {c : Nat} {w W W' : World} (h : Box2 g Ag cg t A c w W) (hc : Chg [] W W') : Box2 g Ag cg t A c w W' :=
  ⟨hc.at h.g (by simp), hc.at h.t (by simp), h.chg.trans hc⟩
theorem Box2.new (g : Gr) (Ag : Option Addr) (cg : Nat) (t : Tr) (A : Option Addr) (c : Nat) (w : World) : Box2 g Ag cg t A c w ((w.alloc (.cells #[.slice Ag g.kinds.length cg, .int .i64 g.root] 43)).alloc (.cells #[.int .i64 (Tr.id t), .int .i64 (Tr.kind t), .string (Tr.text t), .slice A (Tr.kids t).length c] 24)) :=
  ⟨heap_old (heap_new _ _ rfl) _, heap_new _ _ (by simp), (by with_reducible repeat (first | exact Chg.refl _ _ | apply Chg.alloc | apply Chg.drew | apply Chg.drewN | (refine Chg.setCell ?_ _ _ (by simp))))⟩
structure NBox (x : Tr) (A : Option Addr) (c b : Nat) (W : World) : Prop where
  blk : W.heap[b]? = some (.cells #[.int .i64 (Tr.id x), .int .i64 (Tr.kind x), .string (Tr.text x), .slice A (Tr.kids x).length c] 24 (0, 0))
  ok : TrC (fun g => g < W.heap.size) W x [.int .i64 (Tr.id x), .int .i64 (Tr.kind x), .string (Tr.text x), .slice A (Tr.kids x).length c]
theorem NBox.kept {x : Tr} {A : Option Addr} {c b : Nat} {W W' : World} (h : NBox x A c b W) (hc : Chg [] W W') : NBox x A c b W' := ⟨hc.at h.blk (by simp), h.ok.next hc⟩
theorem NBox.new {x : Tr} {A : Option Addr} {c : Nat} {W : World} (h : TrC (fun g => g < W.heap.size) W x [.int .i64 (Tr.id x), .int .i64 (Tr.kind x), .string (Tr.text x), .slice A (Tr.kids x).length c]) : NBox x A c W.heap.size (W.alloc (.cells #[.int .i64 (Tr.id x), .int .i64 (Tr.kind x), .string (Tr.text x), .slice A (Tr.kids x).length c] 24)) := ⟨heap_new _ _ rfl, h.next (by with_reducible repeat (first | exact Chg.refl _ _ | apply Chg.alloc | apply Chg.drew | apply Chg.drewN | (refine Chg.setCell ?_ _ _ (by simp))))⟩
end Go.Proofs.Ytofjocjljbkjgaa
namespace Go.Proofs.Ytofjocjljbkjgaa
open Go.RowKit
structure Cop2 (w wr : World) (t : Tr) (A : Option Addr) (c k : Nat) (v : Value) : Prop where
  arg : wr.heap[w.heap.size]? = some (.cells #[.int .i64 (Tr.id t), .int .i64 (Tr.kind t), .string (Tr.text t), .slice A (Tr.kids t).length c] 24 (0, 0))
  res : wr.heap[w.heap.size + 1]? = some (.cells #[.int .i64 0, .int .i64 0, .string ⟨#[]⟩, .slice none 0 0] 24 (0, 0))
  out : wr.heap[w.heap.size + 2]? = some (.cells #[.int .i64 t.id, .int .i64 t.kind, .string t.text, v] 24 (0, 0))
  chg : Chg [] w wr
  row : RowV wr (w.heap.size + 3) v (t.kids.take k) (fun g => w.heap.size + 3 ≤ g)
set_option maxHeartbeats 4000000 in
set_option maxRecDepth 100000 in
theorem copy_any : ∀ (t : Tr) (A : Option Addr) (c : Nat) (w : World), TrC (fun _ => True) w t [.int .i64 (Tr.id t), .int .i64 (Tr.kind t), .string (Tr.text t), .slice A (Tr.kids t).length c] → t.nodes ≤ 100000 → Calls Try.prog 65 #[.agg #[.int .i64 (Tr.id t), .int .i64 (Tr.kind t), .string (Tr.text t), .slice A (Tr.kids t).length c]] w (NewPost t w) := by
  intro t
  induction t using Tr.ind with
  | h t ih =>
  intro A c w hT hN
  obtain ⟨ip, hi, hz0, hz1, hz2⟩ := info_parts infoNode
  obtain ⟨A', c', hcs, hlc, hcm, htx, hK⟩ := hT.opens
  simp only [List.cons.injEq, Value.slice.injEq, true_and, and_true] at hcs
  obtain ⟨rfl, rfl⟩ := hcs
  have hlen : t.kids.length ≤ 100000 := by have := nodesL_len t.kids; rw [Tr.nodes_eq] at hN; omega
  have HI := Lib.hid (And.intro hi (And.intro hz0 (And.intro hz1 hz2)))
  have HH := Lib.hid (And.intro ih (And.intro hN (And.intro hcm (And.intro hlc (And.intro htx hK)))))
  clear hi hz0 hz1 hz2 hT hK ih hN hcm hlc htx
  go_enter Try.func65, Try.ntmps65
  go_wp2
  refine wp_world (fun W => Cop2 w W t A c 0 (.slice none 0 0)) ⟨heap_old (heap_old (heap_new _ _ rfl) _) _, heap_old (heap_new _ _ (by simp)) _, heap_new _ _ (by simp), (by with_reducible repeat (first | exact Chg.refl _ _ | apply Chg.alloc | apply Chg.drew | apply Chg.drewN | (refine Chg.setCell ?_ _ _ (by simp)))), RowV.nil _ _ _⟩ ?_
  intro W hCop
  have HX := Lib.hid hCop
  clear hCop
  go_loopw [4] (fun i wr => ∃ (k : Nat) (v : Value), k ≤ t.kids.length ∧ i = .int .i64 k ∧ Hid (Cop2 w wr t A c k v)) (fun i _ => t.kids.length - (intOf i).toNat)
  case atStart => exact ⟨0, _, Nat.zero_le _, rfl, HX.out⟩
  case round =>
    obtain ⟨k, v, hk, rfl, H⟩ := hrel
    clear HX
    obtain ⟨p0, p1, p2, p3⟩ := blk4 H.out.arg
    obtain ⟨Av, cv, rfl⟩ : ∃ Av cv, v = .slice Av k cv := by
      obtain ⟨css, fs, ho, _⟩ := H.out.row
      obtain ⟨Av, cv, e⟩ := own_slice ho
      rw [show (t.kids.take k).length = k from by simp; omega] at e
      exact ⟨Av, cv, e⟩
    by_cases hlt : k < t.kids.length
    · obtain ⟨gk, ok, cs, rfl, _, hr, hat⟩ := HH.out.2.2.2.2.2 k _ (List.getElem?_eq_getElem hlt)
      obtain ⟨Ak, ck, rfl, _⟩ := hat.opens
      have hr' := H.out.chg.range hr (by simp)
      have hkn : (t.kids[k]).nodes ≤ 100000 := by have := nodesL_mem (List.getElem_mem hlt); have h2 := HH.out.2.1; rw [Tr.nodes_eq] at h2; omega
      have hcall := HH.out.1 (t.kids[k]) (List.getElem_mem hlt) Ak ck wr (hat.kept H.out.chg (by simp)) hkn
      have HC := Lib.hid (And.intro hcall hr')
      clear hcall hat hkn hr hr'
      go_wp2_with (first
        | (refine wpList_load_mid rfl 24 (.tmp 23) rfl gk (ok + k * 4) rfl _ _ HC.out.2 Try.underlying24 rfl szNode ?_)
        | (go_at_call 65; refine HC.out.1.mono ?_; rintro e X ⟨A1, c1, rfl, hV, hX⟩; have HX := Lib.hid (And.intro hV hX); have hXa : Chg [] X (X.alloc (.cells #[.int .i64 (Tr.id (t.kids[k])), .int .i64 (Tr.kind (t.kids[k])), .string (Tr.text (t.kids[k])), .slice A1 (Tr.kids (t.kids[k])).length c1] 24)) := (by with_reducible repeat (first | exact Chg.refl _ _ | apply Chg.alloc | apply Chg.drew | apply Chg.drewN | (refine Chg.setCell ?_ _ _ (by simp)))); have hXX := H.out.chg.trans (hX.trans hXa); have hou := (hX.trans hXa).at H.out.out (by simp); obtain ⟨o0, o1, o2, o3⟩ := blk4 hou; have of3 := blkF hou 3; clear hV hX hXa hXX hou)
        | (have hwr := lt_of_block H.out.out
           have hXs := HX.out.2.size
           have hXa : Chg [] X ((X.alloc (.cells #[.int .i64 (Tr.id (t.kids[k])), .int .i64 (Tr.kind (t.kids[k])), .string (Tr.text (t.kids[k])), .slice A1 (Tr.kids (t.kids[k])).length c1] 24)).alloc (.cells #[.int .i64 (Tr.id (t.kids[k])), .int .i64 (Tr.kind (t.kids[k])), .string (Tr.text (t.kids[k])), .slice A1 (Tr.kids (t.kids[k])).length c1] 24)) := (by with_reducible repeat (first | exact Chg.refl _ _ | apply Chg.alloc | apply Chg.drew | apply Chg.drewN | (refine Chg.setCell ?_ _ _ (by simp))))
           obtain ⟨xs, hown, hgrow⟩ := H.out.row.grow (HX.out.2.trans hXa)
           rw [show (t.kids.take k).length = k from by simp; omega] at hown hgrow
           have HG := Lib.hid (And.intro hgrow hXa)
           clear hgrow hXa
           refine wpList_append_own_at _ rfl (.tmp 27) (.tmp 29) 22 rfl _ 24 ip _ 4 56 Try.underlying22 HI.out.1 HI.out.2.1 HI.out.2.2.1 HI.out.2.2.2 rfl (by omega) (.slice Av k cv) _ _ rfl hown ⟨X.heap.size + 1, 0, none⟩ 1 1 _ rfl rfl (fun j u hu => by rw [Addr.add_mid]; exact range_all (heap_new (X.alloc _) _ (by simp)) j u hu) (HX.out.1.one) (by unfold maxLen; omega) (by omega) (by simp; omega) ?_
           intro v' X3 hown' hgr _ hat
           have hrow3 := HG.out.1 _ _ _ X3 v' (HX.out.1.kept HG.out.2 (by simp)) (fun x hx => ⟨by omega, hx.1, Nat.lt_of_lt_of_le hx.2 HG.out.2.size⟩) hown' hgr hat
           rw [← take_snoc' _ _ hlt] at hrow3
           have hC3 : Chg (Value.slice Av k cv).ownBlock.toList wr X3 := ((HX.out.2.trans HG.out.2).mono (by simp)).grown hgr (by intro k hk; rw [hk]; simp)
           have hnb : ∀ b, b ∈ (Value.slice Av k cv).ownBlock.toList → w.heap.size + 3 ≤ b := fun b hb => by have := H.out.row.own b (by simpa using hb); omega
           have hout3 := hC3.at H.out.out (fun hm => by have := hnb _ hm; omega)
           have s3 := (blk4 hout3).2.2.2
           have f3 := blkF hout3 3
           obtain ⟨A', c', rfl⟩ := own_slice hown'
           have H3 := Lib.hid (And.intro hrow3 (And.intro hC3 (And.intro hnb hout3)))
           clear hrow3 hgr hat hown' hC3 hnb hout3 HG)
        | fail)
      go_roundw
      case rel =>
        have hnb := H3.out.2.2.1
        have hCs : Chg [w.heap.size + 2] X3 (X3.setCell ⟨w.heap.size + 2, 3, none⟩ (.slice A' (k + 1) c')) := (Chg.refl _ _).setCell _ _ (by simp)
        have hnb3 : ∀ b, (Value.slice A' (k + 1) c').ownBlock = some b → w.heap.size + 3 ≤ b := fun b hb => by have := H3.out.1.own b hb; omega
        refine ⟨k + 1, .slice A' (k + 1) c', by omega, by go_num, ?_, ?_, ?_, ?_, ?_⟩
        · exact hCs.at (H3.out.2.1.at H.out.arg (fun hm => by have := hnb _ hm; omega)) (by simp)
        · exact hCs.at (H3.out.2.1.at H.out.res (fun hm => by have := hnb _ hm; omega)) (by simp)
        · exact heap_setCell_same _ _ 3 _ _ _ H3.out.2.2.2
        · exact (H.out.chg.andThen H3.out.2.1 (fun i hi => .inr (by have := hnb i hi; omega))).andThen hCs (fun i hi => .inr (by simp at hi; omega))
        · exact H3.out.1.kept hCs (fun b hb => by have := hnb3 b hb; simp; omega) (fun g hg => by simp; omega)
      case measure => simp [intOf]; omega
    · obtain rfl : k = t.kids.length := by omega
      have hrow := H.out.row
      rw [List.take_of_length_le (Nat.le_refl _)] at hrow
      obtain ⟨A', c', he, hV⟩ := hrow.node t HH.out.2.2.2.2.1
      injection he with hA1 _ hc1
      subst hA1 hc1
      have HV := Lib.hid hV
      clear hrow hV
      obtain ⟨q0, q1, q2, q3⟩ := blk4 H.out.out
      obtain ⟨r0, r1, r2, r3⟩ := blk4 H.out.res
      have f0 := blkF H.out.res 0
      have f1 := blkF H.out.res 1
      have f2 := blkF H.out.res 2
      have f3 := blkF H.out.res 3
      go_wp2
      have hC0 := chg4 wr (w.heap.size + 1) (.int .i64 t.id) (.int .i64 t.kind) (.string t.text) (.slice Av t.kids.length cv)
      have hsz := H.out.chg.size
      have hlt1 := lt_of_block H.out.out
      have hF : ∀ g, w.heap.size + 3 ≤ g ∨ (Value.slice Av t.kids.length cv).ownBlock = some g → w.heap.size + 3 ≤ g := fun g hg => by
        rcases hg with hg | hg
        · omega
        · have := H.out.row.own g hg; omega
      refine bodyPost_ret (v := .agg #[.int .i64 (Tr.id t), .int .i64 (Tr.kind t), .string (Tr.text t), .slice Av (Tr.kids t).length cv]) (results_cell_row rfl _ _ (w.heap.size + 1) _ _ _ _ rfl (set4 H.out.res) Try.underlying24 rfl szNode) rfl ⟨Av, cv, rfl, ?_, H.out.chg.andThen hC0 (fun i hi => by simp at hi; omega)⟩
      exact ((HV.out.bound.weak (F' := fun g => w.heap.size + 3 ≤ g ∧ g < wr.heap.size) (fun g hg => ⟨hF g hg.1, hg.2⟩)).kept hC0 (fun g hg => by simp; omega)).weak (fun g hg => ⟨by omega, Nat.lt_of_lt_of_le hg.2 hC0.size⟩)
end Go.Proofs.Ytofjocjljbkjgaa
namespace Go.Proofs.Ytofjocjljbkjgaa
open Go.RowKit
def SrcN (ok : Nat → Prop) (w : World) (A : Option Addr) (ks : List Tr) : Prop := ∀ i k, ks[i]? = some k → ∃ g o cs, A = some ⟨g, o, none⟩ ∧ w.rangeAt g (o + i * 4) cs ∧ TrC ok w k cs
theorem SrcN.of {ok : Nat → Prop} {w : World} {A : Option Addr} {ks : List Tr} (h : KidsC ok w A ks) : SrcN ok w A ks := fun i k hk => by
  obtain ⟨g, o, cs, h1, _, h2, h3⟩ := h i k hk; exact ⟨g, o, cs, h1, h2, h3⟩
theorem SrcN.one {ok : Nat → Prop} {w : World} {g : Nat} {t : Tr} {cs : List Value} (hb : w.heap[g]? = some (.cells cs.toArray 24 (0, 0))) (h : TrC ok w t cs) : SrcN ok w (some ⟨g, 0, none⟩) [t] := fun i k hk => by
  match i, hk with
  | 0, hk => simp at hk; subst hk; exact ⟨g, 0, cs, rfl, by simpa using range_all hb, h⟩
  | i + 1, hk => simp at hk
theorem SrcN.take {ok : Nat → Prop} {w : World} {A : Option Addr} {ks : List Tr} (h : SrcN ok w A ks) (n : Nat) : SrcN ok w A (ks.take n) := fun i k hk => by
  rw [List.getElem?_take] at hk
  split at hk
  · exact h i k hk
  · cases hk
theorem SrcN.drop {ok : Nat → Prop} {w : World} {A : Option Addr} {ks : List Tr} {cap n : Nat} (h : SrcN ok w A ks) (hc : ks.length ≤ cap) : SrcN ok w (tailA A cap n) (ks.drop n) := fun i k hk => by
  rw [List.getElem?_drop] at hk
  have hlt := (List.getElem?_eq_some_iff.1 hk).1
  obtain ⟨g, o, cs, rfl, h2, h3⟩ := h _ _ hk
  refine ⟨g, o + n * 4, cs, ?_, by rw [Nat.add_assoc, ← Nat.add_mul]; exact h2, h3⟩
  unfold tailA
  rw [if_neg (by omega)]
  simp [Addr.add]
structure RowN (w : World) (ok : Nat → Prop) (base : Nat) (v : Value) (ks : List Tr) : Prop where
  ex : ∃ css, RowR w 4 24 base v css ∧ css.length = ks.length ∧ ∀ (i : Nat) k cs, ks[i]? = some k → css[i]? = some cs → TrC (fun b => ok b ∧ b < w.heap.size ∧ v.ownBlock ≠ some b) w k cs
theorem RowN.nil (w : World) (ok : Nat → Prop) (base : Nat) : RowN w ok base (.slice none 0 0) [] := ⟨[], .nil _ _ _ _, rfl, fun k s cs h => by simp at h⟩
theorem RowN.own {w : World} {ok : Nat → Prop} {base : Nat} {v : Value} {ks : List Tr} (h : RowN w ok base v ks) : ∀ b, v.ownBlock = some b → base ≤ b ∧ b < w.heap.size := by
  obtain ⟨css, h1, _⟩ := h.ex; exact h1.own
theorem RowN.slice {w : World} {ok : Nat → Prop} {base : Nat} {v : Value} {ks : List Tr} (h : RowN w ok base v ks) : ∃ A c, v = .slice A ks.length c := by
  obtain ⟨css, h1, h2, _⟩ := h.ex; rw [← h2]; exact h1.slice
theorem RowN.kept {w w' : World} {ok : Nat → Prop} {base : Nat} {v : Value} {ks : List Tr} {l : List Nat} (h : RowN w ok base v ks) (hc : Chg l w w') (h1 : ∀ b ∈ l, v.ownBlock ≠ some b ∧ ¬ ok b) : RowN w' ok base v ks := by
  obtain ⟨css, h2, h3, h4⟩ := h.ex
  refine ⟨css, h2.kept hc (fun b hb hm => (h1 b hm).1 hb), h3, fun i k cs hs hcs => ?_⟩
  exact ((h4 i k cs hs hcs).kept hc (fun b hb hm => (h1 b hm).2 hb.1)).weak (fun b hb _ => ⟨hb.1, Nat.lt_of_lt_of_le hb.2.1 hc.size, hb.2.2⟩)
theorem RowN.toC {w : World} {ok : Nat → Prop} {base : Nat} {A : Option Addr} {n c : Nat} {ks : List Tr} (h : RowN w ok base (.slice A n c) ks) : n = ks.length ∧ ks.length ≤ c ∧ c ≤ 9223372036854775807 ∧ KidsC (fun b => b < w.heap.size) w A ks := by
  obtain ⟨css, h1, h2, h3⟩ := h.ex
  rcases Nat.eq_zero_or_pos ks.length with h0 | hp
  · have hk : ks = [] := List.length_eq_zero_iff.1 h0
    subst hk
    obtain ⟨A', c', e⟩ := h1.slice
    rw [h2] at e
    injection e with e1 e2 e3
    subst e1 e2 e3
    rcases h1.row.2 with ⟨h5, _⟩ | ⟨g, cap, cur, h5, _, _, h6, h7, _⟩
    · injection h5 with q1 q2 q3; subst q3
      exact ⟨rfl, by simp, by omega, KidsC.nil _ _ _⟩
    · injection h5 with q1 q2 q3; subst q3
      unfold maxLen at h7
      exact ⟨rfl, by simp, by omega, KidsC.nil _ _ _⟩
  · obtain ⟨g, c', C, e, hb, hg, hcl, hcm, _, _, hr⟩ := h1.block (by omega)
    injection e with e1 e2 e3
    subst e1 e2 e3
    unfold maxLen at hcm
    refine ⟨h2, by omega, by omega, fun i k hk => ?_⟩
    have hlt := (List.getElem?_eq_some_iff.1 hk).1
    have hlt' : i < css.length := by omega
    exact ⟨g, 0, _, rfl, lt_of_block hg, by rw [Nat.zero_add]; exact hr i hlt', (h3 i k _ hk (List.getElem?_eq_getElem hlt')).weak (fun b hb _ => hb.2.1)⟩
theorem RowN.push {w w1 w' : World} {ok : Nat → Prop} {base : Nat} {v v' : Value} {ks ns : List Tr} {css ds : List (List Value)} {l : List Nat} (h1 : RowR w 4 24 base v css) (h2 : css.length = ks.length) (h3 : ∀ (i : Nat) k cs, ks[i]? = some k → css[i]? = some cs → TrC (fun b => ok b ∧ b < w.heap.size ∧ v.ownBlock ≠ some b) w k cs)
    (hc0 : Chg l w w1) (hl : ∀ b ∈ l, v.ownBlock ≠ some b ∧ ¬ ok b) (ho : w'.ownsRow base 24 4 v' (css.length + ds.length) (css.flatten ++ ds.flatten)) (hd : ds.length = ns.length) (h4 : ∀ (i : Nat) k cs, ns[i]? = some k → ds[i]? = some cs → TrC (fun b => ok b ∧ b < w1.heap.size ∧ v.ownBlock ≠ some b) w1 k cs)
    (hc : Chg v.ownBlock.toList w1 w') (hat : v'.ownBlock = v.ownBlock ∨ v'.ownBlock = some w1.heap.size) : RowN w' ok base v' (ks ++ ns) := by
  have h1' := h1.kept hc0 (fun b hb hm => (hl b hm).1 hb)
  have hd4 : ∀ cs ∈ ds, cs.length = 4 := fun cs hcs => by
    obtain ⟨i, hi, rfl⟩ := List.getElem_of_mem hcs
    have hi' : i < ns.length := by omega
    exact (h4 i _ _ (List.getElem?_eq_getElem hi') (List.getElem?_eq_getElem hi)).four
  have hsz := hc.size
  have hsz0 := hc0.size
  have hmv : ∀ k cs, TrC (fun b => ok b ∧ b < w1.heap.size ∧ v.ownBlock ≠ some b) w1 k cs → TrC (fun b => ok b ∧ b < w'.heap.size ∧ v'.ownBlock ≠ some b) w' k cs := fun k cs h => by
    refine (h.kept hc (fun b hb hm => hb.2.2 (by simpa using hm))).weak (fun b hb _ => ⟨hb.1, by omega, ?_⟩)
    rcases hat with e | e
    · rw [e]; exact hb.2.2
    · rw [e]; intro he; injection he; omega
  refine ⟨css ++ ds, h1'.pushN ho hd4, by simp [h2, hd], fun i k cs hk hcs => ?_⟩
  rcases Nat.lt_or_ge i ks.length with hi | hi
  · rw [List.getElem?_append_left hi] at hk
    rw [List.getElem?_append_left (by omega)] at hcs
    refine hmv k cs (((h3 i k cs hk hcs).kept hc0 (fun b hb hm => (hl b hm).2 hb.1)).weak (fun b hb _ => ⟨hb.1, by omega, hb.2.2⟩))
  · rw [List.getElem?_append_right hi] at hk
    rw [List.getElem?_append_right (by omega), h2] at hcs
    exact hmv k cs (h4 _ k cs hk hcs)
theorem wpList_append_nodes {ops : Array Oper} {rest : List Oper} {o : Oper} {a : Act} {w w1 : World} {Q : Exit → Act → World → Prop} (hgd : o.guard = none) (s x : Operand) (ho : o.op = .call { callee := .builtin .append, args := #[s, x], argTypes := #[22, 22] }) (ok : Nat → Prop) (base : Nat) (v : Value) (ks : List Tr) (hs : a.eval s = v) (hv : RowN w ok base v ks) {l : List Nat} (hc0 : Chg l w w1) (hl : ∀ b ∈ l, v.ownBlock ≠ some b ∧ ¬ ok b) (hb : base ≤ w.heap.size)
    (A : Option Addr) (m c : Nat) (ns : List Tr) (hx : a.eval x = .slice A m c) (hm : m = ns.length) (hA : SrcN (fun b => ok b ∧ b < w1.heap.size ∧ v.ownBlock ≠ some b) w1 A ns) (hk : ks.length ≤ 1000000) (hn : ns.length ≤ 1000000)
    (h : ∀ v' w', RowN w' ok base v' (ks ++ ns) → Chg v.ownBlock.toList w1 w' → (v'.ownBlock = v.ownBlock ∨ v'.ownBlock = some w1.heap.size) → wpList Try.prog ops Q rest (a.put o.dst v') w') : wpList Try.prog ops Q (o :: rest) a w1 := by
  subst hm
  obtain ⟨ip, hi, hz0, hz1, hz2⟩ := info_parts infoNode
  rcases Nat.eq_zero_or_pos ns.length with h0 | hp
  · have hn0 : ns = [] := List.length_eq_zero_iff.1 h0
    subst hn0
    obtain ⟨Av, cv, rfl⟩ := hv.slice
    have hcap : ks.length ≤ cv := (hv.toC).2.1
    refine wpList_append_zero hgd s x 22 24 ho ip Try.underlying22 hi Av ks.length cv hcap A c hs hx ?_
    exact h _ _ (by rw [List.append_nil]; exact hv.kept hc0 hl) (Chg.refl _ _) (.inl rfl)
  · obtain ⟨css, h1, h2, h3⟩ := hv.ex
    have h1' := h1.kept hc0 (fun b hb hm => (hl b hm).1 hb)
    obtain ⟨g, o', _, rfl, _, _⟩ := hA 0 _ (List.getElem?_eq_getElem hp)
    have hk' : ∀ i, i < ns.length → ∃ cs, w1.rangeAt g (o' + i * 4) cs ∧ TrC (fun b => ok b ∧ b < w1.heap.size ∧ v.ownBlock ≠ some b) w1 (ns.getD i ⟨0, 0, ⟨#[]⟩, []⟩) cs := fun i hi => by
      obtain ⟨g2, o2, cs, e, hr, ht⟩ := hA i _ (List.getElem?_eq_getElem hi)
      simp only [Option.some.injEq, Addr.mk.injEq, and_true] at e
      obtain ⟨rfl, rfl⟩ := e
      exact ⟨cs, hr, by rw [List.getD_eq_getElem?_getD, List.getElem?_eq_getElem hi]; exact ht⟩
    let fs : Nat → List Value := fun i => if h : i < ns.length then (hk' i h).choose else []
    have hfs : ∀ i, i < ns.length → w1.rangeAt g (o' + i * 4) (fs i) ∧ TrC (fun b => ok b ∧ b < w1.heap.size ∧ v.ownBlock ≠ some b) w1 (ns.getD i ⟨0, 0, ⟨#[]⟩, []⟩) (fs i) := fun i hi => by
      have := (hk' i hi).choose_spec
      simpa [fs, hi] using this
    obtain ⟨ds, hds⟩ : ∃ ds, ds = (List.range ns.length).map fs := ⟨_, rfl⟩
    have hdl : ds.length = ns.length := by rw [hds]; simp
    have hdg : ∀ (i : Nat) cs, ds[i]? = some cs → i < ns.length ∧ cs = fs i := fun i cs hcs => by
      have hlt := (List.getElem?_eq_some_iff.1 hcs).1
      rw [hdl] at hlt
      refine ⟨hlt, ?_⟩
      rw [hds] at hcs
      simp [hlt] at hcs
      exact hcs.symm
    have hd4 : ∀ cs ∈ ds, cs.length = 4 := fun cs hcs => by
      obtain ⟨i, hi, rfl⟩ := List.getElem_of_mem hcs
      obtain ⟨q1, q2⟩ := hdg i _ (List.getElem?_eq_getElem hi)
      rw [q2]; exact (hfs i q1).2.four
    have hfl := range_flat (w := w1) (b := g) ds o' hd4 (fun i cs hcs => by obtain ⟨q1, q2⟩ := hdg i cs hcs; rw [q2]; exact (hfs i q1).1)
    have hone := flat_one (w := w1) (css := ds) (fun cs hcs => by
      obtain ⟨i, hi, rfl⟩ := List.getElem_of_mem hcs
      obtain ⟨q1, q2⟩ := hdg i _ (List.getElem?_eq_getElem hi)
      rw [q2]; exact one4 (hfs i q1).2)
    refine wpList_append_own_at _ hgd s x 22 ho base 24 ip _ 4 56 Try.underlying22 hi hz0 hz1 hz2 rfl (by omega) v css.length _ hs h1'.row ⟨g, o', none⟩ ns.length c ds.flatten hx (by rw [flat_len4 ds hd4, hdl]) (fun j u hu => by rw [Addr.add_mid]; exact hfl j u hu) hone (by unfold maxLen; omega) (by omega) (Nat.le_trans hb hc0.size) ?_
    intro v' X hown hgr _ hat
    have hc : Chg v.ownBlock.toList w1 X := Chg.grown (Chg.refl _ _) hgr (by intro k hk; rw [hk]; simp)
    rw [← hdl] at hown
    exact h v' X (RowN.push h1 h2 h3 hc0 hl hown hdl (fun i k cs hk hcs => by
      obtain ⟨q1, q2⟩ := hdg i cs hcs
      have := (hfs i q1).2
      rw [List.getD_eq_getElem?_getD, hk] at this
      rw [q2]; exact this) hc hat) hc hat
end Go.Proofs.Ytofjocjljbkjgaa
namespace Go.Proofs.Ytofjocjljbkjgaa
open Go.RowKit
mutual
def makesT (id : Int) (ks : List Tr) (tx : ByteArray) : Tr → Bool → Tr × Bool
  | ⟨i, k, x, cs⟩, d => if d = false ∧ i = id then (⟨i, k, tx, ks⟩, true) else (⟨i, k, x, (makesL id ks tx cs d).1⟩, (makesL id ks tx cs d).2)
def makesL (id : Int) (ks : List Tr) (tx : ByteArray) : List Tr → Bool → List Tr × Bool
  | [], d => ([], d)
  | c :: cs, d => ((makesT id ks tx c d).1 :: (makesL id ks tx cs (makesT id ks tx c d).2).1, (makesL id ks tx cs (makesT id ks tx c d).2).2)
end
theorem makesT_eq (id : Int) (ks : List Tr) (tx : ByteArray) (t : Tr) (d : Bool) : makesT id ks tx t d = if d = false ∧ t.id = id then ({ t with text := tx, kids := ks }, true) else ({ t with kids := (makesL id ks tx t.kids d).1 }, (makesL id ks tx t.kids d).2) := by
  cases t; rw [makesT]
theorem makesL_len (id : Int) (ks : List Tr) (tx : ByteArray) : ∀ (cs : List Tr) (d : Bool), (makesL id ks tx cs d).1.length = cs.length
  | [], d => rfl
  | c :: cs, d => by simp only [makesL, List.length_cons, makesL_len id ks tx cs]
theorem makesL_take (id : Int) (ks : List Tr) (tx : ByteArray) : ∀ (cs : List Tr) (k : Nat) (d : Bool) (h : k < cs.length), makesL id ks tx (cs.take (k + 1)) d = ((makesL id ks tx (cs.take k) d).1 ++ [(makesT id ks tx cs[k] (makesL id ks tx (cs.take k) d).2).1], (makesT id ks tx cs[k] (makesL id ks tx (cs.take k) d).2).2)
  | [], k, d, h => by simp at h
  | c :: cs, 0, d, h => by simp [makesL]
  | c :: cs, k + 1, d, h => by
    simp only [List.take_succ_cons, makesL, List.getElem_cons_succ]
    rw [makesL_take id ks tx cs k _ (by simpa using h)]
    rfl
mutual
theorem makesT_done (id : Int) (ks : List Tr) (tx : ByteArray) : ∀ t : Tr, makesT id ks tx t true = (t, true)
  | ⟨i, k, x, cs⟩ => by rw [makesT, if_neg (by simp), makesL_done id ks tx cs]
theorem makesL_done (id : Int) (ks : List Tr) (tx : ByteArray) : ∀ cs : List Tr, makesL id ks tx cs true = (cs, true)
  | [] => rfl
  | c :: cs => by simp only [makesL, makesT_done id ks tx c, makesL_done id ks tx cs]
end
mutual
theorem makesT_none (id : Int) (ks : List Tr) (tx : ByteArray) : ∀ t : Tr, t.path id = none → makesT id ks tx t false = (t, false)
  | ⟨i, k, x, cs⟩, h => by
    rw [Tr.path] at h
    by_cases hi : i = id
    · rw [if_pos hi] at h; cases h
    · rw [if_neg hi] at h
      rw [makesT, if_neg (by simp [hi]), makesL_none id ks tx cs 0 h]
theorem makesL_none (id : Int) (ks : List Tr) (tx : ByteArray) : ∀ (cs : List Tr) (n : Nat), pathL id cs n = none → makesL id ks tx cs false = (cs, false)
  | [], n, h => rfl
  | c :: cs, n, h => by
    rw [pathL] at h
    cases hp : c.path id with
    | some p => rw [hp] at h; cases h
    | none =>
      rw [hp] at h
      simp only [makesL, makesT_none id ks tx c hp, makesL_none id ks tx cs (n + 1) h]
end
mutual
theorem makesT_path (id : Int) (ks : List Tr) (tx : ByteArray) : ∀ (t n : Tr) (p : List Nat), t.path id = some p → Tr.at? p t = some n → makesT id ks tx t false = (Tr.upd p t { n with text := tx, kids := ks }, true)
  | ⟨i, k, x, cs⟩, n, p, h, hn => by
    rw [Tr.path] at h
    by_cases hi : i = id
    · rw [if_pos hi] at h
      simp only [Option.some.injEq] at h
      subst h
      simp only [Tr.at?, Option.some.injEq] at hn
      subst hn
      rw [makesT, if_pos ⟨rfl, hi⟩]; rfl
    · rw [if_neg hi] at h
      obtain ⟨j, q, c, rfl, hc, hq, hm⟩ := makesL_path id ks tx cs 0 p h
      rw [Nat.zero_add] at hn ⊢
      simp only [Tr.at?, hc] at hn
      rw [makesT, if_neg (by simp [hi]), hm n hn]
      simp only [Tr.upd, hc]
theorem makesL_path (id : Int) (ks : List Tr) (tx : ByteArray) : ∀ (cs : List Tr) (m : Nat) (p : List Nat), pathL id cs m = some p → ∃ j q c, p = (m + j) :: q ∧ cs[j]? = some c ∧ c.path id = some q ∧ ∀ n, Tr.at? q c = some n → makesL id ks tx cs false = (cs.set j (Tr.upd q c { n with text := tx, kids := ks }), true)
  | [], m, p, h => by simp [pathL] at h
  | c :: cs, m, p, h => by
    rw [pathL] at h
    cases hp : c.path id with
    | some q =>
      rw [hp] at h
      simp only [Option.some.injEq] at h
      subst h
      refine ⟨0, q, c, rfl, rfl, hp, fun n hn => ?_⟩
      simp only [makesL, makesT_path id ks tx c n q hp hn, makesL_done, List.set_cons_zero]
    | none =>
      rw [hp] at h
      obtain ⟨j, q, c', e, hc, hq, hm⟩ := makesL_path id ks tx cs (m + 1) p h
      refine ⟨j + 1, q, c', by rw [e]; congr 1; omega, by simpa using hc, hq, fun n hn => ?_⟩
      simp only [makesL, makesT_none id ks tx c hp, hm n hn, List.set_cons_succ]
end
mutual
def parR (id : Int) : Tr → Option (Tr × Nat)
  | ⟨i, k, x, cs⟩ => parRL id ⟨i, k, x, cs⟩ cs 0
def parRL (id : Int) (t : Tr) : List Tr → Nat → Option (Tr × Nat)
  | [], _ => none
  | c :: cs, n => if c.id = id then some (t, n) else match parR id c with
    | some r => some r
    | none => parRL id t cs (n + 1)
end
theorem parR_eq (id : Int) (t : Tr) : parR id t = parRL id t t.kids 0 := by cases t; rw [parR]
theorem parRL_step {id : Int} {t : Tr} : ∀ {cs : List Tr} {n k : Nat}, (∀ j (hj : j < k) (hl : j < cs.length), (cs[j]).id ≠ id ∧ parR id cs[j] = none) → k ≤ cs.length → parRL id t cs n = parRL id t (cs.drop k) (n + k)
  | cs, n, 0, _, _ => by simp
  | [], n, k + 1, _, h => by simp at h
  | c :: cs, n, k + 1, h, hl => by
    have h0 := h 0 (by omega) (by simp)
    simp only [List.getElem_cons_zero] at h0
    rw [parRL, if_neg h0.1, h0.2]
    simp only [List.drop_succ_cons]
    rw [parRL_step (k := k) (fun j hj hl' => by have := h (j + 1) (by omega) (by simpa using hl'); simpa using this) (by simpa using hl), show n + 1 + k = n + (k + 1) by omega]
mutual
def repT (id : Int) (ks : List Tr) : Tr → Tr
  | ⟨i, k, x, cs⟩ => match repL id ks cs with
    | some none => ⟨i, k, x, ks⟩
    | some (some l) => ⟨i, k, x, l⟩
    | none => ⟨i, k, x, cs⟩
def repL (id : Int) (ks : List Tr) : List Tr → Option (Option (List Tr))
  | [] => none
  | c :: cs => if c.id = id then some none else if (parR id c).isSome then some (some (repT id ks c :: cs)) else match repL id ks cs with
    | some (some l) => some (some (c :: l))
    | some none => some none
    | none => none
end
theorem repT_eq (id : Int) (ks : List Tr) (t : Tr) : repT id ks t = match repL id ks t.kids with
    | some none => { t with kids := ks }
    | some (some l) => { t with kids := l }
    | none => t := by cases t; rw [repT]
theorem repL_none {id : Int} {ks : List Tr} : ∀ {cs : List Tr}, (∀ j (hl : j < cs.length), (cs[j]).id ≠ id ∧ parR id cs[j] = none) → repL id ks cs = none
  | [], _ => rfl
  | c :: cs, h => by
    have h0 := h 0 (by simp)
    simp only [List.getElem_cons_zero] at h0
    rw [repL, if_neg h0.1, h0.2, repL_none (cs := cs) (fun j hl => by have := h (j + 1) (by simpa using hl); simpa using this)]
    rfl
theorem repL_here {id : Int} {ks : List Tr} : ∀ {cs : List Tr} {k : Nat} (hk : k < cs.length), (cs[k]).id = id → (∀ j (hj : j < k), (cs[j]'(by omega)).id ≠ id ∧ parR id (cs[j]'(by omega)) = none) → repL id ks cs = some none
  | [], k, hk, _, _ => by simp at hk
  | c :: cs, 0, hk, he, _ => by simp only [List.getElem_cons_zero] at he; rw [repL, if_pos he]
  | c :: cs, k + 1, hk, he, h => by
    have h0 := h 0 (by omega)
    simp only [List.getElem_cons_zero] at h0
    rw [repL, if_neg h0.1, h0.2, repL_here (cs := cs) (k := k) (by simpa using hk) (by simpa using he) (fun j hj => by have := h (j + 1) (by omega); simpa using this)]
    rfl
theorem repL_in {id : Int} {ks : List Tr} : ∀ {cs : List Tr} {k : Nat} (hk : k < cs.length), (cs[k]).id ≠ id → (parR id cs[k]).isSome = true → (∀ j (hj : j < k), (cs[j]'(by omega)).id ≠ id ∧ parR id (cs[j]'(by omega)) = none) → repL id ks cs = some (some (cs.set k (repT id ks cs[k])))
  | [], k, hk, _, _, _ => by simp at hk
  | c :: cs, 0, hk, he, hp, _ => by simp only [List.getElem_cons_zero] at he hp; rw [repL, if_neg he, if_pos hp]; rfl
  | c :: cs, k + 1, hk, he, hp, h => by
    have h0 := h 0 (by omega)
    simp only [List.getElem_cons_zero] at h0
    rw [repL, if_neg h0.1, h0.2, repL_in (cs := cs) (k := k) (by simpa using hk) (by simpa using he) (by simpa using hp) (fun j hj => by have := h (j + 1) (by omega); simpa using this)]
    rfl
mutual
theorem out_par (id : Int) : ∀ t : Tr, match t.out id with
    | none => parR id t = none
    | some (y, r) => ∃ pn k, parR id t = some (pn, k) ∧ k < pn.kids.length ∧ repT id (pn.kids.eraseIdx k) t = r
  | ⟨i, k, x, cs⟩ => by
    have h := outL_par id ⟨i, k, x, cs⟩ cs 0
    rw [Tr.out]
    cases ho : outL id cs with
    | none =>
      rw [ho] at h
      simp only [] at h ⊢
      rw [parR]; exact h.1
    | some yr =>
      obtain ⟨y, rs⟩ := yr
      rw [ho] at h
      simp only [] at h ⊢
      rw [parR]
      rcases h with ⟨m, h1, h2, h3, h4⟩ | ⟨pn, m, h1, h2, h3⟩
      · exact ⟨⟨i, k, x, cs⟩, m, by rw [h1, Nat.zero_add], h2, by rw [repT, h4]; show (⟨i, k, x, cs.eraseIdx m⟩ : Tr) = _; rw [h3]⟩
      · exact ⟨pn, m, h1, h2, by rw [repT, h3]⟩
theorem outL_par (id : Int) : ∀ (t : Tr) (cs : List Tr) (n : Nat), match outL id cs with
    | none => parRL id t cs n = none ∧ ∀ ks, repL id ks cs = none
    | some (y, rs) => (∃ m, parRL id t cs n = some (t, n + m) ∧ m < cs.length ∧ cs.eraseIdx m = rs ∧ ∀ ks, repL id ks cs = some none) ∨ (∃ pn m, parRL id t cs n = some (pn, m) ∧ m < pn.kids.length ∧ repL id (pn.kids.eraseIdx m) cs = some (some rs))
  | t, [], n => ⟨rfl, fun _ => rfl⟩
  | t, c :: cs, n => by
    rw [outL]
    by_cases hc : c.id = id
    · rw [if_pos hc]
      simp only []
      exact .inl ⟨0, by rw [parRL, if_pos hc]; rfl, by simp, rfl, fun ks => by rw [repL, if_pos hc]⟩
    · rw [if_neg hc]
      have h1 := out_par id c
      have h2 := outL_par id t cs (n + 1)
      cases ho : c.out id with
      | some yr =>
        obtain ⟨y, r⟩ := yr
        rw [ho] at h1
        simp only [] at h1 ⊢
        obtain ⟨pn, m, e1, e2, e3⟩ := h1
        exact .inr ⟨pn, m, by rw [parRL, if_neg hc, e1], e2, by rw [repL, if_neg hc, e1, if_pos (show (some (pn, m)).isSome = true from rfl), e3]⟩
      | none =>
        rw [ho] at h1
        simp only [] at h1 ⊢
        cases hos : outL id cs with
        | none =>
          rw [hos] at h2
          simp only [] at h2 ⊢
          exact ⟨by rw [parRL, if_neg hc, h1]; exact h2.1, fun ks => by rw [repL, if_neg hc, h1, h2.2 ks]; rfl⟩
        | some yr =>
          obtain ⟨y, rs⟩ := yr
          rw [hos] at h2
          simp only [] at h2 ⊢
          rcases h2 with ⟨m, e1, e2, e3, e4⟩ | ⟨pn, m, e1, e2, e3⟩
          · exact .inl ⟨m + 1, by rw [parRL, if_neg hc, h1]; simp only []; rw [e1]; congr 2; omega, by simp; omega, by simp only [List.eraseIdx_cons_succ, e3], fun ks => by rw [repL, if_neg hc, h1, e4 ks]; rfl⟩
          · exact .inr ⟨pn, m, by rw [parRL, if_neg hc, h1]; exact e1, e2, by rw [repL, if_neg hc, h1, e3]; rfl⟩
end
end Go.Proofs.Ytofjocjljbkjgaa
namespace Go.Proofs.Ytofjocjljbkjgaa
open Go.RowKit
theorem RowV.growL {w1 w2 : World} {base : Nat} {v : Value} {ks : List Tr} {F : Nat → Prop} {l : List Nat} (h : RowV w1 base v ks F) (hc : Chg l w1 w2) (h1 : ∀ b, v.ownBlock = some b → b ∉ l) (h2 : ∀ g, F g → g ∉ l) :
    ∃ xs, w2.ownsRow base 24 4 v ks.length xs ∧ ∀ (k : Tr) (cs : List Value) (G : Nat → Prop) (w3 : World) (v' : Value), TrV w2 k cs G → (∀ x, G x → F x ∧ w1.heap.size ≤ x ∧ x < w2.heap.size) → w3.ownsRow base 24 4 v' (ks.length + 1) (xs ++ cs) → w2.grownBy w3 v.ownBlock → (v'.ownBlock = v.ownBlock ∨ v'.ownBlock = some w2.heap.size) → RowV w3 base v' (ks ++ [k]) F := by
  have hv := h.own
  obtain ⟨css, fs, ho, hl, hk, hF, hd⟩ := h
  refine ⟨css.flatten, own_kept ho hc h1, fun k cs G w3 v' hT hG ho' hg hat => ?_⟩
  refine RowV.push hl (fun i k' cs' h1' h2' => (hk i k' cs' h1' h2').kept hc (fun g hg => h2 g (hF i g (by rw [← hl]; exact (List.getElem?_eq_some_iff.1 h2').1) hg).1)) (fun i x hi hx => ⟨(hF i x hi hx).1, Nat.lt_of_lt_of_le (hF i x hi hx).2.1 hc.size, (hF i x hi hx).2.2⟩) hd hT (fun x hx => ?_) ho' hg hat
  obtain ⟨a, b, c⟩ := hG x hx
  exact ⟨a, c, fun e => by have := hv x e; omega, fun i hi hf => by have := hF i x hi hf; omega⟩
def CBx (pc : Nat) (id : Int) (ks : List Tr) (K : Option Addr) (ck : Nat) (tx : ByteArray) (d : Bool) (w : World) : Prop := w.heap[pc]? = some (.cells #[.int .i64 id, .slice K ks.length ck, .string tx, .bool d] 158 (0, 0))
def MakesPost (r : Tr × Bool) (pc : Nat) (id : Int) (ks : List Tr) (K : Option Addr) (ck : Nat) (tx : ByteArray) (w : World) (e : Ending) (w' : World) : Prop :=
  ∃ A c, e = .returned (.agg #[.int .i64 (Tr.id r.1), .int .i64 (Tr.kind r.1), .string (Tr.text r.1), .slice A (Tr.kids r.1).length c]) ∧ TrV w' r.1 [.int .i64 (Tr.id r.1), .int .i64 (Tr.kind r.1), .string (Tr.text r.1), .slice A (Tr.kids r.1).length c] (fun g => w.heap.size ≤ g ∧ g < w'.heap.size) ∧ CBx pc id ks K ck tx r.2 w' ∧ Chg [pc] w w'
structure Mk (w wr : World) (pc : Nat) (id : Int) (ks : List Tr) (K : Option Addr) (ck : Nat) (tx : ByteArray) (d : Bool) (t : Tr) (A : Option Addr) (c : Nat) (tx' : ByteArray) (v : Value) (ns : List Tr) : Prop where
  arg : wr.heap[w.heap.size]? = some (.cells #[.int .i64 (Tr.id t), .int .i64 (Tr.kind t), .string (Tr.text t), .slice A (Tr.kids t).length c] 24 (0, 0))
  res : wr.heap[w.heap.size + 1]? = some (.cells #[.int .i64 0, .int .i64 0, .string ⟨#[]⟩, .slice none 0 0] 24 (0, 0))
  out : wr.heap[w.heap.size + 2]? = some (.cells #[.int .i64 t.id, .int .i64 t.kind, .string tx', v] 24 (0, 0))
  cb : CBx pc id ks K ck tx d wr
  chg : Chg [pc] w wr
  row : RowV wr (w.heap.size + 3) v ns (fun g => w.heap.size + 3 ≤ g)
set_option maxHeartbeats 4000000 in
set_option maxRecDepth 100000 in
theorem makes_any (pc : Nat) (id : Int) (ks : List Tr) (K : Option Addr) (ck : Nat) (tx : ByteArray) (hkn : nodesL ks ≤ 100000) (htx : tx.size ≤ 9223372036854775807) (hkc : ks.length ≤ ck) (hck : ck ≤ 9223372036854775807) : ∀ (t : Tr) (A : Option Addr) (c : Nat) (d : Bool) (w : World), TrC (fun b => b ≠ pc) w t [.int .i64 (Tr.id t), .int .i64 (Tr.kind t), .string (Tr.text t), .slice A (Tr.kids t).length c] → CBx pc id ks K ck tx d w → KidsC (fun b => b ≠ pc) w K ks → t.nodes ≤ 100000 →
    Calls Try.prog 114 #[.pointer (some ⟨pc, 0, none⟩), .agg #[.int .i64 (Tr.id t), .int .i64 (Tr.kind t), .string (Tr.text t), .slice A (Tr.kids t).length c]] w (MakesPost (makesT id ks tx t d) pc id ks K ck tx w) := by
  intro t
  induction t using Tr.ind with
  | h t ih =>
  intro A c d w hT hC hK hN
  obtain ⟨ip, hi, hz0, hz1, hz2⟩ := info_parts infoNode
  obtain ⟨A', c', hcs, hlc, hcm, htxt, hKt⟩ := hT.opens
  simp only [List.cons.injEq, Value.slice.injEq, true_and, and_true] at hcs
  obtain ⟨rfl, rfl⟩ := hcs
  have hlen : t.kids.length ≤ 100000 := by have := nodesL_len t.kids; rw [Tr.nodes_eq] at hN; omega
  have hklen : ks.length ≤ 100000 := by have := nodesL_len ks; omega
  obtain ⟨W, hW⟩ : ∃ W, W = ((w.alloc (.cells #[.int .i64 (Tr.id t), .int .i64 (Tr.kind t), .string (Tr.text t), .slice A (Tr.kids t).length c] 24)).alloc (.cells #[.int .i64 0, .int .i64 0, .string ⟨#[]⟩, .slice none 0 0] 24)).alloc (.cells #[.int .i64 t.id, .int .i64 t.kind, .string t.text, .slice none 0 0] 24) := ⟨_, rfl⟩
  have hcW : Chg [] w W := by rw [hW]; exact (by with_reducible repeat (first | exact Chg.refl _ _ | apply Chg.alloc | apply Chg.drew | apply Chg.drewN | (refine Chg.setCell ?_ _ _ (by simp))))
  have hmk : Mk w W pc id ks K ck tx d t A c t.text (.slice none 0 0) [] := ⟨by rw [hW]; exact heap_old (heap_old (heap_new _ _ rfl) _) _, by rw [hW]; exact heap_old (heap_new _ _ (by simp)) _, by rw [hW]; exact heap_new _ _ (by simp), hcW.at hC (by simp), hcW.mono (by simp), RowV.nil _ _ _⟩
  have hpl := lt_of_block hC
  have HI := Lib.hid (And.intro hi (And.intro hz0 (And.intro hz1 hz2)))
  have HH := Lib.hid (And.intro ih (And.intro hN (And.intro hKt hK)))
  obtain ⟨a0, a1, a2, a3⟩ := blk4 hmk.arg
  obtain ⟨k0, k1, k2, k3⟩ := blk4 hmk.cb
  have f3 := blkF hmk.cb 3
  have HW := Lib.hid (And.intro hW hmk)
  clear hi hz0 hz1 hz2 hT hKt ih hN hC hK hmk hcW
  by_cases hcase : d = false ∧ t.id = id
  · obtain ⟨rfl, hid⟩ := hcase
    have hb : (t.id == id) = true := by simpa using hid
    have hres : makesT id ks tx t false = ({ t with text := tx, kids := ks }, true) := by rw [makesT_eq, if_pos ⟨rfl, hid⟩]
    rw [hres]
    have HR := Lib.hid hid
    clear hid hres
    go_enter Try.func114, Try.ntmps114
    go_wp2_with (skip; fail)
    rw [← HW.out.1]
    refine wp_region_M (fun _ => True) (fun k => [].contains k) (fun k => [].contains k) (by kernel_rfl) ?_
    obtain ⟨X, hX⟩ : ∃ X, X = W.drew := ⟨_, rfl⟩
    rw [← hX]
    have hcX : Chg [] W X := by rw [hX]; exact (Chg.refl _ _).drew
    clear a0 a1 a2 a3 k0 k1 k2 k3 f3 hX
    obtain ⟨a0, a1, a2, a3⟩ := blk4 (hcX.at HW.out.2.arg (by simp))
    obtain ⟨k0, k1, k2, k3⟩ := blk4 (hcX.at HW.out.2.cb (by simp))
    ((try dsimp only); (try simp only [Act.put, List.setIfInBounds_toArray, List.set_cons_zero, List.set_cons_succ]))
    refine M_pure (i := 0) (v := ?_) rfl (by kernel_rfl) (by kernel_rfl) (by kernel_rfl) (fun _ _ _ h => h) (by rfl) ?hy ?_; (case hy => (intro w; go_simp; with_reducible rfl)); ((try dsimp only); (try simp only [Act.put, List.setIfInBounds_toArray, List.set_cons_zero, List.set_cons_succ]))
    refine M_pure (i := 1) (v := ?_) rfl (by kernel_rfl) (by kernel_rfl) (by kernel_rfl) (fun _ _ _ h => h) (by rfl) ?hy ?_; (case hy => (intro w; go_simp; with_reducible rfl)); ((try dsimp only); (try simp only [Act.put, List.setIfInBounds_toArray, List.set_cons_zero, List.set_cons_succ]))
    refine M_pure (i := 2) (v := ?_) rfl (by kernel_rfl) (by kernel_rfl) (by kernel_rfl) (fun _ _ _ h => h) (by rfl) ?hy ?_; (case hy => (intro w; go_simp; with_reducible rfl)); ((try dsimp only); (try simp only [Act.put, List.setIfInBounds_toArray, List.set_cons_zero, List.set_cons_succ]))
    refine M_take (i := 3) (v := ?_) rfl (by kernel_rfl) (by kernel_rfl) (by kernel_rfl) (by kernel_rfl) (fun _ _ _ h => h) (by rfl) ?hy ?_; (case hy => (go_simp; with_reducible rfl)); ((try dsimp only); (try simp only [Act.put, List.setIfInBounds_toArray, List.set_cons_zero, List.set_cons_succ]))
    refine M_pure (i := 4) (v := ?_) rfl (by kernel_rfl) (by kernel_rfl) (by kernel_rfl) (fun _ _ _ h => h) (by rfl) ?hy ?_; (case hy => (intro w; go_simp; with_reducible rfl)); ((try dsimp only); (try simp only [Act.put, List.setIfInBounds_toArray, List.set_cons_zero, List.set_cons_succ]))
    refine M_pure (i := 5) (v := ?_) rfl (by kernel_rfl) (by kernel_rfl) (by kernel_rfl) (fun _ _ _ h => h) (by rfl) ?hy ?_; (case hy => (intro w; go_simp; with_reducible rfl)); ((try dsimp only); (try simp only [Act.put, List.setIfInBounds_toArray, List.set_cons_zero, List.set_cons_succ]))
    refine M_pure (i := 6) (v := ?_) rfl (by kernel_rfl) (by kernel_rfl) (by kernel_rfl) (fun _ _ _ h => h) (by rfl) ?hy ?_; (case hy => (intro w; go_simp; with_reducible rfl)); ((try dsimp only); (try simp only [Act.put, List.setIfInBounds_toArray, List.set_cons_zero, List.set_cons_succ]))
    refine M_take (i := 7) (v := ?_) rfl (by kernel_rfl) (by kernel_rfl) (by kernel_rfl) (by kernel_rfl) (fun _ _ _ h => h) (by rfl) ?hy ?_; (case hy => (go_simp; with_reducible rfl)); ((try dsimp only); (try simp only [Act.put, List.setIfInBounds_toArray, List.set_cons_zero, List.set_cons_succ]))
    refine M_pure (i := 8) (v := ?_) rfl (by kernel_rfl) (by kernel_rfl) (by kernel_rfl) (fun _ _ _ h => h) (by rfl) ?hy ?_; (case hy => (intro w; go_simp; with_reducible rfl)); ((try dsimp only); (try simp only [Act.put, List.setIfInBounds_toArray, List.set_cons_zero, List.set_cons_succ]))
    refine M_pure (i := 9) (v := ?_) rfl (by kernel_rfl) (by kernel_rfl) (by kernel_rfl) (fun _ _ _ h => h) (by rfl) ?hy ?_; (case hy => (intro w; go_simp; with_reducible rfl)); ((try dsimp only); (try simp only [Act.put, List.setIfInBounds_toArray, List.set_cons_zero, List.set_cons_succ]))
    refine M_pure (i := 10) (v := ?_) rfl (by kernel_rfl) (by kernel_rfl) (by kernel_rfl) (fun _ _ _ h => h) (by rfl) ?hy ?_; (case hy => (intro w; go_simp; with_reducible rfl)); ((try dsimp only); (try simp only [Act.put, List.setIfInBounds_toArray, List.set_cons_zero, List.set_cons_succ]))
    refine M_take (i := 11) (v := ?_) rfl (by kernel_rfl) (by kernel_rfl) (by kernel_rfl) (by kernel_rfl) (fun _ _ _ h => h) (by rfl) ?hy ?_; (case hy => (go_simp; with_reducible rfl)); ((try dsimp only); (try simp only [Act.put, List.setIfInBounds_toArray, List.set_cons_zero, List.set_cons_succ]))
    refine M_pure (i := 12) (v := ?_) rfl (by kernel_rfl) (by kernel_rfl) (by kernel_rfl) (fun _ _ _ h => h) (by rfl) ?hy ?_; (case hy => (intro w; go_simp; with_reducible rfl)); ((try dsimp only); (try simp only [Act.put, List.setIfInBounds_toArray, List.set_cons_zero, List.set_cons_succ]))
    refine M_pure (i := 13) (v := ?_) rfl (by kernel_rfl) (by kernel_rfl) (by kernel_rfl) (fun _ _ _ h => h) (by rfl) ?hy ?_; (case hy => (intro w; go_simp; with_reducible rfl)); ((try dsimp only); (try simp only [Act.put, List.setIfInBounds_toArray, List.set_cons_zero, List.set_cons_succ]))
    refine M_done (by kernel_rfl) ?_ _
    clear a0 a1 a2 a3 k0 k1 k2 k3
    have hcb := hcX.at HW.out.2.cb (by simp)
    have hou := hcX.at HW.out.2.out (by simp)
    obtain ⟨k0, k1, k2, k3⟩ := blk4 hcb
    have f3 := blkF hcb 3
    obtain ⟨o0, o1, o2, o3⟩ := blk4 hou
    have f2 := blkF hou 2
    have hpw : pc ≠ w.heap.size + 2 := by omega
    obtain ⟨Z, hZ⟩ : ∃ Z, Z = (X.setCell ⟨pc, 3, none⟩ (.bool true)).setCell ⟨w.heap.size + 2, 2, none⟩ (.string tx) := ⟨_, rfl⟩
    have hcZ1 : Chg [pc] X (X.setCell ⟨pc, 3, none⟩ (.bool true)) := (Chg.refl _ _).setCell _ _ (by simp)
    have hcZ2 : Chg [w.heap.size + 2] (X.setCell ⟨pc, 3, none⟩ (.bool true)) Z := by rw [hZ]; exact (Chg.refl _ _).setCell _ _ (by simp)
    have hmk : Mk w Z pc id ks K ck tx true t A c tx (.slice none 0 0) (ks.take 0) := by
      refine ⟨hcZ2.at (hcZ1.at (hcX.at HW.out.2.arg (by simp)) (by simp; omega)) (by simp), hcZ2.at (hcZ1.at (hcX.at HW.out.2.res (by simp)) (by simp; omega)) (by simp), ?_, hcZ2.at (heap_setCell_same _ _ 3 _ _ _ hcb) (by simpa using hpw), ((HW.out.2.chg.trans (hcX.mono (by simp))).trans hcZ1).andThen hcZ2 (by simp), by rw [List.take_zero]; exact RowV.nil _ _ _⟩
      rw [hZ]; exact heap_setCell_same _ _ 2 _ _ _ (hcZ1.at hou (by simp; omega))
    have HZ := Lib.hid (And.intro hZ hmk)
    clear hcX hcb hou hZ hcZ1 hcZ2 hmk
    go_wp2_with (skip; fail)
    rw [← HZ.out.1]
    clear k0 k1 k2 k3 f3 o0 o1 o2 o3 f2
    go_loopw [6] (fun i wr => ∃ (k : Nat) (v : Value), k ≤ ks.length ∧ i = .int .i64 k ∧ Hid (Mk w wr pc id ks K ck tx true t A c tx v (ks.take k))) (fun i _ => ks.length - (intOf i).toNat)
    case atStart => exact ⟨0, _, Nat.zero_le _, rfl, Lib.hid HZ.out.2⟩
    case round =>
      obtain ⟨k, v, hk, rfl, H⟩ := hrel
      obtain ⟨U, hU⟩ : ∃ U, U = wr := ⟨_, rfl⟩
      subst hU
      obtain ⟨k0, k1, k2, k3⟩ := blk4 H.out.cb
      obtain ⟨Av, cv, rfl⟩ : ∃ Av cv, v = .slice Av k cv := by
        obtain ⟨css, fs, ho, _⟩ := H.out.row
        obtain ⟨Av, cv, e⟩ := own_slice ho
        rw [show (ks.take k).length = k from by simp; omega] at e
        exact ⟨Av, cv, e⟩
      by_cases hlt : k < ks.length
      · obtain ⟨gk, ok, cs, rfl, hgk, hr, hat⟩ := HH.out.2.2.2 k _ (List.getElem?_eq_getElem hlt)
        obtain ⟨Ak, ckk, rfl, _⟩ := hat.opens
        have hr' := H.out.chg.range hr (by simpa using hgk)
        have hkn' : (ks[k]).nodes ≤ 100000 := by have := nodesL_mem (List.getElem_mem hlt); omega
        have hcall := copy_any (ks[k]) Ak ckk U ((hat.kept H.out.chg (by simp)).weak (fun _ _ _ => trivial)) hkn'
        have HC := Lib.hid (And.intro hcall hr')
        clear hcall hat hkn' hr hr' hgk
        go_wp2_with (first
          | (refine wpList_load_mid rfl 24 (.tmp 53) rfl gk (ok + k * 4) rfl _ _ HC.out.2 Try.underlying24 rfl szNode ?_)
          | (go_at_call 65; refine HC.out.1.mono ?_; rintro e X2 ⟨A1, c1, rfl, hV, hX⟩; have HX := Lib.hid (And.intro hV hX); have hXa : Chg [] X2 (X2.alloc (.cells #[.int .i64 (Tr.id (ks[k])), .int .i64 (Tr.kind (ks[k])), .string (Tr.text (ks[k])), .slice A1 (Tr.kids (ks[k])).length c1] 24)) := (by with_reducible repeat (first | exact Chg.refl _ _ | apply Chg.alloc | apply Chg.drew | apply Chg.drewN | (refine Chg.setCell ?_ _ _ (by simp)))); have hou := (hX.trans hXa).at H.out.out (by simp); obtain ⟨o0, o1, o2, o3⟩ := blk4 hou; have of3 := blkF hou 3; clear hV hX hXa hou)
          | (have hwr := lt_of_block H.out.out
             have hXs := HX.out.2.size
             have hXa : Chg [] X2 ((X2.alloc (.cells #[.int .i64 (Tr.id (ks[k])), .int .i64 (Tr.kind (ks[k])), .string (Tr.text (ks[k])), .slice A1 (Tr.kids (ks[k])).length c1] 24)).alloc (.cells #[.int .i64 (Tr.id (ks[k])), .int .i64 (Tr.kind (ks[k])), .string (Tr.text (ks[k])), .slice A1 (Tr.kids (ks[k])).length c1] 24)) := (by with_reducible repeat (first | exact Chg.refl _ _ | apply Chg.alloc | apply Chg.drew | apply Chg.drewN | (refine Chg.setCell ?_ _ _ (by simp))))
             obtain ⟨xs, hown, hgrow⟩ := H.out.row.grow (HX.out.2.trans hXa)
             rw [show (ks.take k).length = k from by simp; omega] at hown hgrow
             have HG := Lib.hid (And.intro hgrow hXa)
             clear hgrow hXa
             refine wpList_append_own_at _ rfl (.tmp 57) (.tmp 59) 22 rfl _ 24 ip _ 4 56 Try.underlying22 HI.out.1 HI.out.2.1 HI.out.2.2.1 HI.out.2.2.2 rfl (by omega) (.slice Av k cv) _ _ rfl hown ⟨X2.heap.size + 1, 0, none⟩ 1 1 _ rfl rfl (fun j u hu => by rw [Addr.add_mid]; exact range_all (heap_new (X2.alloc _) _ (by simp)) j u hu) (HX.out.1.one) (by unfold maxLen; omega) (by omega) (by simp; omega) ?_
             intro v' X3 hown' hgr _ hat
             have hrow3 := HG.out.1 _ _ _ X3 v' (HX.out.1.kept HG.out.2 (by simp)) (fun x hx => ⟨by omega, hx.1, Nat.lt_of_lt_of_le hx.2 HG.out.2.size⟩) hown' hgr hat
             rw [← take_snoc' _ _ hlt] at hrow3
             have hC3 : Chg (Value.slice Av k cv).ownBlock.toList U X3 := ((HX.out.2.trans HG.out.2).mono (by simp)).grown hgr (by intro k hk; rw [hk]; simp)
             have hnb : ∀ b, b ∈ (Value.slice Av k cv).ownBlock.toList → w.heap.size + 3 ≤ b := fun b hb => by have := H.out.row.own b (by simpa using hb); omega
             have hout3 := hC3.at H.out.out (fun hm => by have := hnb _ hm; omega)
             have s3 := (blk4 hout3).2.2.2
             have f3 := blkF hout3 3
             obtain ⟨A', c', rfl⟩ := own_slice hown'
             have H3 := Lib.hid (And.intro hrow3 (And.intro hC3 (And.intro hnb hout3)))
             clear hrow3 hgr hat hown' hC3 hnb hout3 HG)
          | (skip; fail))
        go_roundw
        case rel =>
          have hnb := H3.out.2.2.1
          have hCs : Chg [w.heap.size + 2] X3 (X3.setCell ⟨w.heap.size + 2, 3, none⟩ (.slice A' (k + 1) c')) := (Chg.refl _ _).setCell _ _ (by simp)
          have hnb3 : ∀ b, (Value.slice A' (k + 1) c').ownBlock = some b → w.heap.size + 3 ≤ b := fun b hb => by have := H3.out.1.own b hb; omega
          refine ⟨k + 1, .slice A' (k + 1) c', by omega, by go_num, Lib.hid ⟨?_, ?_, ?_, ?_, ?_, ?_⟩⟩
          · exact hCs.at (H3.out.2.1.at H.out.arg (fun hm => by have := hnb _ hm; omega)) (by simp)
          · exact hCs.at (H3.out.2.1.at H.out.res (fun hm => by have := hnb _ hm; omega)) (by simp)
          · exact heap_setCell_same _ _ 3 _ _ _ H3.out.2.2.2
          · exact hCs.at (H3.out.2.1.at H.out.cb (fun hm => by have := hnb _ hm; omega)) (by simp; omega)
          · exact (H.out.chg.andThen H3.out.2.1 (fun i hi => .inr (by have := hnb i hi; omega))).andThen hCs (fun i hi => .inr (by simp at hi; omega))
          · exact H3.out.1.kept hCs (fun b hb => by have := hnb3 b hb; simp; omega) (fun g hg => by simp; omega)
        case measure => simp [intOf]; omega
      · obtain rfl : k = ks.length := by omega
        have hrow := H.out.row
        rw [List.take_of_length_le (Nat.le_refl _)] at hrow
        obtain ⟨A', c', he, hV⟩ := RowV.node ({ t with text := tx, kids := ks } : Tr) hrow htx
        injection he with hA1 _ hc1
        subst hA1 hc1
        have HV := Lib.hid hV
        clear hrow hV
        obtain ⟨q0, q1, q2, q3⟩ := blk4 H.out.out
        obtain ⟨r0, r1, r2, r3⟩ := blk4 H.out.res
        have f0 := blkF H.out.res 0
        have f1 := blkF H.out.res 1
        have f2 := blkF H.out.res 2
        have f3 := blkF H.out.res 3
        go_wp2_with (skip; fail)
        have hC0 := chg4 U (w.heap.size + 1) (.int .i64 t.id) (.int .i64 t.kind) (.string tx) (.slice Av ks.length cv)
        have hsz := H.out.chg.size
        have hlt1 := lt_of_block H.out.out
        have hF : ∀ g, w.heap.size + 3 ≤ g ∨ (Value.slice Av ks.length cv).ownBlock = some g → w.heap.size + 3 ≤ g := fun g hg => by
          rcases hg with hg | hg
          · omega
          · have := H.out.row.own g hg; omega
        refine bodyPost_ret (v := .agg #[.int .i64 t.id, .int .i64 t.kind, .string tx, .slice Av ks.length cv]) (results_cell_row rfl _ _ (w.heap.size + 1) _ _ _ _ rfl (set4 H.out.res) Try.underlying24 rfl szNode) rfl ⟨Av, cv, rfl, ?_, hC0.at H.out.cb (by simp; omega), H.out.chg.andThen hC0 (fun i hi => by simp at hi; omega)⟩
        exact ((HV.out.bound.weak (F' := fun g => w.heap.size + 3 ≤ g ∧ g < U.heap.size) (fun g hg => ⟨hF g hg.1, hg.2⟩)).kept hC0 (fun g hg => by simp; omega)).weak (fun g hg => ⟨by omega, Nat.lt_of_lt_of_le hg.2 hC0.size⟩)
  · have hres : makesT id ks tx t d = ({ t with kids := (makesL id ks tx t.kids d).1 }, (makesL id ks tx t.kids d).2) := by rw [makesT_eq, if_neg hcase]
    rw [hres]
    have HR := Lib.hid hcase
    have HT := Lib.hid htxt
    have hmk0 : Mk w W pc id ks K ck tx (makesL id ks tx (t.kids.take 0) d).2 t A c t.text (.slice none 0 0) (makesL id ks tx (t.kids.take 0) d).1 := by rw [List.take_zero]; exact HW.out.2
    have HM := Lib.hid hmk0
    clear hres hmk0
    go_enter Try.func114, Try.ntmps114
    go_wp2_with (skip; fail)
    rw [← HW.out.1]
    refine wp_region_M (fun _ => True) (fun k => [].contains k) (fun k => [].contains k) (by kernel_rfl) ?_
    obtain ⟨X, hX⟩ : ∃ X, X = W.drew := ⟨_, rfl⟩
    rw [← hX]
    have hcX : Chg [] W X := by rw [hX]; exact (Chg.refl _ _).drew
    clear a0 a1 a2 a3 k0 k1 k2 k3 f3 hX
    obtain ⟨a0, a1, a2, a3⟩ := blk4 (hcX.at HM.out.arg (by simp))
    obtain ⟨k0, k1, k2, k3⟩ := blk4 (hcX.at HM.out.cb (by simp))
    have hmk1 : Mk w X pc id ks K ck tx (makesL id ks tx (t.kids.take 0) d).2 t A c t.text (.slice none 0 0) (makesL id ks tx (t.kids.take 0) d).1 := ⟨hcX.at HM.out.arg (by simp), hcX.at HM.out.res (by simp), hcX.at HM.out.out (by simp), hcX.at HM.out.cb (by simp), HM.out.chg.trans (hcX.mono (by simp)), by rw [List.take_zero]; exact RowV.nil _ _ _⟩
    have HZ := Lib.hid hmk1
    clear hcX hmk1
    simp only [List.take_zero, makesL] at k3
    have hd2 : d = true ∨ (d = false ∧ (t.id == id) = false) := by
      cases d with
      | true => exact .inl rfl
      | false => exact .inr ⟨rfl, by simpa using fun h => hcase ⟨rfl, h⟩⟩
    clear hcase
    rcases hd2 with hd | ⟨hd, hb⟩
    case' inl =>
      rw [hd] at k3
      clear hd
      ((try dsimp only); (try simp only [Act.put, List.setIfInBounds_toArray, List.set_cons_zero, List.set_cons_succ]))
      refine M_pure (i := 0) (v := ?_) rfl (by kernel_rfl) (by kernel_rfl) (by kernel_rfl) (fun _ _ _ h => h) (by rfl) ?hy ?_; (case hy => (intro w; go_simp; with_reducible rfl)); ((try dsimp only); (try simp only [Act.put, List.setIfInBounds_toArray, List.set_cons_zero, List.set_cons_succ]))
      refine M_pure (i := 1) (v := ?_) rfl (by kernel_rfl) (by kernel_rfl) (by kernel_rfl) (fun _ _ _ h => h) (by rfl) ?hy ?_; (case hy => (intro w; go_simp; with_reducible rfl)); ((try dsimp only); (try simp only [Act.put, List.setIfInBounds_toArray, List.set_cons_zero, List.set_cons_succ]))
      refine M_pure (i := 2) (v := ?_) rfl (by kernel_rfl) (by kernel_rfl) (by kernel_rfl) (fun _ _ _ h => h) (by rfl) ?hy ?_; (case hy => (intro w; go_simp; with_reducible rfl)); ((try dsimp only); (try simp only [Act.put, List.setIfInBounds_toArray, List.set_cons_zero, List.set_cons_succ]))
      refine M_take (i := 3) (v := ?_) rfl (by kernel_rfl) (by kernel_rfl) (by kernel_rfl) (by kernel_rfl) (fun _ _ _ h => h) (by rfl) ?hy ?_; (case hy => (go_simp; with_reducible rfl)); ((try dsimp only); (try simp only [Act.put, List.setIfInBounds_toArray, List.set_cons_zero, List.set_cons_succ]))
      refine M_pure (i := 4) (v := ?_) rfl (by kernel_rfl) (by kernel_rfl) (by kernel_rfl) (fun _ _ _ h => h) (by rfl) ?hy ?_; (case hy => (intro w; go_simp; with_reducible rfl)); ((try dsimp only); (try simp only [Act.put, List.setIfInBounds_toArray, List.set_cons_zero, List.set_cons_succ]))
      refine M_pure (i := 5) (v := ?_) rfl (by kernel_rfl) (by kernel_rfl) (by kernel_rfl) (fun _ _ _ h => h) (by rfl) ?hy ?_; (case hy => (intro w; go_simp; with_reducible rfl)); ((try dsimp only); (try simp only [Act.put, List.setIfInBounds_toArray, List.set_cons_zero, List.set_cons_succ]))
      refine M_skip (i := 6) rfl (by kernel_rfl) (by kernel_rfl) (by kernel_rfl) (fun _ _ _ h => h) (by rfl) ?_; ((try dsimp only); (try simp only [Act.put, List.setIfInBounds_toArray, List.set_cons_zero, List.set_cons_succ]))
      refine M_skip (i := 7) rfl (by kernel_rfl) (by kernel_rfl) (by kernel_rfl) (fun _ _ _ h => h) (by rfl) ?_; ((try dsimp only); (try simp only [Act.put, List.setIfInBounds_toArray, List.set_cons_zero, List.set_cons_succ]))
      refine M_skip (i := 8) rfl (by kernel_rfl) (by kernel_rfl) (by kernel_rfl) (fun _ _ _ h => h) (by rfl) ?_; ((try dsimp only); (try simp only [Act.put, List.setIfInBounds_toArray, List.set_cons_zero, List.set_cons_succ]))
      refine M_skip (i := 9) rfl (by kernel_rfl) (by kernel_rfl) (by kernel_rfl) (fun _ _ _ h => h) (by rfl) ?_; ((try dsimp only); (try simp only [Act.put, List.setIfInBounds_toArray, List.set_cons_zero, List.set_cons_succ]))
      refine M_skip (i := 10) rfl (by kernel_rfl) (by kernel_rfl) (by kernel_rfl) (fun _ _ _ h => h) (by rfl) ?_; ((try dsimp only); (try simp only [Act.put, List.setIfInBounds_toArray, List.set_cons_zero, List.set_cons_succ]))
      refine M_skip (i := 11) rfl (by kernel_rfl) (by kernel_rfl) (by kernel_rfl) (fun _ _ _ h => h) (by rfl) ?_; ((try dsimp only); (try simp only [Act.put, List.setIfInBounds_toArray, List.set_cons_zero, List.set_cons_succ]))
      refine M_skip (i := 12) rfl (by kernel_rfl) (by kernel_rfl) (by kernel_rfl) (fun _ _ _ h => h) (by rfl) ?_; ((try dsimp only); (try simp only [Act.put, List.setIfInBounds_toArray, List.set_cons_zero, List.set_cons_succ]))
      refine M_pure (i := 13) (v := ?_) rfl (by kernel_rfl) (by kernel_rfl) (by kernel_rfl) (fun _ _ _ h => h) (by rfl) ?hy ?_; (case hy => (intro w; go_simp; with_reducible rfl)); ((try dsimp only); (try simp only [Act.put, List.setIfInBounds_toArray, List.set_cons_zero, List.set_cons_succ]))
      refine M_done (by kernel_rfl) ?_ _
    case' inr =>
      rw [hd] at k3
      clear hd
      ((try dsimp only); (try simp only [Act.put, List.setIfInBounds_toArray, List.set_cons_zero, List.set_cons_succ]))
      refine M_pure (i := 0) (v := ?_) rfl (by kernel_rfl) (by kernel_rfl) (by kernel_rfl) (fun _ _ _ h => h) (by rfl) ?hy ?_; (case hy => (intro w; go_simp; with_reducible rfl)); ((try dsimp only); (try simp only [Act.put, List.setIfInBounds_toArray, List.set_cons_zero, List.set_cons_succ]))
      refine M_pure (i := 1) (v := ?_) rfl (by kernel_rfl) (by kernel_rfl) (by kernel_rfl) (fun _ _ _ h => h) (by rfl) ?hy ?_; (case hy => (intro w; go_simp; with_reducible rfl)); ((try dsimp only); (try simp only [Act.put, List.setIfInBounds_toArray, List.set_cons_zero, List.set_cons_succ]))
      refine M_pure (i := 2) (v := ?_) rfl (by kernel_rfl) (by kernel_rfl) (by kernel_rfl) (fun _ _ _ h => h) (by rfl) ?hy ?_; (case hy => (intro w; go_simp; with_reducible rfl)); ((try dsimp only); (try simp only [Act.put, List.setIfInBounds_toArray, List.set_cons_zero, List.set_cons_succ]))
      refine M_take (i := 3) (v := ?_) rfl (by kernel_rfl) (by kernel_rfl) (by kernel_rfl) (by kernel_rfl) (fun _ _ _ h => h) (by rfl) ?hy ?_; (case hy => (go_simp; with_reducible rfl)); ((try dsimp only); (try simp only [Act.put, List.setIfInBounds_toArray, List.set_cons_zero, List.set_cons_succ]))
      refine M_pure (i := 4) (v := ?_) rfl (by kernel_rfl) (by kernel_rfl) (by kernel_rfl) (fun _ _ _ h => h) (by rfl) ?hy ?_; (case hy => (intro w; go_simp; with_reducible rfl)); ((try dsimp only); (try simp only [Act.put, List.setIfInBounds_toArray, List.set_cons_zero, List.set_cons_succ]))
      refine M_pure (i := 5) (v := ?_) rfl (by kernel_rfl) (by kernel_rfl) (by kernel_rfl) (fun _ _ _ h => h) (by rfl) ?hy ?_; (case hy => (intro w; go_simp; with_reducible rfl)); ((try dsimp only); (try simp only [Act.put, List.setIfInBounds_toArray, List.set_cons_zero, List.set_cons_succ]))
      refine M_pure (i := 6) (v := ?_) rfl (by kernel_rfl) (by kernel_rfl) (by kernel_rfl) (fun _ _ _ h => h) (by rfl) ?hy ?_; (case hy => (intro w; go_simp; with_reducible rfl)); ((try dsimp only); (try simp only [Act.put, List.setIfInBounds_toArray, List.set_cons_zero, List.set_cons_succ]))
      refine M_take (i := 7) (v := ?_) rfl (by kernel_rfl) (by kernel_rfl) (by kernel_rfl) (by kernel_rfl) (fun _ _ _ h => h) (by rfl) ?hy ?_; (case hy => (go_simp; with_reducible rfl)); ((try dsimp only); (try simp only [Act.put, List.setIfInBounds_toArray, List.set_cons_zero, List.set_cons_succ]))
      refine M_pure (i := 8) (v := ?_) rfl (by kernel_rfl) (by kernel_rfl) (by kernel_rfl) (fun _ _ _ h => h) (by rfl) ?hy ?_; (case hy => (intro w; go_simp; with_reducible rfl)); ((try dsimp only); (try simp only [Act.put, List.setIfInBounds_toArray, List.set_cons_zero, List.set_cons_succ]))
      refine M_pure (i := 9) (v := ?_) rfl (by kernel_rfl) (by kernel_rfl) (by kernel_rfl) (fun _ _ _ h => h) (by rfl) ?hy ?_; (case hy => (intro w; go_simp; with_reducible rfl)); ((try dsimp only); (try simp only [Act.put, List.setIfInBounds_toArray, List.set_cons_zero, List.set_cons_succ]))
      refine M_pure (i := 10) (v := ?_) rfl (by kernel_rfl) (by kernel_rfl) (by kernel_rfl) (fun _ _ _ h => h) (by rfl) ?hy ?_; (case hy => (intro w; go_simp; with_reducible rfl)); ((try dsimp only); (try simp only [Act.put, List.setIfInBounds_toArray, List.set_cons_zero, List.set_cons_succ]))
      refine M_take (i := 11) (v := ?_) rfl (by kernel_rfl) (by kernel_rfl) (by kernel_rfl) (by kernel_rfl) (fun _ _ _ h => h) (by rfl) ?hy ?_; (case hy => (go_simp; with_reducible rfl)); ((try dsimp only); (try simp only [Act.put, List.setIfInBounds_toArray, List.set_cons_zero, List.set_cons_succ]))
      refine M_pure (i := 12) (v := ?_) rfl (by kernel_rfl) (by kernel_rfl) (by kernel_rfl) (fun _ _ _ h => h) (by rfl) ?hy ?_; (case hy => (intro w; go_simp; with_reducible rfl)); ((try dsimp only); (try simp only [Act.put, List.setIfInBounds_toArray, List.set_cons_zero, List.set_cons_succ]))
      refine M_pure (i := 13) (v := ?_) rfl (by kernel_rfl) (by kernel_rfl) (by kernel_rfl) (fun _ _ _ h => h) (by rfl) ?hy ?_; (case hy => (intro w; go_simp; with_reducible rfl)); ((try dsimp only); (try simp only [Act.put, List.setIfInBounds_toArray, List.set_cons_zero, List.set_cons_succ]))
      refine M_done (by kernel_rfl) ?_ _
    all_goals
      clear a0 a1 a2 a3 k0 k1 k2 k3
      go_wp2_with (skip; fail)
      go_loopw [8] (fun i wr => ∃ (k : Nat) (v : Value), k ≤ t.kids.length ∧ i = .int .i64 k ∧ Hid (Mk w wr pc id ks K ck tx (makesL id ks tx (t.kids.take k) d).2 t A c t.text v (makesL id ks tx (t.kids.take k) d).1)) (fun i _ => t.kids.length - (intOf i).toNat)
      case atStart => exact ⟨0, _, Nat.zero_le _, rfl, Lib.hid HZ.out⟩
      case round =>
        obtain ⟨k, v, hk, rfl, H⟩ := hrel
        obtain ⟨U, hU⟩ : ∃ U, U = wr := ⟨_, rfl⟩
        subst hU
        obtain ⟨p0, p1, p2, p3⟩ := blk4 H.out.arg
        obtain ⟨Av, cv, rfl⟩ : ∃ Av cv, v = .slice Av k cv := by
          obtain ⟨css, fs, ho, _⟩ := H.out.row
          obtain ⟨Av, cv, e⟩ := own_slice ho
          rw [show (makesL id ks tx (t.kids.take k) d).1.length = k from by rw [makesL_len]; simp; omega] at e
          exact ⟨Av, cv, e⟩
        by_cases hlt : k < t.kids.length
        · obtain ⟨gk, ok, cs, rfl, hgk, hr, hat⟩ := HH.out.2.2.1 k _ (List.getElem?_eq_getElem hlt)
          obtain ⟨Ak, ckk, rfl, _⟩ := hat.opens
          have hr' := H.out.chg.range hr (by simpa using hgk)
          have hkn' : (t.kids[k]).nodes ≤ 100000 := by have := nodesL_mem (List.getElem_mem hlt); have h2 := HH.out.2.1; rw [Tr.nodes_eq] at h2; omega
          have hcall := HH.out.1 (t.kids[k]) (List.getElem_mem hlt) Ak ckk (makesL id ks tx (t.kids.take k) d).2 U (hat.kept H.out.chg (by simp)) H.out.cb (HH.out.2.2.2.kept H.out.chg (by simp)) hkn'
          obtain ⟨r, hr2⟩ : ∃ r, r = makesT id ks tx (t.kids[k]) (makesL id ks tx (t.kids.take k) d).2 := ⟨_, rfl⟩
          have hstep := makesL_take id ks tx t.kids k d hlt
          rw [← hr2] at hcall hstep
          have HS := Lib.hid hstep
          clear hstep hr2
          have HC := Lib.hid (And.intro hcall hr')
          clear hcall hat hkn' hr hr' hgk
          go_wp2_with (first
            | (refine wpList_load_mid rfl 24 (.tmp 74) rfl gk (ok + k * 4) rfl _ _ HC.out.2 Try.underlying24 rfl szNode ?_)
            | (go_at_call 114; refine HC.out.1.mono ?_; rintro e X2 ⟨A1, c1, rfl, hV, hcb2, hX⟩; have HX := Lib.hid (And.intro hV (And.intro hcb2 hX)); have hXa : Chg [] X2 (X2.alloc (.cells #[.int .i64 (Tr.id (r.1)), .int .i64 (Tr.kind (r.1)), .string (Tr.text (r.1)), .slice A1 (Tr.kids (r.1)).length c1] 24)) := (by with_reducible repeat (first | exact Chg.refl _ _ | apply Chg.alloc | apply Chg.drew | apply Chg.drewN | (refine Chg.setCell ?_ _ _ (by simp)))); have hou := hXa.at (hX.at H.out.out (by simp; omega)) (by simp); obtain ⟨o0, o1, o2, o3⟩ := blk4 hou; have of3 := blkF hou 3; clear hV hX hXa hou hcb2)
            | (have hwr := lt_of_block H.out.out
               have hXs := HX.out.2.2.size
               have hXa : Chg [] X2 ((X2.alloc (.cells #[.int .i64 (Tr.id (r.1)), .int .i64 (Tr.kind (r.1)), .string (Tr.text (r.1)), .slice A1 (Tr.kids (r.1)).length c1] 24)).alloc (.cells #[.int .i64 (Tr.id (r.1)), .int .i64 (Tr.kind (r.1)), .string (Tr.text (r.1)), .slice A1 (Tr.kids (r.1)).length c1] 24)) := (by with_reducible repeat (first | exact Chg.refl _ _ | apply Chg.alloc | apply Chg.drew | apply Chg.drewN | (refine Chg.setCell ?_ _ _ (by simp))))
               obtain ⟨xs, hown, hgrow⟩ := H.out.row.growL (HX.out.2.2.trans (hXa.mono (by simp))) (fun b hb => by have := H.out.row.own b hb; simp; omega) (fun g hg => by simp; omega)
               rw [show (makesL id ks tx (t.kids.take k) d).1.length = k from by rw [makesL_len]; simp; omega] at hown hgrow
               have HG := Lib.hid (And.intro hgrow hXa)
               clear hgrow hXa
               refine wpList_append_own_at _ rfl (.tmp 78) (.tmp 80) 22 rfl _ 24 ip _ 4 56 Try.underlying22 HI.out.1 HI.out.2.1 HI.out.2.2.1 HI.out.2.2.2 rfl (by omega) (.slice Av k cv) _ _ rfl hown ⟨X2.heap.size + 1, 0, none⟩ 1 1 _ rfl rfl (fun j u hu => by rw [Addr.add_mid]; exact range_all (heap_new (X2.alloc _) _ (by simp)) j u hu) (HX.out.1.one) (by unfold maxLen; omega) (by omega) (by simp; omega) ?_
               intro v' X3 hown' hgr _ hat
               have hrow3 := HG.out.1 _ _ _ X3 v' (HX.out.1.kept HG.out.2 (by simp)) (fun x hx => ⟨by omega, hx.1, Nat.lt_of_lt_of_le hx.2 HG.out.2.size⟩) hown' hgr hat
               have hsn : (makesL id ks tx (t.kids.take k) d).1 ++ [r.1] = (makesL id ks tx (t.kids.take (k + 1)) d).1 := by rw [HS.out]
               rw [hsn] at hrow3
               have hC3 : Chg (pc :: (Value.slice Av k cv).ownBlock.toList) U X3 := ((HX.out.2.2.mono (by simp)).trans (HG.out.2.mono (by simp))).grown hgr (by intro k hk; rw [hk]; simp)
               have hC4 : Chg (Value.slice Av k cv).ownBlock.toList X2 X3 := (HG.out.2.mono (by simp)).grown hgr (by intro k hk; rw [hk]; simp)
               have hnb : ∀ b, b ∈ (Value.slice Av k cv).ownBlock.toList → w.heap.size + 3 ≤ b := fun b hb => by have := H.out.row.own b (by simpa using hb); omega
               have hout3 := hC3.at H.out.out (fun hm => by rcases List.mem_cons.1 hm with hm | hm; omega; have := hnb _ hm; omega)
               have s3 := (blk4 hout3).2.2.2
               have f3 := blkF hout3 3
               obtain ⟨A', c', rfl⟩ := own_slice hown'
               have hcb3 : CBx pc id ks K ck tx (makesL id ks tx (t.kids.take (k + 1)) d).2 X3 := by rw [HS.out]; exact hC4.at HX.out.2.1 (fun hm => by have := hnb _ hm; omega)
               have H3 := Lib.hid (And.intro hrow3 (And.intro hC3 (And.intro hnb (And.intro hout3 hcb3))))
               clear hrow3 hgr hat hown' hC3 hC4 hnb hout3 hcb3 hsn HG)
            | (skip; fail))
          go_roundw
          case rel =>
            have hnb := H3.out.2.2.1
            have hCs : Chg [w.heap.size + 2] X3 (X3.setCell ⟨w.heap.size + 2, 3, none⟩ (.slice A' (k + 1) c')) := (Chg.refl _ _).setCell _ _ (by simp)
            have hnb3 : ∀ b, (Value.slice A' (k + 1) c').ownBlock = some b → w.heap.size + 3 ≤ b := fun b hb => by have := H3.out.1.own b hb; omega
            refine ⟨k + 1, .slice A' (k + 1) c', by omega, by go_num, Lib.hid ⟨?_, ?_, ?_, ?_, ?_, ?_⟩⟩
            · exact hCs.at (H3.out.2.1.at H.out.arg (fun hm => by rcases List.mem_cons.1 hm with hm | hm; omega; have := hnb _ hm; omega)) (by simp)
            · exact hCs.at (H3.out.2.1.at H.out.res (fun hm => by rcases List.mem_cons.1 hm with hm | hm; omega; have := hnb _ hm; omega)) (by simp)
            · exact heap_setCell_same _ _ 3 _ _ _ H3.out.2.2.2.1
            · exact hCs.at H3.out.2.2.2.2 (by simp; omega)
            · exact (H.out.chg.andThen H3.out.2.1 (fun i hi => by rcases List.mem_cons.1 hi with hi | hi; exact .inl (by simp [hi]); exact .inr (by have := hnb i hi; omega))).andThen hCs (fun i hi => .inr (by simp at hi; omega))
            · exact H3.out.1.kept hCs (fun b hb => by have := hnb3 b hb; simp; omega) (fun g hg => by simp; omega)
          case measure => simp [intOf]; omega
        · obtain rfl : k = t.kids.length := by omega
          have hrow := H.out.row
          have hcbE := H.out.cb
          rw [List.take_of_length_le (Nat.le_refl _)] at hrow hcbE
          have hml := makesL_len id ks tx t.kids d
          obtain ⟨A', c', he, hV⟩ := RowV.node ({ t with kids := (makesL id ks tx t.kids d).1 } : Tr) hrow HT.out
          simp only [hml] at he hV
          injection he with hA1 _ hc1
          subst hA1 hc1
          have HV := Lib.hid hV
          have HCE := Lib.hid hcbE
          clear hrow hV hml hcbE
          obtain ⟨q0, q1, q2, q3⟩ := blk4 H.out.out
          obtain ⟨r0, r1, r2, r3⟩ := blk4 H.out.res
          have f0 := blkF H.out.res 0
          have f1 := blkF H.out.res 1
          have f2 := blkF H.out.res 2
          have f3 := blkF H.out.res 3
          go_wp2_with (skip; fail)
          have hC0 := chg4 U (w.heap.size + 1) (.int .i64 t.id) (.int .i64 t.kind) (.string t.text) (.slice Av t.kids.length cv)
          have hsz := H.out.chg.size
          have hlt1 := lt_of_block H.out.out
          have hF : ∀ g, w.heap.size + 3 ≤ g ∨ (Value.slice Av t.kids.length cv).ownBlock = some g → w.heap.size + 3 ≤ g := fun g hg => by
            rcases hg with hg | hg
            · omega
            · have := H.out.row.own g hg; omega
          refine bodyPost_ret (v := .agg #[.int .i64 t.id, .int .i64 t.kind, .string t.text, .slice Av t.kids.length cv]) (results_cell_row rfl _ _ (w.heap.size + 1) _ _ _ _ rfl (set4 H.out.res) Try.underlying24 rfl szNode) rfl ⟨Av, cv, by simp only [makesL_len], ?_, hC0.at HCE.out (by simp; omega), H.out.chg.andThen hC0 (fun i hi => by simp at hi; omega)⟩
          simp only [makesL_len]
          exact ((HV.out.bound.weak (F' := fun g => w.heap.size + 3 ≤ g ∧ g < U.heap.size) (fun g hg => ⟨hF g hg.1, hg.2⟩)).kept hC0 (fun g hg => by simp; omega)).weak (fun g hg => ⟨by omega, Nat.lt_of_lt_of_le hg.2 hC0.size⟩)
end Go.Proofs.Ytofjocjljbkjgaa
namespace Go.Proofs.Ytofjocjljbkjgaa
open Go.RowKit
def RowPost (ks : List Tr) (w : World) (e : Ending) (w' : World) : Prop := ∃ A c, e = .returned (.slice A ks.length c) ∧ RowN w' (fun b => b < w.heap.size) w.heap.size (.slice A ks.length c) ks ∧ Chg [] w w'
set_option maxHeartbeats 4000000 in
set_option maxRecDepth 100000 in
theorem inserted_any (ks : List Tr) (B : Option Addr) (d p : Nat) (x : Tr) (A : Option Addr) (c : Nat) (w : World) (hK : KidsC (fun b => b < w.heap.size) w B ks) (hd : ks.length ≤ d ∧ d ≤ 9223372036854775807) (hp : p ≤ ks.length) (hx : TrC (fun b => b < w.heap.size) w x [.int .i64 (Tr.id x), .int .i64 (Tr.kind x), .string (Tr.text x), .slice A (Tr.kids x).length c]) (hn : ks.length ≤ 100000) :
    Calls Try.prog 113 #[.slice B ks.length d, .int .i64 p, .agg #[.int .i64 (Tr.id x), .int .i64 (Tr.kind x), .string (Tr.text x), .slice A (Tr.kids x).length c]] w (RowPost (insAt ks p x) w) := by
  obtain ⟨W, hW⟩ : ∃ W, W = w.alloc (.cells #[.int .i64 (Tr.id x), .int .i64 (Tr.kind x), .string (Tr.text x), .slice A (Tr.kids x).length c] 24) := ⟨_, rfl⟩
  have hcW : Chg [] w W := by rw [hW]; exact (by with_reducible repeat (first | exact Chg.refl _ _ | apply Chg.alloc | apply Chg.drew | apply Chg.drewN | (refine Chg.setCell ?_ _ _ (by simp))))
  have hb : W.heap[w.heap.size]? = some (.cells #[.int .i64 (Tr.id x), .int .i64 (Tr.kind x), .string (Tr.text x), .slice A (Tr.kids x).length c] 24 (0, 0)) := by rw [hW]; exact heap_new _ _ rfl
  obtain ⟨p0, p1, p2, p3⟩ := blk4 hb
  have HW := Lib.hid (And.intro hW (And.intro hcW (And.intro hb (And.intro hK hx))))
  have hd1 := hd.1
  have hd2 := hd.2
  have hpd : (p : Int) ≤ (d : Int) := by omega
  have hp0 : (0 : Int) ≤ (p : Int) := by omega
  have hv0 : RowN w (fun b => b < w.heap.size) w.heap.size (.slice none 0 0) [] := RowN.nil _ _ _
  have HV := Lib.hid hv0
  clear hW hcW hb hK hx hd hv0 p0 p1 p2 p3
  go_enter Try.func113, Try.ntmps113
  go_upto_region 2 with (skip; fail)
  rw [← HW.out.1]
  go_wp2_with (first
    | (refine wpList_append_nodes rfl (.tmp 8) (.tmp 11) rfl (fun b => b < w.heap.size) w.heap.size (.slice none 0 0) [] rfl HV.out HW.out.2.1 (by simp) (Nat.le_refl _) B p d (ks.take p) rfl (by rw [List.length_take]; omega) ((SrcN.of ((HW.out.2.2.2.1.kept HW.out.2.1 (by simp)).weak (ok' := fun b => b < w.heap.size ∧ b < W.heap.size ∧ (Value.slice none 0 0).ownBlock ≠ some b) (fun b hb hb2 => ⟨hb, hb2, by simp [Value.ownBlock]⟩))).take p) (by simp) (by rw [List.length_take]; omega) ?_
       intro v1 X1 hr1 hc1 _
       rw [List.nil_append] at hr1
       have hc1' : Chg [] W X1 := hc1
       have hbX := hc1'.at HW.out.2.2.1 (by simp)
       obtain ⟨p0, p1, p2, p3⟩ := blk4 hbX
       obtain ⟨Y1, hY1⟩ : ∃ Y1, Y1 = X1.alloc (.cells #[.int .i64 (Tr.id x), .int .i64 (Tr.kind x), .string (Tr.text x), .slice A (Tr.kids x).length c] 24) := ⟨_, rfl⟩
       have hXY : Chg [] X1 Y1 := by rw [hY1]; exact (by with_reducible repeat (first | exact Chg.refl _ _ | apply Chg.alloc | apply Chg.drew | apply Chg.drewN | (refine Chg.setCell ?_ _ _ (by simp))))
       have hsrc : SrcN (fun b => b < w.heap.size ∧ b < Y1.heap.size ∧ v1.ownBlock ≠ some b) Y1 (some ⟨X1.heap.size, 0, none⟩) [x] := SrcN.one (cs := [.int .i64 (Tr.id x), .int .i64 (Tr.kind x), .string (Tr.text x), .slice A (Tr.kids x).length c]) (by rw [hY1]; exact heap_new _ _ rfl) ((HW.out.2.2.2.2.kept (HW.out.2.1.trans (hc1'.trans hXY)) (by simp)).weak (fun b hb hb2 => ⟨hb, hb2, fun e => by have := hr1.own b e; omega⟩))
       have HB0 := Lib.hid (And.intro hY1 (And.intro hXY hsrc))
       have H1 := Lib.hid (And.intro hr1 (And.intro hc1' hbX))
       clear hY1 hXY hsrc
       clear hr1 hc1 hc1' hbX
       ((try dsimp only); (try simp only [Act.put, List.setIfInBounds_toArray, List.set_cons_zero, List.set_cons_succ])))
    | (rw [← HB0.out.1]
       refine wpList_append_nodes rfl (.tmp 13) (.tmp 15) rfl (fun b => b < w.heap.size) w.heap.size v1 (ks.take p) rfl H1.out.1 HB0.out.2.1 (by simp) (by have := HW.out.2.1.size; have := H1.out.2.1.size; omega) (some ⟨X1.heap.size, 0, none⟩) 1 1 [x] rfl rfl HB0.out.2.2 (by rw [List.length_take]; omega) (by simp) ?_
       intro v2 X2 hr2 hc2 _
       have hwX : Chg v1.ownBlock.toList w X2 := ((HW.out.2.1.trans (H1.out.2.1.trans HB0.out.2.1)).mono (by simp)).trans hc2
       have hk2 : KidsC (fun b => (b < w.heap.size) ∧ b < X2.heap.size ∧ v2.ownBlock ≠ some b) X2 B ks := (HW.out.2.2.2.1.kept hwX (fun g hg hm => by have := H1.out.1.own g (by simpa using hm); omega)).weak (fun b hb hb2 => ⟨hb, hb2, fun e => by have := hr2.own b e; omega⟩)
       have HC2 := Lib.hid hk2
       clear hwX hk2
       have H2 := Lib.hid (And.intro hr2 hc2)
       clear hr2 hc2
       ((try dsimp only); (try simp only [Act.put, List.setIfInBounds_toArray, List.set_cons_zero, List.set_cons_succ])))
    | (refine wpList_runv rfl (exec_slice_post 22 (.tmp 18) (.tmp 19) rfl undNDS szElem B ks.length d p rfl rfl hp) ?_
       ((try dsimp only); (try simp only [Act.put, List.setIfInBounds_toArray, List.set_cons_zero, List.set_cons_succ])))
    | (refine wpList_append_nodes rfl (.tmp 17) (.tmp 20) rfl (fun b => b < w.heap.size) w.heap.size v2 (ks.take p ++ [x]) rfl H2.out.1 (Chg.refl [] _) (by simp) (by have := HW.out.2.1.size; have := H1.out.2.1.size; have := HB0.out.2.1.size; have := H2.out.2.size; omega) (tailA B d p) (ks.length - p) (d - p) (ks.drop p) rfl (by simp) (SrcN.drop (SrcN.of (HC2.out)) hd1) (by simp; omega) (by simp; omega) ?_
       intro v3 X3 hr3 hc3 _
       have H3 := Lib.hid (And.intro hr3 hc3)
       clear hr3 hc3
       ((try dsimp only); (try simp only [Act.put, List.setIfInBounds_toArray, List.set_cons_zero, List.set_cons_succ])))
    | (skip; fail))
  have hr := H3.out.1
  rw [List.append_assoc, show ks.take p ++ ([x] ++ ks.drop p) = insAt ks p x from rfl] at hr
  obtain ⟨A3, c3, rfl⟩ := hr.slice
  have hwX2 : Chg [] w X2 := (HW.out.2.1.trans (H1.out.2.1.trans HB0.out.2.1)).andThen H2.out.2 (fun i hi => .inr (H1.out.1.own i (by simpa using hi)).1)
  have hwX3 : Chg [] w X3 := hwX2.andThen H3.out.2 (fun i hi => .inr (H2.out.1.own i (by simpa using hi)).1)
  have HR := Lib.hid (And.intro hr hwX3)
  clear hr hwX2 hwX3
  go_ret
  exact ⟨A3, c3, rfl, HR.out.1, HR.out.2⟩
end Go.Proofs.Ytofjocjljbkjgaa
namespace Go.Proofs.Ytofjocjljbkjgaa
open Go.RowKit
set_option maxHeartbeats 4000000 in
set_option maxRecDepth 100000 in
theorem put09_any (t : Tr) (A : Option Addr) (c : Nat) (id : Int) (ks : List Tr) (K : Option Addr) (ck : Nat) (tx : ByteArray) (w : World) (hT : TrC (fun b => b < w.heap.size) w t [.int .i64 (Tr.id t), .int .i64 (Tr.kind t), .string (Tr.text t), .slice A (Tr.kids t).length c]) (hK : KidsC (fun b => b < w.heap.size) w K ks) (hN : t.nodes ≤ 100000) (hkn : nodesL ks ≤ 100000) (htx : tx.size ≤ 9223372036854775807) (hkc : ks.length ≤ ck) (hck : ck ≤ 9223372036854775807) :
    Calls Try.prog 74 #[.agg #[.int .i64 (Tr.id t), .int .i64 (Tr.kind t), .string (Tr.text t), .slice A (Tr.kids t).length c], .int .i64 id, .slice K ks.length ck, .string tx] w (NewPost (makesT id ks tx t false).1 w) := by
  obtain ⟨W, hW⟩ : ∃ W, W = ((w.alloc (.cells #[.int .i64 (Tr.id t), .int .i64 (Tr.kind t), .string (Tr.text t), .slice A (Tr.kids t).length c] 24)).alloc (.cells #[.int .i64 0, .int .i64 0, .string ⟨#[]⟩, .slice none 0 0] 24)).alloc (.cells #[.int .i64 id, .slice K ks.length ck, .string tx, .bool false] 158) := ⟨_, rfl⟩
  have hcW : Chg [] w W := by rw [hW]; exact (by with_reducible repeat (first | exact Chg.refl _ _ | apply Chg.alloc | apply Chg.drew | apply Chg.drewN | (refine Chg.setCell ?_ _ _ (by simp))))
  have b0 : W.heap[w.heap.size]? = some (.cells #[.int .i64 (Tr.id t), .int .i64 (Tr.kind t), .string (Tr.text t), .slice A (Tr.kids t).length c] 24 (0, 0)) := by rw [hW]; exact heap_old (heap_old (heap_new _ _ rfl) _) _
  have b1 : W.heap[w.heap.size + 1]? = some (.cells #[.int .i64 0, .int .i64 0, .string ⟨#[]⟩, .slice none 0 0] 24 (0, 0)) := by rw [hW]; exact heap_old (heap_new _ _ (by simp)) _
  have b2 : CBx (w.heap.size + 2) id ks K ck tx false W := by unfold CBx; rw [hW]; exact heap_new _ _ (by simp)
  have hcall := makes_any (w.heap.size + 2) id ks K ck tx hkn htx hkc hck t A c false W ((hT.kept hcW (by simp)).weak (fun b hb _ => by omega)) b2 ((hK.kept hcW (by simp)).weak (fun b hb _ => by omega)) hN
  obtain ⟨p0, p1, p2, p3⟩ := blk4 b0
  have HW := Lib.hid (And.intro hW (And.intro hcW (And.intro b1 hcall)))
  rw [hW] at p0 p1 p2 p3
  clear hW hcW b0 b1 b2 hcall hT hK
  go_enter Try.func74, Try.ntmps74
  go_wp2_with fail
  rw [← HW.out.1]
  clear p0 p1 p2 p3
  refine HW.out.2.2.2.mono ?_
  obtain ⟨r, hr⟩ : ∃ r, r = makesT id ks tx t false := ⟨_, rfl⟩
  rw [← hr]
  have HRr := Lib.hid hr
  rintro e X ⟨A1, c1, rfl, hV, _, hX⟩
  have x1 := hX.at HW.out.2.2.1 (by simp)
  obtain ⟨q0, q1, q2, q3⟩ := blk4 x1
  have f0 := blkF x1 0
  have f1 := blkF x1 1
  have f2 := blkF x1 2
  have f3 := blkF x1 3
  have HX := Lib.hid (And.intro hV (And.intro hX x1))
  clear hr hV hX x1
  go_wp2_with (skip; fail)
  have hc4 := chg4 X (w.heap.size + 1) (.int .i64 r.1.id) (.int .i64 r.1.kind) (.string r.1.text) (.slice A1 r.1.kids.length c1)
  have hl1 := lt_of_block HW.out.2.2.1
  have hs := HW.out.2.1.size
  have hs4 := hc4.size
  refine bodyPost_ret (v := .agg #[.int .i64 (Tr.id r.1), .int .i64 (Tr.kind r.1), .string (Tr.text r.1), .slice A1 (Tr.kids r.1).length c1]) (results_cell_row rfl _ _ (w.heap.size + 1) _ _ _ _ rfl (set4 HX.out.2.2) Try.underlying24 rfl szNode) rfl ?_
  rw [← HRr.out]
  refine ⟨A1, c1, rfl, ?_, (HW.out.2.1.andThen HX.out.2.1 (by simp)).andThen hc4 (by simp)⟩
  exact (HX.out.1.kept hc4 (fun g hg => by simp; omega)).weak (fun g hg => ⟨by omega, by omega⟩)
def ParPost (B : Nat) (r : Option (Tr × Nat)) (w : World) (e : Ending) (w' : World) : Prop := Chg [] w w' ∧ match r with
  | none => e = .returned (.tuple #[.agg #[.int .i64 0, .int .i64 0, .string ⟨#[]⟩, .slice none 0 0], .int .i64 0, .bool false])
  | some (y, n) => ∃ A c, e = .returned (.tuple #[.agg #[.int .i64 (Tr.id y), .int .i64 (Tr.kind y), .string (Tr.text y), .slice A (Tr.kids y).length c], .int .i64 n, .bool true]) ∧ TrC (fun b => b < B) w' y [.int .i64 (Tr.id y), .int .i64 (Tr.kind y), .string (Tr.text y), .slice A (Tr.kids y).length c]
structure PrB (w : World) (t : Tr) (A : Option Addr) (c : Nat) (W : World) : Prop where
  b0 : W.heap[w.heap.size]? = some (.cells #[.int .i64 (Tr.id t), .int .i64 (Tr.kind t), .string (Tr.text t), .slice A (Tr.kids t).length c] 24 (0, 0))
  b1 : W.heap[w.heap.size + 1]? = some (.cells #[.int .i64 0, .int .i64 0, .string ⟨#[]⟩, .slice none 0 0] 24 (0, 0))
  chg : Chg [] w W
theorem PrB.kept {w : World} {t : Tr} {A : Option Addr} {c : Nat} {W W' : World} (h : PrB w t A c W) (hc : Chg [] W W') : PrB w t A c W' := ⟨hc.at h.b0 (by simp), hc.at h.b1 (by simp), h.chg.trans hc⟩
theorem PrB.new (w : World) (t : Tr) (A : Option Addr) (c : Nat) : PrB w t A c ((w.alloc (.cells #[.int .i64 (Tr.id t), .int .i64 (Tr.kind t), .string (Tr.text t), .slice A (Tr.kids t).length c] 24)).alloc (.cells #[.int .i64 0, .int .i64 0, .string ⟨#[]⟩, .slice none 0 0] 24)) := ⟨heap_old (heap_new _ _ rfl) _, heap_new _ _ (by simp), (by with_reducible repeat (first | exact Chg.refl _ _ | apply Chg.alloc | apply Chg.drew | apply Chg.drewN | (refine Chg.setCell ?_ _ _ (by simp))))⟩
set_option maxHeartbeats 4000000 in
set_option maxRecDepth 100000 in
theorem par09_any (id : Int) (B : Nat) : ∀ (t : Tr) (A : Option Addr) (c : Nat) (w : World), B ≤ w.heap.size → TrC (fun b => b < B) w t [.int .i64 (Tr.id t), .int .i64 (Tr.kind t), .string (Tr.text t), .slice A (Tr.kids t).length c] → Calls Try.prog 115 #[.agg #[.int .i64 (Tr.id t), .int .i64 (Tr.kind t), .string (Tr.text t), .slice A (Tr.kids t).length c], .int .i64 id] w (ParPost B (parR id t) w) := by
  intro t
  induction t using Tr.ind with
  | h t ih =>
  intro A c w hBw hT
  obtain ⟨A', c', hcs, hlc, hcm, htxt, hKt⟩ := hT.opens
  simp only [List.cons.injEq, Value.slice.injEq, true_and, and_true] at hcs
  obtain ⟨rfl, rfl⟩ := hcs
  obtain ⟨W, hW⟩ : ∃ W, W = (w.alloc (.cells #[.int .i64 (Tr.id t), .int .i64 (Tr.kind t), .string (Tr.text t), .slice A (Tr.kids t).length c] 24)).alloc (.cells #[.int .i64 0, .int .i64 0, .string ⟨#[]⟩, .slice none 0 0] 24) := ⟨_, rfl⟩
  have hB : PrB w t A c W := by rw [hW]; exact PrB.new _ _ _ _
  have hlm : t.kids.length ≤ 9223372036854775807 := by omega
  have HW := Lib.hid (And.intro hW (And.intro hB (And.intro ih (And.intro hKt hT))))
  clear hW hB ih hKt hT hlc hcm htxt
  go_enter Try.func115, Try.ntmps115
  go_wp2_with (skip; fail)
  rw [← HW.out.1]
  go_loopw [7] (fun i wr => ∃ k : Nat, k ≤ t.kids.length ∧ i = .int .i64 k ∧ Hid (PrB w t A c wr ∧ parR id t = parRL id t (t.kids.drop k) k)) (fun i _ => t.kids.length - (intOf i).toNat)
  case atStart => exact ⟨0, Nat.zero_le _, rfl, Lib.hid ⟨HW.out.2.1, by rw [parR_eq]; rfl⟩⟩
  case round =>
    obtain ⟨k, hk, rfl, H⟩ := hrel
    obtain ⟨U, hU⟩ : ∃ U, U = wr := ⟨_, rfl⟩
    subst hU
    obtain ⟨p0, p1, p2, p3⟩ := blk4 H.out.1.b0
    obtain ⟨r0, r1, r2, r3⟩ := blk4 H.out.1.b1
    have f0 := blkF H.out.1.b1 0
    have f1 := blkF H.out.1.b1 1
    have f2 := blkF H.out.1.b1 2
    have f3 := blkF H.out.1.b1 3
    by_cases hlt : k < t.kids.length
    · obtain ⟨gk, ok, cs, rfl, hgk, hr, hat⟩ := HW.out.2.2.2.1 k _ (List.getElem?_eq_getElem hlt)
      obtain ⟨Ak, ckk, rfl, _⟩ := hat.opens
      have hr' := H.out.1.chg.range hr (by simp)
      obtain ⟨x, hx⟩ : ∃ x, x = t.kids[k] := ⟨_, rfl⟩
      have hdr : t.kids.drop k = x :: t.kids.drop (k + 1) := by rw [hx]; exact List.drop_eq_getElem_cons hlt
      have hpar := H.out.2
      rw [hdr, parRL] at hpar
      have hih := HW.out.2.2.1 x (by rw [hx]; exact List.getElem_mem hlt) Ak ckk
      rw [← hx] at hat hr'
      have c0 : U.cell? ⟨gk, ok + k * 4, none⟩ = some (.int .i64 x.id) := hr' 0 _ rfl
      by_cases hid : x.id = id
      · have hb : (x.id == id) = true := by simpa using hid
        rw [if_pos hid] at hpar
        have HP := Lib.hid hpar
        clear hat hr hr' hx hdr hpar hih hid hgk
        go_wp2_with (skip; fail)
        have hc4 := chg4 U (w.heap.size + 1) (.int .i64 t.id) (.int .i64 t.kind) (.string t.text) (.slice (some ⟨gk, ok, none⟩) t.kids.length c)
        refine bodyPost_ret (v := .tuple #[.agg #[.int .i64 (Tr.id t), .int .i64 (Tr.kind t), .string (Tr.text t), .slice (some ⟨gk, ok, none⟩) (Tr.kids t).length c], .int .i64 k, .bool true]) (results_row_tmp2 rfl _ _ (w.heap.size + 1) _ _ _ _ _ _ rfl rfl rfl (set4 H.out.1.b1) Try.underlying24 rfl szNode) rfl ?_
        rw [HP.out]
        exact ⟨H.out.1.chg.andThen hc4 (by simp), _, _, rfl, (HW.out.2.2.2.2.kept H.out.1.chg (by simp)).kept hc4 (by simp; omega)⟩
      · have hb : (x.id == id) = false := by simpa using hid
        rw [if_neg hid] at hpar
        have hcall := hih U (by have := H.out.1.chg.size; omega) (hat.kept H.out.1.chg (by simp))
        have HC := Lib.hid (And.intro hcall (And.intro hr' (And.intro hpar hid)))
        clear hat hr hr' hx hdr hpar hih hid hgk hcall
        go_wp2_with (first
          | (refine wpList_load_mid rfl 24 (.tmp 32) rfl gk (ok + k * 4) rfl _ _ HC.out.2.1 Try.underlying24 rfl szNode ?_
             ((try dsimp only); (try simp only [Act.put, List.setIfInBounds_toArray, List.set_cons_zero, List.set_cons_succ])))
          | (skip; fail))
        refine HC.out.1.mono ?_
        cases hp : parR id x with
        | none =>
          have hpar := HC.out.2.2.1
          rw [hp] at hpar
          rintro e X ⟨hX, rfl⟩
          have HP := Lib.hid hpar
          have hPX := H.out.1.kept (hX.alloc (.cells #[.int .i64 0, .int .i64 0, .string ⟨#[]⟩, .slice none 0 0] 24))
          have HX := Lib.hid hPX
          clear hX hPX hp hpar p0 p1 p2 p3 r0 r1 r2 r3 f0 f1 f2 f3
          go_wp2_with (skip; fail)
          go_roundw
          case rel => exact ⟨k + 1, by omega, by go_num, Lib.hid ⟨HX.out, HP.out⟩⟩
          case measure => simp [intOf]; omega
        | some yn =>
          obtain ⟨y, n⟩ := yn
          have hpar := HC.out.2.2.1
          rw [hp] at hpar
          rintro e X ⟨hX, A1, c1, rfl, hTy⟩
          obtain ⟨Y, hY⟩ : ∃ Y, Y = X.alloc (.cells #[.int .i64 (Tr.id y), .int .i64 (Tr.kind y), .string (Tr.text y), .slice A1 (Tr.kids y).length c1] 24) := ⟨_, rfl⟩
          have hXY : Chg [] X Y := by rw [hY]; exact (by with_reducible repeat (first | exact Chg.refl _ _ | apply Chg.alloc | apply Chg.drew | apply Chg.drewN | (refine Chg.setCell ?_ _ _ (by simp))))
          have hbY : Y.heap[X.heap.size]? = some (.cells #[.int .i64 (Tr.id y), .int .i64 (Tr.kind y), .string (Tr.text y), .slice A1 (Tr.kids y).length c1] 24 (0, 0)) := by rw [hY]; exact heap_new _ _ rfl
          have hPX := H.out.1.kept (hX.trans hXY)
          clear p0 p1 p2 p3 r0 r1 r2 r3 f0 f1 f2 f3
          obtain ⟨p0, p1, p2, p3⟩ := blk4 hbY
          obtain ⟨r0, r1, r2, r3⟩ := blk4 hPX.b1
          have f0 := blkF hPX.b1 0
          have f1 := blkF hPX.b1 1
          have f2 := blkF hPX.b1 2
          have f3 := blkF hPX.b1 3
          have HX := Lib.hid (And.intro hY (And.intro hPX (And.intro (hTy.kept hXY (by simp)) hpar)))
          rw [hY] at p0 p1 p2 p3 r0 r1 r2 r3 f0 f1 f2 f3
          clear hX hXY hbY hPX hTy hpar hp hY
          go_wp2_with (skip; fail)
          rw [← HX.out.1]
          have hc4 := chg4 Y (w.heap.size + 1) (.int .i64 y.id) (.int .i64 y.kind) (.string y.text) (.slice A1 y.kids.length c1)
          refine bodyPost_ret (v := .tuple #[.agg #[.int .i64 (Tr.id y), .int .i64 (Tr.kind y), .string (Tr.text y), .slice A1 (Tr.kids y).length c1], .int .i64 n, .bool true]) (results_row_tmp2 rfl _ _ (w.heap.size + 1) _ _ _ _ _ _ rfl rfl rfl (set4 HX.out.2.1.b1) Try.underlying24 rfl szNode) rfl ?_
          rw [HX.out.2.2.2]
          exact ⟨HX.out.2.1.chg.andThen hc4 (by simp), _, _, rfl, HX.out.2.2.1.kept hc4 (by simp; omega)⟩
    · obtain rfl : k = t.kids.length := by omega
      have hpar := H.out.2
      rw [List.drop_length, parRL] at hpar
      have HP := Lib.hid hpar
      clear hpar
      go_wp2_with (skip; fail)
      have hc4 := chg4 U (w.heap.size + 1) (.int .i64 0) (.int .i64 0) (.string ⟨#[]⟩) (.slice none 0 0)
      refine bodyPost_ret (v := .tuple #[.agg #[.int .i64 0, .int .i64 0, .string ⟨#[]⟩, .slice none 0 0], .int .i64 0, .bool false]) (results_row_tmp2 rfl _ _ (w.heap.size + 1) _ _ _ _ _ _ rfl rfl rfl (set4 H.out.1.b1) Try.underlying24 rfl szNode) rfl ?_
      rw [HP.out]
      exact ⟨H.out.1.chg.andThen hc4 (by simp), rfl⟩
end Go.Proofs.Ytofjocjljbkjgaa
namespace Go.Proofs.Ytofjocjljbkjgaa
open Go.RowKit
structure Rp (w U0 wr : World) (t : Tr) (A : Option Addr) (c : Nat) (v : Value) (ns : List Tr) : Prop where
  res : wr.heap[w.heap.size + 1]? = some (.cells #[.int .i64 0, .int .i64 0, .string ⟨#[]⟩, .slice none 0 0] 24 (0, 0))
  out : wr.heap[U0.heap.size]? = some (.cells #[.int .i64 t.id, .int .i64 t.kind, .string t.text, v] 24 (0, 0))
  chg : Chg [] w wr
  row : RowV wr (U0.heap.size + 1) v ns (fun g => U0.heap.size + 1 ≤ g)
theorem repT_here {id : Int} {ks : List Tr} {t : Tr} {k : Nat} (hk : k < t.kids.length) (he : (t.kids[k]).id = id) (h : ∀ j (hj : j < k), (t.kids[j]'(by omega)).id ≠ id ∧ parR id (t.kids[j]'(by omega)) = none) : repT id ks t = { t with kids := ks } := by
  rw [repT_eq, repL_here hk he h]
theorem repT_in {id : Int} {ks : List Tr} {t : Tr} {k : Nat} (hk : k < t.kids.length) (he : (t.kids[k]).id ≠ id) (hp : (parR id t.kids[k]).isSome = true) (h : ∀ j (hj : j < k), (t.kids[j]'(by omega)).id ≠ id ∧ parR id (t.kids[j]'(by omega)) = none) : repT id ks t = { t with kids := t.kids.set k (repT id ks t.kids[k]) } := by
  rw [repT_eq, repL_in hk he hp h]
theorem repT_none {id : Int} {ks : List Tr} {t : Tr} (h : ∀ j (hj : j < t.kids.length), (t.kids[j]).id ≠ id ∧ parR id t.kids[j] = none) : repT id ks t = t := by
  rw [repT_eq, repL_none h]
def put4 (C : Array Value) (o : Nat) (cs : List Value) : Array Value := (C.toList.take o ++ cs ++ C.toList.drop (o + 4)).toArray
theorem put4_get {C : Array Value} {o : Nat} {cs : List Value} (h4 : cs.length = 4) (hf : o + 4 ≤ C.size) (j : Nat) : (put4 C o cs)[j]? = if j < o then C[j]? else if j < o + 4 then cs[j - o]? else C[j]? := by
  have hl : (C.toList.take o).length = o := by simp; omega
  unfold put4
  rw [List.getElem?_toArray, List.append_assoc]
  by_cases h1 : j < o
  · rw [if_pos h1, List.getElem?_append_left (by omega), List.getElem?_take, if_pos h1]; simp
  · rw [if_neg h1, List.getElem?_append_right (by omega), hl]
    by_cases h2 : j < o + 4
    · rw [if_pos h2, List.getElem?_append_left (by omega)]
    · rw [if_neg h2, List.getElem?_append_right (by omega), h4, List.getElem?_drop]
      rw [show o + 4 + (j - o - 4) = j by omega]; simp
theorem Fr.put4 {w : World} {g o : Nat} {F : Nat → Prop} {C : Array Value} {ty : TypeId} {cs : List Value} (hg : w.heap[g]? = some (.cells C ty (0, 0))) (h4 : cs.length = 4) (hf : o + 4 ≤ C.size) : Fr g o F w (w.setRow g (Proofs.Ytofjocjljbkjgaa.put4 C o cs)) := by
  have hr := setRow_heap w g C (Proofs.Ytofjocjljbkjgaa.put4 C o cs) ty (0, 0) hg
  have hc := setRow_chg w g (Proofs.Ytofjocjljbkjgaa.put4 C o cs)
  refine ⟨hc.os, hc.tape, hc.output, hc.size, fun b hb h1 _ => hc.block b hb (by simpa using h1), fun j hj => ?_, fun C' ty' h => ?_⟩
  · have e := put4_get (C := C) (o := o) h4 hf j
    have e2 : (Proofs.Ytofjocjljbkjgaa.put4 C o cs)[j]? = C[j]? := by
      rcases hj with hj | hj
      · rw [if_pos hj] at e; exact e
      · rw [if_neg (by omega), if_neg (by omega)] at e; exact e
    simp only [World.cell?, hr, hg, e2]
  · rw [hg] at h
    simp only [Option.some.injEq, Obj.cells.injEq] at h
    obtain ⟨_, rfl, _⟩ := h
    exact ⟨_, hr⟩
theorem put4_range {w : World} {g o : Nat} {C : Array Value} {ty : TypeId} {cs : List Value} (hg : w.heap[g]? = some (.cells C ty (0, 0))) (h4 : cs.length = 4) (hf : o + 4 ≤ C.size) : (w.setRow g (put4 C o cs)).rangeAt g o cs := fun j u hu => by
  have hj : j < 4 := by rw [← h4]; exact (List.getElem?_eq_some_iff.1 hu).1
  have hr := setRow_heap w g C (put4 C o cs) ty (0, 0) hg
  have e := put4_get (C := C) (o := o) h4 hf (o + j)
  rw [if_neg (by omega), if_pos (by omega), show o + j - o = j by omega] at e
  simp only [World.cell?, hr, e]
  simpa using hu
theorem wpList_put_node {ops : Array Oper} {rest : List Oper} {o : Oper} {a : Act} {w : World} {Q : Exit → Act → World → Prop} (hgd : o.guard = none) (x y : Operand) (ho : o.op = .store 24 x y) (g k : Nat) (hx : a.eval x = .pointer (some ⟨g, k, none⟩)) (cs : List Value) (hy : a.eval y = .agg cs.toArray)
    (cur : Array Value) (hg : w.heap[g]? = some (.cells cur 24 (0, 0))) (h4 : cs.length = 4) (hfit : k + 4 ≤ cur.size) (h1 : ∀ u ∈ cs, u.oneCell' = true)
    (h : wpList Try.prog ops Q rest (a.put o.dst undef) (w.setRow g (put4 cur k cs))) : wpList Try.prog ops Q (o :: rest) a w := by
  refine wpList_store_at hgd 24 x y ho g k hx cs.toArray hy cur 24 hg (by rw [List.size_toArray, h4]; exact szNode) (by rw [List.size_toArray, h4]; exact hfit) h1 ?_
  rw [show (cur.toList.take k ++ cs.toArray.toList ++ cur.toList.drop (k + cs.toArray.size)).toArray = put4 cur k cs from by unfold put4; simp [h4]]
  exact h
theorem range_size {w : World} {g o : Nat} {C : Array Value} {ty : TypeId} {cs : List Value} (hg : w.heap[g]? = some (.cells C ty (0, 0))) (hr : w.rangeAt g o cs) (h4 : cs.length = 4) : o + 4 ≤ C.size := by
  have h := hr 3 _ (List.getElem?_eq_getElem (by omega))
  simp only [World.cell?, hg] at h
  have : C[o + 3]? = some (cs[3]'(by omega)) := by simpa using h
  have := (Array.getElem?_eq_some_iff.1 this).1
  omega
set_option maxHeartbeats 4000000 in
set_option maxRecDepth 100000 in
theorem replaced_any (id : Int) (ks : List Tr) (K : Option Addr) (ck : Nat) (hkn : nodesL ks ≤ 100000) (hkc : ks.length ≤ ck) (hck : ck ≤ 9223372036854775807) : ∀ (t : Tr) (A : Option Addr) (c : Nat) (w : World), TrC (fun b => b < w.heap.size) w t [.int .i64 (Tr.id t), .int .i64 (Tr.kind t), .string (Tr.text t), .slice A (Tr.kids t).length c] → KidsC (fun b => b < w.heap.size) w K ks → t.nodes ≤ 100000 →
    Calls Try.prog 116 #[.agg #[.int .i64 (Tr.id t), .int .i64 (Tr.kind t), .string (Tr.text t), .slice A (Tr.kids t).length c], .int .i64 id, .slice K ks.length ck] w (NewPost (repT id ks t) w) := by
  intro t
  induction t using Tr.ind with
  | h t ih =>
  intro A c w hT hK hN
  obtain ⟨ip, hi, hz0, hz1, hz2⟩ := info_parts infoNode
  obtain ⟨A', c', hcs, hlc, hcm, htxt, hKt⟩ := hT.opens
  simp only [List.cons.injEq, Value.slice.injEq, true_and, and_true] at hcs
  obtain ⟨rfl, rfl⟩ := hcs
  have hlen : t.kids.length ≤ 100000 := by have := nodesL_len t.kids; rw [Tr.nodes_eq] at hN; omega
  have hklen : ks.length ≤ 100000 := by have := nodesL_len ks; omega
  obtain ⟨W, hW⟩ : ∃ W, W = (w.alloc (.cells #[.int .i64 (Tr.id t), .int .i64 (Tr.kind t), .string (Tr.text t), .slice A (Tr.kids t).length c] 24)).alloc (.cells #[.int .i64 0, .int .i64 0, .string ⟨#[]⟩, .slice none 0 0] 24) := ⟨_, rfl⟩
  have hB : PrB w t A c W := by rw [hW]; exact PrB.new _ _ _ _
  have HTx := Lib.hid htxt
  have HI := Lib.hid (And.intro hi (And.intro hz0 (And.intro hz1 hz2)))
  have HW := Lib.hid (And.intro hW (And.intro hB (And.intro ih (And.intro hKt (And.intro hK (And.intro hT hN))))))
  clear hW hB ih hKt hK hT hN hi hz0 hz1 hz2 htxt
  go_enter Try.func116, Try.ntmps116
  go_wp2_with (skip; fail)
  rw [← HW.out.1]
  go_loopw [7] (fun i wr => ∃ k : Nat, k ≤ t.kids.length ∧ i = .int .i64 k ∧ Hid (PrB w t A c wr ∧ ∀ j (hj : j < k) (hl : j < t.kids.length), (t.kids[j]).id ≠ id ∧ parR id t.kids[j] = none)) (fun i _ => t.kids.length - (intOf i).toNat)
  case atStart => exact ⟨0, Nat.zero_le _, rfl, Lib.hid ⟨HW.out.2.1, fun j hj => by omega⟩⟩
  case round =>
    obtain ⟨k0, hk0, rfl, H0⟩ := hrel
    obtain ⟨U0, hU0⟩ : ∃ U0, U0 = wr := ⟨_, rfl⟩
    subst hU0
    obtain ⟨p0, p1, p2, p3⟩ := blk4 H0.out.1.b0
    by_cases hlt0 : k0 < t.kids.length
    · obtain ⟨gt, ot, cs, rfl, hgt, hrt, hatt⟩ := HW.out.2.2.2.1 k0 _ (List.getElem?_eq_getElem hlt0)
      obtain ⟨At, ct, rfl, _⟩ := hatt.opens
      have hrt' := H0.out.1.chg.range hrt (by simp)
      obtain ⟨x, hx⟩ : ∃ x, x = t.kids[k0] := ⟨_, rfl⟩
      rw [← hx] at hatt hrt'
      have c0 : U0.cell? ⟨gt, ot + k0 * 4, none⟩ = some (.int .i64 x.id) := hrt' 0 _ rfl
      by_cases hid : x.id = id
      · have hb : (x.id == id) = true := by simpa using hid
        have hrep := repT_here (ks := ks) hlt0 (by rw [← hx]; exact hid) (fun j hj => H0.out.2 j hj (by omega))
        have HR := Lib.hid hrep
        have hmk : Rp w U0 (U0.alloc (.cells #[.int .i64 t.id, .int .i64 t.kind, .string t.text, .slice none 0 0] 24)) t (some ⟨gt, ot, none⟩) c (.slice none 0 0) (ks.take 0) := ⟨heap_old H0.out.1.b1 _, heap_new _ _ rfl, H0.out.1.chg.alloc _, by rw [List.take_zero]; exact RowV.nil _ _ _⟩
        have hu0 : w.heap.size + 2 ≤ U0.heap.size := by have := lt_of_block H0.out.1.b1; omega
        have HU0 := Lib.hid hu0
        have HZ := Lib.hid hmk
        clear hatt hrt hrt' hx hid hgt hrep hmk hu0
        go_wp2_with (skip; fail)
        clear p0 p1 p2 p3 c0
        go_loopw [9] (fun i wr => ∃ (k : Nat) (v : Value), k ≤ ks.length ∧ i = .int .i64 k ∧ Hid (Rp w U0 wr t (some ⟨gt, ot, none⟩) c v (ks.take k))) (fun i _ => ks.length - (intOf i).toNat)
        case atStart => exact ⟨0, _, Nat.zero_le _, rfl, Lib.hid HZ.out⟩
        case round =>
          obtain ⟨k, v, hk, rfl, H⟩ := hrel
          obtain ⟨U, hU⟩ : ∃ U, U = wr := ⟨_, rfl⟩
          subst hU
          obtain ⟨Av, cv, rfl⟩ : ∃ Av cv, v = .slice Av k cv := by
            obtain ⟨css, fs, ho, _⟩ := H.out.row
            obtain ⟨Av, cv, e⟩ := own_slice ho
            rw [show (ks.take k).length = k from by simp; omega] at e
            exact ⟨Av, cv, e⟩
          by_cases hlt : k < ks.length
          · have HK := HW.out.2.2.2.2.1
            obtain ⟨gk, ok, cs, rfl, hgk, hr, hat⟩ := HK k _ (List.getElem?_eq_getElem hlt)
            obtain ⟨Ak, ckk, rfl, _⟩ := hat.opens
            have hr' := H.out.chg.range hr (by simp)
            have hkn' : (ks[k]).nodes ≤ 100000 := by have := nodesL_mem (List.getElem_mem hlt); omega
            have hcall := copy_any (ks[k]) Ak ckk U ((hat.kept H.out.chg (by simp)).weak (fun _ _ _ => trivial)) hkn'
            have HC := Lib.hid (And.intro hcall hr')
            clear hcall hat hkn' hr hr' hgk HK
            go_wp2_with (first
              | (refine wpList_load_mid rfl 24 (.tmp 45) rfl gk (ok + k * 4) rfl _ _ HC.out.2 Try.underlying24 rfl szNode ?_)
              | (go_at_call 65; refine HC.out.1.mono ?_; rintro e X2 ⟨A1, c1, rfl, hV, hX⟩; have HX := Lib.hid (And.intro hV hX); have hXa : Chg [] X2 (X2.alloc (.cells #[.int .i64 (Tr.id (ks[k])), .int .i64 (Tr.kind (ks[k])), .string (Tr.text (ks[k])), .slice A1 (Tr.kids (ks[k])).length c1] 24)) := (by with_reducible repeat (first | exact Chg.refl _ _ | apply Chg.alloc | apply Chg.drew | apply Chg.drewN | (refine Chg.setCell ?_ _ _ (by simp)))); have hou := (hX.trans hXa).at H.out.out (by simp); obtain ⟨o0, o1, o2, o3⟩ := blk4 hou; have of3 := blkF hou 3; clear hV hX hXa hou)
              | (have hwr := lt_of_block H.out.out
                 have hXs := HX.out.2.size
                 have hXa : Chg [] X2 ((X2.alloc (.cells #[.int .i64 (Tr.id (ks[k])), .int .i64 (Tr.kind (ks[k])), .string (Tr.text (ks[k])), .slice A1 (Tr.kids (ks[k])).length c1] 24)).alloc (.cells #[.int .i64 (Tr.id (ks[k])), .int .i64 (Tr.kind (ks[k])), .string (Tr.text (ks[k])), .slice A1 (Tr.kids (ks[k])).length c1] 24)) := (by with_reducible repeat (first | exact Chg.refl _ _ | apply Chg.alloc | apply Chg.drew | apply Chg.drewN | (refine Chg.setCell ?_ _ _ (by simp))))
                 obtain ⟨xs, hown, hgrow⟩ := H.out.row.grow (HX.out.2.trans hXa)
                 rw [show (ks.take k).length = k from by simp; omega] at hown hgrow
                 have HG := Lib.hid (And.intro hgrow hXa)
                 clear hgrow hXa
                 refine wpList_append_own_at _ rfl (.tmp 49) (.tmp 51) 22 rfl _ 24 ip _ 4 56 Try.underlying22 HI.out.1 HI.out.2.1 HI.out.2.2.1 HI.out.2.2.2 rfl (by omega) (.slice Av k cv) _ _ rfl hown ⟨X2.heap.size + 1, 0, none⟩ 1 1 _ rfl rfl (fun j u hu => by rw [Addr.add_mid]; exact range_all (heap_new (X2.alloc _) _ (by simp)) j u hu) (HX.out.1.one) (by unfold maxLen; omega) (by omega) (by simp; omega) ?_
                 intro v' X3 hown' hgr _ hat
                 have hrow3 := HG.out.1 _ _ _ X3 v' (HX.out.1.kept HG.out.2 (by simp)) (fun x hx => ⟨by omega, hx.1, Nat.lt_of_lt_of_le hx.2 HG.out.2.size⟩) hown' hgr hat
                 rw [← take_snoc' _ _ hlt] at hrow3
                 have hC3 : Chg (Value.slice Av k cv).ownBlock.toList U X3 := ((HX.out.2.trans HG.out.2).mono (by simp)).grown hgr (by intro k hk; rw [hk]; simp)
                 have hnb : ∀ b, b ∈ (Value.slice Av k cv).ownBlock.toList → U0.heap.size + 1 ≤ b := fun b hb => by have := H.out.row.own b (by simpa using hb); omega
                 have hout3 := hC3.at H.out.out (fun hm => by have := hnb _ hm; omega)
                 have s3 := (blk4 hout3).2.2.2
                 have f3 := blkF hout3 3
                 obtain ⟨A', c', rfl⟩ := own_slice hown'
                 have H3 := Lib.hid (And.intro hrow3 (And.intro hC3 (And.intro hnb hout3)))
                 clear hrow3 hgr hat hown' hC3 hnb hout3 HG)
              | (skip; fail))
            go_roundw
            case rel =>
              have hnb := H3.out.2.2.1
              have hCs : Chg [U0.heap.size] X3 (X3.setCell ⟨U0.heap.size, 3, none⟩ (.slice A' (k + 1) c')) := (Chg.refl _ _).setCell _ _ (by simp)
              have hnb3 : ∀ b, (Value.slice A' (k + 1) c').ownBlock = some b → U0.heap.size + 1 ≤ b := fun b hb => by have := H3.out.1.own b hb; omega
              refine ⟨k + 1, .slice A' (k + 1) c', by omega, by go_num, Lib.hid ⟨?_, ?_, ?_, ?_⟩⟩
              · exact hCs.at (H3.out.2.1.at H.out.res (fun hm => by have := hnb _ hm; have := HU0.out; omega)) (by simp; have := HU0.out; omega)
              · exact heap_setCell_same _ _ 3 _ _ _ H3.out.2.2.2
              · exact (H.out.chg.andThen H3.out.2.1 (fun i hi => .inr (by have := hnb i hi; have := HU0.out; omega))).andThen hCs (fun i hi => .inr (by simp at hi; have := HU0.out; omega))
              · exact H3.out.1.kept hCs (fun b hb => by have := hnb3 b hb; simp; omega) (fun g hg => by simp; omega)
            case measure => simp [intOf]; omega
          · obtain rfl : k = ks.length := by omega
            have hrow := H.out.row
            rw [List.take_of_length_le (Nat.le_refl _)] at hrow
            obtain ⟨A', c', he, hV⟩ := RowV.node ({ t with kids := ks } : Tr) hrow HTx.out
            injection he with hA1 _ hc1
            subst hA1 hc1
            have HV := Lib.hid hV
            clear hrow hV
            obtain ⟨q0, q1, q2, q3⟩ := blk4 H.out.out
            obtain ⟨r0, r1, r2, r3⟩ := blk4 H.out.res
            have f0 := blkF H.out.res 0
            have f1 := blkF H.out.res 1
            have f2 := blkF H.out.res 2
            have f3 := blkF H.out.res 3
            go_wp2_with (skip; fail)
            have hC0 := chg4 U (w.heap.size + 1) (.int .i64 t.id) (.int .i64 t.kind) (.string t.text) (.slice Av ks.length cv)
            have hsz := H.out.chg.size
            have hlt1 := lt_of_block H.out.out
            have hF : ∀ g, U0.heap.size + 1 ≤ g ∨ (Value.slice Av ks.length cv).ownBlock = some g → U0.heap.size + 1 ≤ g := fun g hg => by
              rcases hg with hg | hg
              · omega
              · have := H.out.row.own g hg; omega
            refine bodyPost_ret (v := .agg #[.int .i64 t.id, .int .i64 t.kind, .string t.text, .slice Av ks.length cv]) (results_cell_row rfl _ _ (w.heap.size + 1) _ _ _ _ rfl (set4 H.out.res) Try.underlying24 rfl szNode) rfl ?_
            rw [HR.out]
            have hu0 := HU0.out
            refine ⟨Av, cv, rfl, ?_, H.out.chg.andThen hC0 (fun i hi => by simp at hi; omega)⟩
            exact ((HV.out.bound.weak (F' := fun g => U0.heap.size + 1 ≤ g ∧ g < U.heap.size) (fun g hg => ⟨hF g hg.1, hg.2⟩)).kept hC0 (fun g hg => by simp; omega)).weak (fun g hg => ⟨by omega, Nat.lt_of_lt_of_le hg.2 hC0.size⟩)
      · have hb : (x.id == id) = false := by simpa using hid
        have hpc := par09_any id U0.heap.size x At ct U0 (Nat.le_refl _) ((hatt.kept H0.out.1.chg (by simp)).weak (fun b hb2 _ => Nat.lt_of_lt_of_le hb2 H0.out.1.chg.size))
        have HC := Lib.hid (And.intro hpc (And.intro hrt' (And.intro hatt hid)))
        have HXX := Lib.hid hx
        clear hrt hrt' hgt hpc hatt hid hx
        go_wp2_with (first
          | (refine wpList_load_mid rfl 24 (.tmp 59) rfl gt (ot + k0 * 4) rfl _ _ HC.out.2.1 Try.underlying24 rfl szNode ?_
             ((try dsimp only); (try simp only [Act.put, List.setIfInBounds_toArray, List.set_cons_zero, List.set_cons_succ])))
          | (skip; fail))
        refine HC.out.1.mono ?_
        cases hp : parR id x with
        | none =>
          rintro e X ⟨hX, rfl⟩
          have hPX := H0.out.1.kept (hX.alloc (.cells #[.int .i64 0, .int .i64 0, .string ⟨#[]⟩, .slice none 0 0] 24))
          have hall : ∀ j (hj : j < k0 + 1) (hl : j < t.kids.length), (t.kids[j]).id ≠ id ∧ parR id t.kids[j] = none := fun j hj hl => by
            rcases Nat.lt_or_ge j k0 with h | h
            · exact H0.out.2 j h hl
            · obtain rfl : j = k0 := by omega
              rw [← HXX.out]; exact ⟨HC.out.2.2.2, hp⟩
          have HX := Lib.hid (And.intro hPX hall)
          clear hX hPX hp hall p0 p1 p2 p3
          go_wp2_with (skip; fail)
          go_roundw
          case rel => exact ⟨k0 + 1, by omega, by go_num, Lib.hid HX.out⟩
          case measure => simp [intOf]; omega
        | some yn =>
          obtain ⟨y, n⟩ := yn
          have hrep := repT_in (ks := ks) hlt0 (by rw [← HXX.out]; exact HC.out.2.2.2) (by rw [← HXX.out, hp]; rfl) (fun j hj => H0.out.2 j hj (by omega))
          rw [← HXX.out] at hrep
          rintro e X ⟨hX, A1, c1, rfl, hTy⟩
          obtain ⟨Y, hY⟩ : ∃ Y, Y = X.alloc (.cells #[.int .i64 (Tr.id y), .int .i64 (Tr.kind y), .string (Tr.text y), .slice A1 (Tr.kids y).length c1] 24) := ⟨_, rfl⟩
          have hUY : Chg [] U0 Y := by rw [hY]; exact hX.alloc _
          have hPY := H0.out.1.kept hUY
          clear p0 p1 p2 p3 c0
          obtain ⟨p0, p1, p2, p3⟩ := blk4 hPY.b0
          have hcp := copy_any t (some ⟨gt, ot, none⟩) c Y ((HW.out.2.2.2.2.2.1.kept hPY.chg (by simp)).weak (fun _ _ _ => trivial)) HW.out.2.2.2.2.2.2
          have HX := Lib.hid (And.intro hY (And.intro hPY (And.intro hrep (And.intro hcp hUY))))
          rw [hY] at p0 p1 p2 p3
          clear hX hUY hPY hTy hp hY hrep hcp
          go_wp2_with fail
          rw [← HX.out.1]
          clear p0 p1 p2 p3
          refine HX.out.2.2.2.1.mono ?_
          rintro e Z ⟨A2, c2, rfl, hV2, hZ⟩
          obtain ⟨b2, C2, ci2, Fi2, hA2, hb2, hF2, hri2, hTi2, hFi2, _, _, hset⟩ := (by obtain ⟨A', c', e, _, hkv⟩ := hV2.kidsV; simp only [List.cons.injEq, Value.slice.injEq, true_and, and_true] at e; obtain ⟨rfl, rfl⟩ := e; exact hkv.at hlt0 : ∃ (b : Nat) (C : Array Value) (ci : List Value) (Fi : Nat → Prop), A2 = some ⟨b, 0, none⟩ ∧ Z.heap[b]? = some (.cells C 24 (0, 0)) ∧ (Y.heap.size ≤ b ∧ b < Z.heap.size) ∧ Z.rangeAt b (k0 * 4) ci ∧ TrV Z (t.kids[k0]) ci Fi ∧ (∀ x, Fi x → (Y.heap.size ≤ x ∧ x < Z.heap.size) ∧ x ≠ b) ∧ _ ∧ _ ∧ _)
          subst hA2
          have hfit : k0 * 4 + 4 ≤ C2.size := range_size hb2 hri2 hTi2.four
          obtain ⟨V, hV⟩ : ∃ V, V = Z.alloc (.cells #[.int .i64 (Tr.id t), .int .i64 (Tr.kind t), .string (Tr.text t), .slice (some ⟨b2, 0, none⟩) (Tr.kids t).length c2] 24) := ⟨_, rfl⟩
          have hZV : Chg [] Z V := by rw [hV]; exact (by with_reducible repeat (first | exact Chg.refl _ _ | apply Chg.alloc | apply Chg.drew | apply Chg.drewN | (refine Chg.setCell ?_ _ _ (by simp))))
          have hb14 : V.heap[Z.heap.size]? = some (.cells #[.int .i64 (Tr.id t), .int .i64 (Tr.kind t), .string (Tr.text t), .slice (some ⟨b2, 0, none⟩) (Tr.kids t).length c2] 24 (0, 0)) := by rw [hV]; exact heap_new _ _ rfl
          have hYV : Chg [] Y V := hZ.trans hZV
          have HZ := Lib.hid (And.intro hset (And.intro hb2 (And.intro hF2 (And.intro hFi2 (And.intro hfit (And.intro hZ (And.intro hZV (And.intro hb14 hV))))))))
          have HK0 := Lib.hid (And.intro hlt0 hk0)
          clear hset hb2 hF2 hFi2 hfit hZ hZV hb14 hri2 hTi2 hV2
          go_wp2_with (skip; fail)
          rw [← HZ.out.2.2.2.2.2.2.2.2]
          clear hV
          refine wp_region_M (fun W => W.cell? ⟨Z.heap.size, 3, none⟩ = some (.slice (some ⟨b2, 0, none⟩) t.kids.length c2)) (fun k => [10, 12].contains k) (fun k => [12].contains k) (by kernel_rfl) ?_
          obtain ⟨Q, hQ⟩ : ∃ Q, Q = V.drew := ⟨_, rfl⟩
          rw [← hQ]
          have hVQ : Chg [] V Q := by rw [hQ]; exact (Chg.refl _ _).drew
          clear hQ
          have hPQ := HX.out.2.1.kept (hYV.trans hVQ)
          have hS : Q.cell? ⟨Z.heap.size, 3, none⟩ = some (.slice (some ⟨b2, 0, none⟩) t.kids.length c2) := (blk4 (hVQ.at HZ.out.2.2.2.2.2.2.2.1 (by simp))).2.2.2
          obtain ⟨p0, p1, p2, p3⟩ := blk4 hPQ.b0
          have hri := HW.out.2.2.1 x (by rw [HXX.out]; exact List.getElem_mem HK0.out.1) At ct Q ((HC.out.2.2.1.kept hPQ.chg (by simp)).weak (fun b hb _ => Nat.lt_of_lt_of_le hb hPQ.chg.size)) ((HW.out.2.2.2.2.1.kept hPQ.chg (by simp)).weak (fun b hb _ => Nat.lt_of_lt_of_le hb hPQ.chg.size)) (by have h := HW.out.2.2.2.2.2.2; have := nodesL_mem (List.getElem_mem HK0.out.1); rw [Tr.nodes_eq] at h; rw [HXX.out]; omega)
          have hrq : Q.rangeAt gt (ot + k0 * 4) [.int .i64 (Tr.id x), .int .i64 (Tr.kind x), .string (Tr.text x), .slice At (Tr.kids x).length ct] := (HX.out.2.2.2.2.trans (hYV.trans hVQ)).range HC.out.2.1 (by simp)
          have HQ := Lib.hid (And.intro hVQ (And.intro hPQ (And.intro hri hrq)))
          have wi0 : (0 : Int) ≤ (k0 : Int) := by omega
          have wi1 : (k0 : Int) < (t.kids.length : Int) := by omega
          clear hVQ hPQ hri hrq hYV hk0
          ((try dsimp only); (try simp only [Act.put, List.setIfInBounds_toArray, List.set_cons_zero, List.set_cons_succ]))
          refine M_pure (i := 0) (v := ?_) rfl (by kernel_rfl) (by kernel_rfl) (by kernel_rfl) (fun _ _ _ h => h) (by rfl) ?hy ?_; (case hy => (intro w; go_simp; with_reducible rfl)); ((try dsimp only); (try simp only [Act.put, List.setIfInBounds_toArray, List.set_cons_zero, List.set_cons_succ]))
          refine M_semi (i := 1) (v := ?_) rfl (by kernel_rfl) (by kernel_rfl) (by kernel_rfl) (by kernel_rfl) (fun _ _ _ h => h) (by rfl) hS ?hy ?_; (case hy => (intro w hS; go_simp; with_reducible rfl)); ((try dsimp only); (try simp only [Act.put, List.setIfInBounds_toArray, List.set_cons_zero, List.set_cons_succ]))
          refine M_pure (i := 2) (v := ?_) rfl (by kernel_rfl) (by kernel_rfl) (by kernel_rfl) (fun _ _ _ h => h) (by rfl) ?hy ?_; (case hy => (intro w; go_simp; with_reducible rfl)); ((try dsimp only); (try simp only [Act.put, List.setIfInBounds_toArray, List.set_cons_zero, List.set_cons_succ]))
          refine M_pure (i := 3) (v := ?_) rfl (by kernel_rfl) (by kernel_rfl) (by kernel_rfl) (fun _ _ _ h => h) (by rfl) ?hy ?_; (case hy => (intro w; go_simp; with_reducible rfl)); ((try dsimp only); (try simp only [Act.put, List.setIfInBounds_toArray, List.set_cons_zero, List.set_cons_succ]))
          refine M_take (i := 4) (v := ?_) rfl (by kernel_rfl) (by kernel_rfl) (by kernel_rfl) (by kernel_rfl) (fun _ _ _ h => h) (by rfl) ?hy ?_; (case hy => (go_simp; with_reducible rfl)); ((try dsimp only); (try simp only [Act.put, List.setIfInBounds_toArray, List.set_cons_zero, List.set_cons_succ]))
          refine M_pure (i := 5) (v := ?_) rfl (by kernel_rfl) (by kernel_rfl) (by kernel_rfl) (fun _ _ _ h => h) (by rfl) ?hy ?_; (case hy => (intro w; go_simp; with_reducible rfl)); ((try dsimp only); (try simp only [Act.put, List.setIfInBounds_toArray, List.set_cons_zero, List.set_cons_succ]))
          refine M_pure (i := 6) (v := ?_) rfl (by kernel_rfl) (by kernel_rfl) (by kernel_rfl) (fun _ _ _ h => h) (by rfl) ?hy ?_; (case hy => (intro w; go_simp; with_reducible rfl)); ((try dsimp only); (try simp only [Act.put, List.setIfInBounds_toArray, List.set_cons_zero, List.set_cons_succ]))
          refine M_take (i := 7) rfl (by kernel_rfl) (by kernel_rfl) (by kernel_rfl) (by kernel_rfl) (fun _ _ _ h => h) (by rfl) (exec_load_mid 24 (.tmp 75) rfl gt (ot + k0 * 4) rfl _ _ HQ.out.2.2.2 Try.underlying24 rfl szNode) ?_; ((try dsimp only); (try simp only [Act.put, List.setIfInBounds_toArray, List.set_cons_zero, List.set_cons_succ]))
          refine M_pure (i := 8) (v := ?_) rfl (by kernel_rfl) (by kernel_rfl) (by kernel_rfl) (fun _ _ _ h => h) (by rfl) ?hy ?_; (case hy => (intro w; go_simp; with_reducible rfl)); ((try dsimp only); (try simp only [Act.put, List.setIfInBounds_toArray, List.set_cons_zero, List.set_cons_succ]))
          refine M_pure (i := 9) (v := ?_) rfl (by kernel_rfl) (by kernel_rfl) (by kernel_rfl) (fun _ _ _ h => h) (by rfl) ?hy ?_; (case hy => (intro w; go_simp; with_reducible rfl)); ((try dsimp only); (try simp only [Act.put, List.setIfInBounds_toArray, List.set_cons_zero, List.set_cons_succ]))
          refine M_eff (i := 10) rfl (by kernel_rfl) (by rfl) ?_
          clear p0 p1 p2 p3
          go_wp2_with fail
          refine HQ.out.2.2.1.mono ?_
          obtain ⟨r, hr⟩ : ∃ r, r = repT id ks x := ⟨_, rfl⟩
          rw [← hr]
          have HRr := Lib.hid hr
          clear hr
          rintro e X2 ⟨A3, c3, rfl, hV3, hX2⟩
          have hS2 : X2.cell? ⟨Z.heap.size, 3, none⟩ = some (.slice (some ⟨b2, 0, none⟩) t.kids.length c2) := hX2.cell hS (by simp)
          have HX2 := Lib.hid (And.intro hV3 hX2)
          clear hV3 hX2 hS
          go_wp2_with fail
          refine ⟨hS2, ?_⟩
          clear hS2
          ((try dsimp only); (try simp only [Act.put, List.setIfInBounds_toArray, List.set_cons_zero, List.set_cons_succ]))
          refine M_pure (i := 11) (v := ?_) rfl (by kernel_rfl) (by kernel_rfl) (by kernel_rfl) (fun _ _ _ h => h) (by rfl) ?hy ?_; (case hy => (intro w; go_simp; with_reducible rfl)); ((try dsimp only); (try simp only [Act.put, List.setIfInBounds_toArray, List.set_cons_zero, List.set_cons_succ]))
          have hbX2 := HX2.out.2.at (HQ.out.1.at (HZ.out.2.2.2.2.2.2.1.at HZ.out.2.1 (by simp)) (by simp)) (by simp)
          have HB2 := Lib.hid hbX2
          clear hbX2
          refine M_brk (i := 12) rfl (by kernel_rfl) (by rfl) (by rfl) ?_
          go_wp2_with (first
            | (refine wpList_put_node rfl (.tmp 80) (.tmp 79) rfl b2 (k0 * 4) rfl [.int .i64 (Tr.id r), .int .i64 (Tr.kind r), .string (Tr.text r), .slice A3 (Tr.kids r).length c3] rfl C2 HB2.out rfl HZ.out.2.2.2.2.1 (one4 HX2.out.1.toC) ?_)
            | fail)
          ((try dsimp only [EffQ]); (try simp only [Act.put, List.setIfInBounds_toArray, List.set_cons_zero, List.set_cons_succ]))
          refine M_done (by kernel_rfl) ?_ _
          obtain ⟨X3, hX3⟩ : ∃ X3, X3 = X2.setRow b2 (put4 C2 (k0 * 4) [.int .i64 (Tr.id r), .int .i64 (Tr.kind r), .string (Tr.text r), .slice A3 (Tr.kids r).length c3]) := ⟨_, rfl⟩
          rw [← hX3]
          have hc3 : Chg [b2] X2 X3 := by rw [hX3]; exact setRow_chg _ _ _
          have hZX2 : Chg [] Z X2 := HZ.out.2.2.2.2.2.2.1.trans (HQ.out.1.trans HX2.out.2)
          have hF2 := HZ.out.2.2.1
          have hfr : Fr b2 (k0 * 4) Fi2 Z X3 := (Fr.of_chg hZX2 hF2.2).trans (by rw [hX3]; exact Fr.put4 HB2.out rfl HZ.out.2.2.2.2.1)
          have hr3 : X3.rangeAt b2 (k0 * 4) [.int .i64 (Tr.id r), .int .i64 (Tr.kind r), .string (Tr.text r), .slice A3 (Tr.kids r).length c3] := by rw [hX3]; exact put4_range HB2.out rfl HZ.out.2.2.2.2.1
          have hVQs : Z.heap.size < Q.heap.size := by have := HQ.out.1.size; have := lt_of_block HZ.out.2.2.2.2.2.2.2.1; omega
          have hV3 : TrV X3 r [.int .i64 (Tr.id r), .int .i64 (Tr.kind r), .string (Tr.text r), .slice A3 (Tr.kids r).length c3] (fun g => Q.heap.size ≤ g ∧ g < X2.heap.size) := HX2.out.1.kept hc3 (fun g hg => by simp; omega)
          have hkv := HZ.out.1 X3 r _ _ hfr hr3 hV3 (fun y hy => ⟨.inr (fun h => by omega), by omega⟩)
          have hb14 := hc3.at ((HQ.out.1.trans HX2.out.2).at HZ.out.2.2.2.2.2.2.2.1 (by simp)) (by simp; omega)
          have hb1 := hc3.at ((HQ.out.2.1.kept HX2.out.2).b1) (by simp; have := lt_of_block H0.out.1.b1; have := HX.out.2.2.2.2.size; omega)
          have hwX3 : Chg [] w X3 := (HQ.out.2.1.chg.trans HX2.out.2).andThen hc3 (by have := HX.out.2.1.chg.size; simp; omega)
          clear hX3
          obtain ⟨q0, q1, q2, q3⟩ := blk4 hb14
          obtain ⟨r0, r1, r2, r3⟩ := blk4 hb1
          have f0 := blkF hb1 0
          have f1 := blkF hb1 1
          have f2 := blkF hb1 2
          have f3 := blkF hb1 3
          have H3 := Lib.hid (And.intro hkv (And.intro hb1 (And.intro hwX3 (And.intro hZX2.size hc3.size))))
          have HVQ := Lib.hid (And.intro hVQs hF2)
          clear hc3 hZX2 hfr hr3 hV3 hkv hb14 hb1 hwX3 hVQs hF2
          go_wp2_with (skip; fail)
          have hc4 := chg4 X3 (w.heap.size + 1) (.int .i64 t.id) (.int .i64 t.kind) (.string t.text) (.slice (some ⟨b2, 0, none⟩) t.kids.length c2)
          have hl1 := lt_of_block H0.out.1.b1
          have hs4 := hc4.size
          have hu := HX.out.2.2.2.2.size
          have hw0 := HX.out.2.1.chg.size
          have hVQs := HVQ.out
          have hs3 := H3.out.2.2.2
          have hb2l := HZ.out.2.2.1
          have hX2s := HX2.out.2.size
          refine bodyPost_ret (v := .agg #[.int .i64 t.id, .int .i64 t.kind, .string t.text, .slice (some ⟨b2, 0, none⟩) t.kids.length c2]) (results_cell_row rfl _ _ (w.heap.size + 1) _ _ _ _ rfl (set4 H3.out.2.1) Try.underlying24 rfl szNode) rfl ?_
          rw [HX.out.2.2.1, ← HRr.out]
          have hcl := KidsV.close ({ t with kids := t.kids.set k0 r } : Tr) H3.out.1 HTx.out
          refine ⟨some ⟨b2, 0, none⟩, c2, by simp only [List.length_set], ?_, H3.out.2.2.1.andThen hc4 (by simp)⟩
          simp only [List.length_set] at hcl ⊢
          exact (hcl.kept hc4 (fun g hg => by simp; omega)).weak (fun g hg => ⟨by omega, by omega⟩)
    · obtain rfl : k0 = t.kids.length := by omega
      have hrep := repT_none (id := id) (ks := ks) (t := t) (fun j hj => H0.out.2 j hj hj)
      have hcp := copy_any t A c U0 ((HW.out.2.2.2.2.2.1.kept H0.out.1.chg (by simp)).weak (fun _ _ _ => trivial)) HW.out.2.2.2.2.2.2
      have HR := Lib.hid (And.intro hrep hcp)
      clear hrep hcp
      go_wp2_with fail
      refine HR.out.2.mono ?_
      rintro e Z ⟨A2, c2, rfl, hV2, hZ⟩
      have z1 := hZ.at H0.out.1.b1 (by simp)
      obtain ⟨r0, r1, r2, r3⟩ := blk4 z1
      have f0 := blkF z1 0
      have f1 := blkF z1 1
      have f2 := blkF z1 2
      have f3 := blkF z1 3
      have HZ := Lib.hid (And.intro hV2 (And.intro hZ z1))
      clear hV2 hZ z1 p0 p1 p2 p3
      go_wp2_with (skip; fail)
      have hc4 := chg4 Z (w.heap.size + 1) (.int .i64 t.id) (.int .i64 t.kind) (.string t.text) (.slice A2 t.kids.length c2)
      have hl1 := lt_of_block H0.out.1.b1
      have hs4 := hc4.size
      refine bodyPost_ret (v := .agg #[.int .i64 (Tr.id t), .int .i64 (Tr.kind t), .string (Tr.text t), .slice A2 (Tr.kids t).length c2]) (results_cell_row rfl _ _ (w.heap.size + 1) _ _ _ _ rfl (set4 HZ.out.2.2) Try.underlying24 rfl szNode) rfl ?_
      rw [HR.out.1]
      refine ⟨A2, c2, rfl, ?_, (H0.out.1.chg.trans HZ.out.2.1).andThen hc4 (by simp)⟩
      exact (HZ.out.1.kept hc4 (fun g hg => by simp; omega)).weak (fun g hg => ⟨by omega, by omega⟩)
end Go.Proofs.Ytofjocjljbkjgaa
namespace Go.Proofs.Ytofjocjljbkjgaa
open Go.RowKit
mutual
theorem parR_nodes (id : Int) : ∀ (t pn : Tr) (k : Nat), parR id t = some (pn, k) → pn.nodes ≤ t.nodes
  | ⟨i, kd, x, cs⟩, pn, k, h => by
    rw [parR] at h
    rcases parRL_nodes id _ cs 0 pn k h with rfl | h
    · exact Nat.le_refl _
    · rw [Tr.nodes_eq ⟨i, kd, x, cs⟩]; show pn.nodes ≤ 1 + nodesL cs; omega
theorem parRL_nodes (id : Int) (t : Tr) : ∀ (cs : List Tr) (n : Nat) (pn : Tr) (k : Nat), parRL id t cs n = some (pn, k) → pn = t ∨ pn.nodes ≤ nodesL cs
  | [], n, pn, k, h => by simp [parRL] at h
  | c :: cs, n, pn, k, h => by
    rw [parRL] at h
    by_cases hc : c.id = id
    · rw [if_pos hc] at h; simp only [Option.some.injEq, Prod.mk.injEq] at h; exact .inl h.1.symm
    · rw [if_neg hc] at h
      cases hp : parR id c with
      | some r =>
        rw [hp] at h
        simp only [Option.some.injEq] at h
        subst h
        have := parR_nodes id c pn k hp
        exact .inr (by simp only [nodesL]; omega)
      | none =>
        rw [hp] at h
        rcases parRL_nodes id t cs (n + 1) pn k h with h | h
        · exact .inl h
        · exact .inr (by simp only [nodesL]; omega)
end
theorem nodesL_erase : ∀ (ks : List Tr) (k : Nat), nodesL (ks.eraseIdx k) ≤ nodesL ks
  | [], k => by simp
  | c :: cs, 0 => by simp [nodesL]
  | c :: cs, k + 1 => by simp only [List.eraseIdx_cons_succ, nodesL]; have := nodesL_erase cs k; omega
theorem erase_take {α : Type} {l : List α} {i k : Nat} (hi : i < l.length) : (l.take (i + 1)).eraseIdx k = if i = k then (l.take i).eraseIdx k else (l.take i).eraseIdx k ++ [l[i]] := by
  rw [List.take_succ_eq_append_getElem hi]
  have hl : (l.take i).length = i := by simp; omega
  by_cases h : i = k
  · subst h
    rw [if_pos rfl, List.eraseIdx_append_of_length_le (by omega), hl, Nat.sub_self, List.eraseIdx_cons_zero, List.append_nil, List.eraseIdx_of_length_le (by omega)]
  · rw [if_neg h]
    rcases Nat.lt_or_ge k i with h2 | h2
    · rw [List.eraseIdx_append_of_lt_length (by omega)]
    · rw [List.eraseIdx_of_length_le (by simp; omega), List.eraseIdx_of_length_le (by omega)]
structure Wo (w : World) (t : Tr) (A : Option Addr) (c : Nat) (pn : Tr) (A1 : Option Addr) (c1 b5 : Nat) (W : World) : Prop where
  pr : PrB w t A c W
  b5 : W.heap[b5]? = some (.cells #[.int .i64 (Tr.id pn), .int .i64 (Tr.kind pn), .string (Tr.text pn), .slice A1 (Tr.kids pn).length c1] 24 (0, 0))
set_option maxHeartbeats 4000000 in
set_option maxRecDepth 100000 in
theorem without_any (t : Tr) (A : Option Addr) (c : Nat) (id : Int) (pn : Tr) (k : Nat) (w : World) (hT : TrC (fun b => b < w.heap.size) w t [.int .i64 (Tr.id t), .int .i64 (Tr.kind t), .string (Tr.text t), .slice A (Tr.kids t).length c]) (hN : t.nodes ≤ 100000) (hp : parR id t = some (pn, k)) :
    Calls Try.prog 75 #[.agg #[.int .i64 (Tr.id t), .int .i64 (Tr.kind t), .string (Tr.text t), .slice A (Tr.kids t).length c], .int .i64 id] w (NewPost (repT id (pn.kids.eraseIdx k) t) w) := by
  obtain ⟨W, hW⟩ : ∃ W, W = (w.alloc (.cells #[.int .i64 (Tr.id t), .int .i64 (Tr.kind t), .string (Tr.text t), .slice A (Tr.kids t).length c] 24)).alloc (.cells #[.int .i64 0, .int .i64 0, .string ⟨#[]⟩, .slice none 0 0] 24) := ⟨_, rfl⟩
  have hB : PrB w t A c W := by rw [hW]; exact PrB.new _ _ _ _
  obtain ⟨p0, p1, p2, p3⟩ := blk4 hB.b0
  have hpc := par09_any id w.heap.size t A c W hB.chg.size (hT.kept hB.chg (by simp))
  rw [hp] at hpc
  have hpn := parR_nodes id t pn k hp
  have HW := Lib.hid (And.intro hW (And.intro hB (And.intro hpc (And.intro hT (And.intro hN hpn)))))
  rw [hW] at p0 p1 p2 p3
  clear hW hB hpc hT hN hp hpn
  go_enter Try.func75, Try.ntmps75
  go_wp2_with fail
  rw [← HW.out.1]
  clear p0 p1 p2 p3
  refine HW.out.2.2.1.mono ?_
  rintro e X ⟨hX, A1, c1, rfl, hTp⟩
  obtain ⟨Y, hY⟩ : ∃ Y, Y = X.alloc (.cells #[.int .i64 (Tr.id pn), .int .i64 (Tr.kind pn), .string (Tr.text pn), .slice A1 (Tr.kids pn).length c1] 24) := ⟨_, rfl⟩
  have hXY : Chg [] X Y := by rw [hY]; exact (by with_reducible repeat (first | exact Chg.refl _ _ | apply Chg.alloc | apply Chg.drew | apply Chg.drewN | (refine Chg.setCell ?_ _ _ (by simp))))
  obtain ⟨b5, hb5⟩ : ∃ b5, b5 = X.heap.size := ⟨_, rfl⟩
  have hWo : Wo w t A c pn A1 c1 b5 Y := ⟨HW.out.2.1.kept (hX.trans hXY), by rw [hY, hb5]; exact heap_new _ _ rfl⟩
  obtain ⟨A', c', hcs, hlc, hcm, htxt, hKp⟩ := (hTp.kept hXY (by simp)).opens
  simp only [List.cons.injEq, Value.slice.injEq, true_and, and_true] at hcs
  obtain ⟨rfl, rfl⟩ := hcs
  have hlen : pn.kids.length ≤ 100000 := by have := nodesL_len pn.kids; have h1 := HW.out.2.2.2.2.1; have h2 := HW.out.2.2.2.2.2; rw [Tr.nodes_eq] at h2; omega
  have HX := Lib.hid (And.intro hY (And.intro hWo (And.intro hKp hb5)))
  have hwY : w.heap.size ≤ Y.heap.size := hWo.pr.chg.size
  have hb5w : w.heap.size ≤ b5 := by have := HW.out.2.1.chg.size; have := hX.size; omega
  clear hY hXY hWo hKp hX hTp hlc hcm htxt hb5
  go_wp2_with (skip; fail)
  rw [← HX.out.1, ← HX.out.2.2.2]
  go_loopw [8, 9] (fun v i wr => ∃ (j : Nat) (vr : Value), j ≤ pn.kids.length ∧ vr = v ∧ i = .int .i64 j ∧ Hid (Wo w t A c pn A1 c1 b5 wr ∧ RowN wr (fun b => b < w.heap.size) w.heap.size vr ((pn.kids.take j).eraseIdx k) ∧ (∀ b, vr.ownBlock = some b → Y.heap.size ≤ b) ∧ Chg [] Y wr)) (fun _ i _ => pn.kids.length - (intOf i).toNat)
  case atStart => exact ⟨0, _, Nat.zero_le _, rfl, rfl, Lib.hid ⟨HX.out.2.1, by simp; exact RowN.nil _ _ _, fun b hb => by simp [Value.ownBlock] at hb, Chg.refl _ _⟩⟩
  case round =>
    obtain ⟨j, vr, hj, rfl, rfl, H⟩ := hrel
    obtain ⟨U, hU⟩ : ∃ U, U = wr := ⟨_, rfl⟩
    subst hU
    obtain ⟨p0, p1, p2, p3⟩ := blk4 H.out.1.b5
    by_cases hlt : j < pn.kids.length
    · obtain ⟨gk, ok, cs, rfl, hgk, hr, hat⟩ := HX.out.2.2.1 j _ (List.getElem?_eq_getElem hlt)
      obtain ⟨Ak, ckk, rfl, _⟩ := hat.opens
      have her := erase_take (k := k) hlt
      obtain ⟨x, hx⟩ : ∃ x, x = pn.kids[j] := ⟨_, rfl⟩
      rw [← hx] at hr hat her
      by_cases hjk : j = k
      · have hb : ((j : Int) != (k : Int)) = false := by simp [hjk]
        rw [if_pos hjk] at her
        have HE := Lib.hid her
        clear hr hat her hx hjk hgk
        go_wp2_with (skip; fail)
        go_roundw
        case rel => exact ⟨j + 1, vr, by omega, rfl, by go_num, Lib.hid ⟨H.out.1, by rw [HE.out]; exact H.out.2.1, H.out.2.2⟩⟩
        case measure => simp [intOf]; omega
      · have hb : ((j : Int) != (k : Int)) = true := by simp; omega
        rw [if_neg hjk] at her
        have hr' := H.out.2.2.2.range hr (by simp)
        obtain ⟨Z, hZ⟩ : ∃ Z, Z = U.alloc (.cells #[.int .i64 (Tr.id x), .int .i64 (Tr.kind x), .string (Tr.text x), .slice Ak (Tr.kids x).length ckk] 24) := ⟨_, rfl⟩
        have hUZ : Chg [] U Z := by rw [hZ]; exact (by with_reducible repeat (first | exact Chg.refl _ _ | apply Chg.alloc | apply Chg.drew | apply Chg.drewN | (refine Chg.setCell ?_ _ _ (by simp))))
        have hsrc : SrcN (fun b => b < w.heap.size ∧ b < Z.heap.size ∧ vr.ownBlock ≠ some b) Z (some ⟨U.heap.size, 0, none⟩) [x] := SrcN.one (cs := [.int .i64 (Tr.id x), .int .i64 (Tr.kind x), .string (Tr.text x), .slice Ak (Tr.kids x).length ckk]) (by rw [hZ]; exact heap_new _ _ rfl) ((hat.kept (H.out.2.2.2.trans hUZ) (by simp)).weak (fun b hb hb2 => ⟨hb, hb2, fun e => by have := H.out.2.2.1 b e; omega⟩))
        have hkl : ((pn.kids.take j).eraseIdx k).length ≤ 1000000 := by have := List.length_eraseIdx_le (l := pn.kids.take j) (i := k); simp at this; omega
        have hUs := H.out.2.2.2.size
        have HE := Lib.hid (And.intro her (And.intro hr' (And.intro hZ (And.intro hUZ (And.intro hsrc hkl)))))
        clear hr hat her hx hjk hgk hr' hZ hUZ hsrc hkl
        go_wp2_with (first
          | (refine wpList_load_mid rfl 24 (.tmp 31) rfl gk (ok + j * 4) rfl _ _ HE.out.2.1 Try.underlying24 rfl szNode ?_)
          | (rw [← HE.out.2.2.1]
             refine wpList_append_nodes rfl (.tmp 27) (.tmp 33) rfl (fun b => b < w.heap.size) w.heap.size vr ((pn.kids.take j).eraseIdx k) rfl H.out.2.1 HE.out.2.2.2.1 (by simp) (by omega) (some ⟨U.heap.size, 0, none⟩) 1 1 [x] rfl rfl HE.out.2.2.2.2.1 HE.out.2.2.2.2.2 (by simp) ?_
             intro v2 Z2 hr2 hc2 hat2
             rw [← HE.out.1] at hr2
             have H2 := Lib.hid (And.intro hr2 (And.intro hc2 hat2))
             clear hr2 hc2 hat2)
          | (skip; fail))
        go_roundw
        case rel =>
          have hzs := HE.out.2.2.2.1.size
          have hcU : Chg vr.ownBlock.toList U Z2 := (HE.out.2.2.2.1.mono (by simp)).trans H2.out.2.1
          have hcY : Chg [] Y Z2 := H.out.2.2.2.andThen hcU (fun i hi => .inr (H.out.2.2.1 i (by simpa using hi)))
          refine ⟨j + 1, v2, by omega, rfl, by go_num, Lib.hid ⟨⟨⟨hcY.at HX.out.2.1.pr.b0 (by simp), hcY.at HX.out.2.1.pr.b1 (by simp), HX.out.2.1.pr.chg.trans hcY⟩, hcY.at HX.out.2.1.b5 (by simp)⟩, H2.out.1, fun b hb => ?_, hcY⟩⟩
          rcases H2.out.2.2 with h | h
          · rw [h] at hb; exact H.out.2.2.1 b hb
          · rw [h] at hb; injection hb with hb; omega
        case measure => simp [intOf]; omega
    · obtain rfl : j = pn.kids.length := by omega
      have hrow := H.out.2.1
      rw [List.take_of_length_le (Nat.le_refl _)] at hrow
      obtain ⟨ks, hks⟩ : ∃ ks, ks = pn.kids.eraseIdx k := ⟨_, rfl⟩
      rw [← hks] at hrow
      obtain ⟨Ar, cr, rfl⟩ := hrow.slice
      obtain ⟨_, hcl, hcm, hKr⟩ := hrow.toC
      have hkn : nodesL ks ≤ 100000 := by have h1 := nodesL_erase pn.kids k; have h2 := HW.out.2.2.2.2.1; have h3 := HW.out.2.2.2.2.2; rw [Tr.nodes_eq] at h3; rw [hks]; omega
      have hrp := replaced_any id ks Ar cr hkn hcl hcm t A c U ((HW.out.2.2.2.1.kept H.out.1.pr.chg (by simp)).weak (fun b hb _ => Nat.lt_of_lt_of_le hb H.out.1.pr.chg.size)) hKr HW.out.2.2.2.2.1
      obtain ⟨q0, q1, q2, q3⟩ := blk4 H.out.1.pr.b0
      have HR := Lib.hid (And.intro hrp hks)
      clear hrow hks hcl hcm hKr hkn hrp
      go_wp2_with fail
      clear q0 q1 q2 q3 p0 p1 p2 p3
      refine HR.out.1.mono ?_
      obtain ⟨r, hr⟩ : ∃ r, r = repT id ks t := ⟨_, rfl⟩
      rw [← hr]
      have HRr := Lib.hid hr
      clear hr
      rintro e Z ⟨A3, c3, rfl, hV3, hZ⟩
      have z1 := hZ.at H.out.1.pr.b1 (by simp)
      obtain ⟨r0, r1, r2, r3⟩ := blk4 z1
      have f0 := blkF z1 0
      have f1 := blkF z1 1
      have f2 := blkF z1 2
      have f3 := blkF z1 3
      have HZ := Lib.hid (And.intro hV3 (And.intro hZ z1))
      clear hV3 hZ z1
      go_wp2_with (skip; fail)
      have hc4 := chg4 Z (w.heap.size + 1) (.int .i64 r.id) (.int .i64 r.kind) (.string r.text) (.slice A3 r.kids.length c3)
      have hl1 := lt_of_block H.out.1.pr.b1
      have hs4 := hc4.size
      have hUw := H.out.1.pr.chg.size
      refine bodyPost_ret (v := .agg #[.int .i64 (Tr.id r), .int .i64 (Tr.kind r), .string (Tr.text r), .slice A3 (Tr.kids r).length c3]) (results_cell_row rfl _ _ (w.heap.size + 1) _ _ _ _ rfl (set4 HZ.out.2.2) Try.underlying24 rfl szNode) rfl ?_
      rw [← HR.out.2, ← HRr.out]
      refine ⟨A3, c3, rfl, ?_, (H.out.1.pr.chg.trans HZ.out.2.1).andThen hc4 (by simp)⟩
      exact (HZ.out.1.kept hc4 (fun g hg => by simp; omega)).weak (fun g hg => ⟨by omega, by omega⟩)
end Go.Proofs.Ytofjocjljbkjgaa
namespace Go.Proofs.Ytofjocjljbkjgaa
open Go.RowKit
theorem subT_of_path {id : Int} {t n : Tr} {p : List Nat} (hp : t.path id = some p) (hn : Tr.at? p t = some n) : t.subT id = some n := by unfold Tr.subT; rw [hp]; exact hn
theorem path_cases (id : Int) (t : Tr) : (t.path id = none ∧ t.subT id = none) ∨ ∃ p n, t.path id = some p ∧ Tr.at? p t = some n ∧ t.subT id = some n ∧ n.id = id := by
  cases hp : t.path id with
  | none => exact .inl ⟨rfl, by unfold Tr.subT; rw [hp]⟩
  | some p =>
    obtain ⟨n, hn, hi⟩ := Tr.path_at id t p hp
    exact .inr ⟨p, n, rfl, hn, subT_of_path hp hn, hi⟩
theorem makes_kids {id : Int} {t n : Tr} {p : List Nat} (ks : List Tr) (hp : t.path id = some p) (hn : Tr.at? p t = some n) : (makesT id ks n.text t false).1 = Tr.upd p t { n with kids := ks } := by
  rw [makesT_path id ks n.text t n p hp hn]
theorem insertT_ref (t : Tr) (par pl : Int) (sub : Tr) : insertT t par pl sub = match t.subT par with
    | none => .error 4
    | some n => if 0 ≤ pl ∧ pl ≤ n.kids.length then if (∀ i ∈ sub.ids, InRange i) then if FreshIds t.ids sub.ids then .ok (makesT par (insAt n.kids pl.toNat sub) n.text t false).1 else .error 60 else .error 2 else .error 2 := by
  unfold insertT
  rcases path_cases par t with ⟨h1, h2⟩ | ⟨p, n, h1, h2, h3, _⟩
  · rw [h1, h2]
  · rw [h1, h3]
    simp only []
    rw [h2]
    simp only [makes_kids _ h1 h2]
theorem textT_ref (t : Tr) (id : Int) (tx : ByteArray) : textT t id tx = match t.subT id with
    | none => .error 4
    | some n => .ok (makesT id n.kids tx t false).1 := by
  unfold textT
  rcases path_cases id t with ⟨h1, h2⟩ | ⟨p, n, h1, h2, h3, _⟩
  · rw [h1, h2]
  · rw [h1, h3]
    simp only []
    rw [h2]
    simp only []
    rw [makesT_path id n.kids tx t n p h1 h2]
theorem out_some {id : Int} {t n : Tr} (h : t.subT id = some n) (h0 : t.id ≠ id) : ∃ r pn k, t.out id = some (n, r) ∧ parR id t = some (pn, k) ∧ k < pn.kids.length ∧ repT id (pn.kids.eraseIdx k) t = r := by
  rcases path_cases id t with ⟨h1, h2⟩ | ⟨p, m, h1, h2, h3, _⟩
  · rw [h2] at h; cases h
  · have hs := Tr.path_out id t (by rw [h1]; rfl) h0
    have hpar := out_par id t
    cases ho : t.out id with
    | none => rw [ho] at hs; cases hs
    | some yr =>
      obtain ⟨y, r⟩ := yr
      rw [ho] at hpar
      simp only [] at hpar
      obtain ⟨pn, k, e1, e2, e3⟩ := hpar
      obtain ⟨q, g1, g2⟩ := Tr.out_path id t y r ho h0
      rw [h1] at g1
      cases g1
      rw [h3] at h
      cases h
      rw [h2] at g2
      cases g2
      exact ⟨r, pn, k, rfl, e1, e2, e3⟩
theorem deleteT_ref (t : Tr) (id : Int) : deleteT t id = match t.subT id with
    | none => .error 4
    | some _ => if t.id = id then .error 90 else match t.out id with | none => .error 1 | some (_, r) => .ok r := by
  unfold deleteT
  rcases path_cases id t with ⟨h1, h2⟩ | ⟨p, n, h1, h2, h3, _⟩
  · rw [h1, h2]
  · rw [h1, h3]; rfl
theorem moveT_ref (t : Tr) (id par pl : Int) : moveT t id par pl = match t.subT id with
    | none => .error 4
    | some x => match t.subT par with
      | none => .error 4
      | some _ => if t.id = id then .error 90 else match x.subT par with
        | some _ => .error 91
        | none => match t.out id with
          | none => .error 1
          | some (_, r) => match r.subT par with
            | none => .error 2
            | some n => if 0 ≤ pl ∧ pl ≤ n.kids.length then .ok (makesT par (insAt n.kids pl.toNat x) n.text r false).1 else .error 2 := by
  unfold moveT
  rcases path_cases id t with ⟨h1, h2⟩ | ⟨p, x, h1, h2, h3, _⟩
  · rw [h1, h2]
  · rw [h1, h3]
    rcases path_cases par t with ⟨g1, g2⟩ | ⟨p2, z, g1, g2, g3, _⟩
    · rw [g1, g2]
    · rw [g1, g3]
      simp only []
      by_cases h0 : t.id = id
      · rw [if_pos h0, if_pos h0]
      · rw [if_neg h0, if_neg h0, h2]
        simp only []
        obtain ⟨r, pn, k, e1, _⟩ := out_some h3 h0
        rcases path_cases par x with ⟨i1, i2⟩ | ⟨p3, z3, i1, _, i3, _⟩
        · rw [i1, i2, e1]
          simp only [Option.isSome_none, Bool.false_eq_true, if_false]
          rcases path_cases par r with ⟨j1, j2⟩ | ⟨p4, n, j1, j2, j3, _⟩
          · rw [j1, j2]
          · rw [j1, j3]
            simp only []
            rw [j2]
            simp only [makes_kids _ j1 j2]
        · rw [i1, i3]
          simp only [Option.isSome_some, if_true]
end Go.Proofs.Ytofjocjljbkjgaa
namespace Go.Proofs.Ytofjocjljbkjgaa
open Go.RowKit
mutual
theorem walk_deep : ∀ (t : Tr) (d : Int) (x : Tr) (e : Int), (x, e) ∈ t.walk d → e + 1 ≤ d + t.nodes ∧ d ≤ e
  | ⟨i, k, s, ks⟩, d, x, e, h => by
    unfold Tr.walk at h
    rcases List.mem_cons.1 h with h | h
    · cases h
      show d + 1 ≤ d + ((1 + nodesL ks : Nat) : Int) ∧ d ≤ d
      omega
    · have := walkL_deep ks (d + 1) x e h
      show e + 1 ≤ d + ((1 + nodesL ks : Nat) : Int) ∧ _
      omega
theorem walkL_deep : ∀ (ks : List Tr) (d : Int) (x : Tr) (e : Int), (x, e) ∈ walkL ks d → e + 1 ≤ d + nodesL ks ∧ d ≤ e
  | [], d, x, e, h => by simp [walkL] at h
  | k :: ks, d, x, e, h => by
    unfold walkL at h
    unfold nodesL
    rcases List.mem_append.1 h with h | h
    · have := walk_deep k d x e h; omega
    · have := walkL_deep ks d x e h; omega
end
set_option maxHeartbeats 4000000 in
set_option maxRecDepth 100000 in
theorem great01_any (t : Tr) (A : Option Addr) (c : Nat) (w : World) (hT : TrC (fun g => g < w.heap.size) w t [.int .i64 (Tr.id t), .int .i64 (Tr.kind t), .string (Tr.text t), .slice A (Tr.kids t).length c]) : Calls Try.prog 40 #[.agg #[.int .i64 (Tr.id t), .int .i64 (Tr.kind t), .string (Tr.text t), .slice A (Tr.kids t).length c]] w fun e w' => e = .returned (.bool (decide (2000 < t.nodes))) ∧ Chg [] w w' := by
  have hA : Chg [] w (w.alloc (.cells #[.int .i64 (Tr.id t), .int .i64 (Tr.kind t), .string (Tr.text t), .slice A (Tr.kids t).length c] 24)) := (by with_reducible repeat (first | exact Chg.refl _ _ | apply Chg.alloc | apply Chg.drew | apply Chg.drewN | (refine Chg.setCell ?_ _ _ (by simp))))
  have hc := walkT_any w.heap.size 2001 (by omega) t A c (w.alloc (.cells #[.int .i64 (Tr.id t), .int .i64 (Tr.kind t), .string (Tr.text t), .slice A (Tr.kids t).length c] 24)) (hT.kept hA (by simp)) (by simp)
  have HC := Lib.hid (And.intro hc hA)
  clear hc hA hT
  go_enter Try.func40, Try.ntmps40
  go_wp2_with fail
  refine HC.out.1.mono ?_
  rintro e X ⟨v, rfl, hR, hX⟩
  obtain ⟨A', c', rfl⟩ := hR.slice
  obtain ⟨l, hl⟩ : ∃ l, l = (t.walk 1).take 2001 := ⟨_, rfl⟩
  have hlen : l.length = min 2001 t.nodes := by rw [hl, List.length_take, Tr.walk_length]
  have hdp : ∀ (k : Nat) (h : k < l.length), (l[k]).2 ≤ t.nodes := fun k h => by
    have h3 : ∀ y, y ∈ l → y ∈ t.walk 1 := fun y hy => List.mem_of_mem_take (by rw [← hl]; exact hy)
    have hm : l[k] ∈ t.walk 1 := h3 _ (List.getElem_mem h)
    have := walk_deep t 1 (l[k]).1 (l[k]).2 hm
    omega
  rw [← hl] at hR ⊢
  have hl2 : l.length ≤ 2001 := by omega
  have HX := Lib.hid (And.intro hR (And.intro (HC.out.2.trans hX) (And.intro hlen hdp)))
  clear hR hX hl hlen hdp
  by_cases hbig : 2000 < t.nodes
  · have hg : (2000 : Int) < (l.length : Int) := by have := HX.out.2.2.1; omega
    have HB := Lib.hid hbig
    clear hbig
    go_wp2_with (skip; fail)
    go_ret
    exact ⟨by rw [decide_eq_true HB.out]; rfl, HX.out.2.1⟩
  · have hg : ¬ (2000 : Int) < (l.length : Int) := by have := HX.out.2.2.1; omega
    have hg2 : decide ((2000 : Int) < (l.length : Int)) = false := decide_eq_false hg
    have HB := Lib.hid hbig
    clear hbig
    go_wp2_with (skip; fail)
    go_loop [4] (fun i => ∃ k : Nat, k ≤ l.length ∧ i = .int .i64 k) (fun i => l.length - (intOf i).toNat)
    case atStart => exact ⟨0, Nat.zero_le _, rfl⟩
    case round =>
      obtain ⟨k, hk, rfl⟩ := hrel
      by_cases hlt : k < l.length
      · obtain ⟨g, c2, A2, cA, e, _, hT, hr⟩ := HX.out.1.at hlt
        injection e with e1 e2 e3
        subst e1 e3
        have r4 : X.cell? ⟨g, k * 5 + 4, none⟩ = some (.int .i64 (l[k]).2) := hr 4 _ rfl
        obtain ⟨d, hd⟩ : ∃ d, d = (l[k]).2 := ⟨_, rfl⟩
        have hd2 : ¬ (2000 : Int) < d := by have := HX.out.2.2.2 k hlt; have := HB.out; omega
        have hd3 : decide ((2000 : Int) < d) = false := decide_eq_false hd2
        rw [← hd] at r4
        clear hr hT hd
        go_wp2_with (skip; fail)
        go_round
        case rel => exact ⟨k + 1, by omega, by go_num⟩
        case measure => simp [intOf]; omega
      · go_wp2_with (skip; fail)
        go_ret
        exact ⟨by rw [decide_eq_false HB.out]; rfl, HX.out.2.1⟩
end Go.Proofs.Ytofjocjljbkjgaa
