/- Parts of the proof of the law WithinAlone, number 5 of 5: laws over memory, contracts of functions, walks. No condition. -/
import Derived.Test.YtofjocjljbkjgaaQWithinAlone4
set_option linter.unusedVariables false
set_option linter.unusedSimpArgs false
namespace Go.Proofs.Ytofjocjljbkjgaa
open Go.RowKit
def ApplyC (res : Except Int Tr) (w : World) (e : Ending) (w' : World) : Prop :=
  match res with
  | .error n => e = .returned (.tuple #[.agg #[.int .i64 0, .int .i64 0, .string ⟨#[]⟩, .slice none 0 0], .int .i64 n]) ∧ Chg [] w w'
  | .ok t' => ∃ A c, e = .returned (.tuple #[.agg #[.int .i64 (Tr.id t'), .int .i64 (Tr.kind t'), .string (Tr.text t'), .slice A (Tr.kids t').length c], .int .i64 0]) ∧ TrC (fun b => w.heap.size ≤ b ∧ b < w'.heap.size) w' t' [.int .i64 (Tr.id t'), .int .i64 (Tr.kind t'), .string (Tr.text t'), .slice A (Tr.kids t').length c] ∧ Chg [] w w'
theorem IvW.new (w : World) (t : Tr) (A : Option Addr) (c : Nat) (s : Stp) (As : Option Addr) (cs : Nat) : IvW w t A c s As cs (((w.alloc (.cells #[.int .i64 (Tr.id t), .int .i64 (Tr.kind t), .string (Tr.text t), .slice A (Tr.kids t).length c] 24)).alloc (.cells #[.int .i8 (Stp.op s), .int .i64 (Stp.id s), .int .i64 (Stp.par s), .int .i64 (Stp.place s), .string (Stp.text s), .int .i64 (Stp.sub s).id, .int .i64 (Stp.sub s).kind, .string (Stp.sub s).text, .slice As (Stp.sub s).kids.length cs] 27)).alloc (.cells #[.int .i64 0, .int .i64 0, .string ⟨#[]⟩, .slice none 0 0] 24)) :=
  ⟨heap_old (heap_old (heap_new _ _ rfl) _) _, heap_old (heap_new _ _ (by simp)) _, heap_new _ _ (by simp), (by with_reducible repeat (first | exact Chg.refl _ _ | apply Chg.alloc | apply Chg.drew | apply Chg.drewN | (refine Chg.setCell ?_ _ _ (by simp))))⟩
theorem FindR.any {r : Option Tr} {w : World} {e : Ending} {w' : World} (h : FindR r w e w') : ∃ (x : Tr) (A : Option Addr) (c : Nat), e = .returned (.tuple #[.agg #[.int .i64 (Tr.id x), .int .i64 (Tr.kind x), .string (Tr.text x), .slice A (Tr.kids x).length c], .bool r.isSome]) ∧ (∀ y, r = some y → x = y) ∧ TrC (fun b => b < w.heap.size) w' x [.int .i64 (Tr.id x), .int .i64 (Tr.kind x), .string (Tr.text x), .slice A (Tr.kids x).length c] ∧ Chg [] w w' := by
  unfold FindR at h
  cases r with
  | none => exact ⟨zeroT, none, 0, h.1, fun y hy => (by cases hy), zeroC _ _, h.2⟩
  | some x => obtain ⟨A, c, h1, h2, h3⟩ := h; exact ⟨x, A, c, h1, fun y hy => (by cases hy; rfl), h2, h3⟩
theorem subT_isSome {y : Int} {t : Tr} : (t.subT y).isSome = true ↔ y ∈ t.ids := by
  rcases path_cases y t with ⟨h1, h2⟩ | ⟨p, n, h1, _, h3, _⟩
  · rw [h2, ← Tr.path_iff, h1]; exact Iff.rfl
  · rw [h3, ← Tr.path_iff, h1]; simp
set_option maxHeartbeats 4000000 in
set_option maxRecDepth 100000 in
theorem ins09_any (t : Tr) (A : Option Addr) (c : Nat) (s : Stp) (As : Option Addr) (cs : Nat) (w : World) (hT : TrC (fun b => b < w.heap.size) w t [.int .i64 (Tr.id t), .int .i64 (Tr.kind t), .string (Tr.text t), .slice A (Tr.kids t).length c]) (hS : TrC (fun b => b < w.heap.size) w s.sub [.int .i64 (Tr.id s.sub), .int .i64 (Tr.kind s.sub), .string (Tr.text s.sub), .slice As (Tr.kids s.sub).length cs]) (hn : t.nodes ≤ 2000) (hns : s.sub.nodes ≤ 2000) :
    Calls Try.prog 72 #[.agg #[.int .i64 (Tr.id t), .int .i64 (Tr.kind t), .string (Tr.text t), .slice A (Tr.kids t).length c], .agg #[.int .i8 (Stp.op s), .int .i64 (Stp.id s), .int .i64 (Stp.par s), .int .i64 (Stp.place s), .string (Stp.text s), .int .i64 (Stp.sub s).id, .int .i64 (Stp.sub s).kind, .string (Stp.sub s).text, .slice As (Stp.sub s).kids.length cs]] w (ApplyC (insertT t s.par s.place s.sub) w) := by
  obtain ⟨W, hW⟩ : ∃ W, W = ((w.alloc (.cells #[.int .i64 (Tr.id t), .int .i64 (Tr.kind t), .string (Tr.text t), .slice A (Tr.kids t).length c] 24)).alloc (.cells #[.int .i8 (Stp.op s), .int .i64 (Stp.id s), .int .i64 (Stp.par s), .int .i64 (Stp.place s), .string (Stp.text s), .int .i64 (Stp.sub s).id, .int .i64 (Stp.sub s).kind, .string (Stp.sub s).text, .slice As (Stp.sub s).kids.length cs] 27)).alloc (.cells #[.int .i64 0, .int .i64 0, .string ⟨#[]⟩, .slice none 0 0] 24) := ⟨_, rfl⟩
  have hU : IvW w t A c s As cs W := by rw [hW]; exact IvW.new _ _ _ _ _ _ _
  have hfind : ∀ (W' : World) (id : Int), Chg [] w W' → Calls Try.prog 29 #[.agg #[.int .i64 (Tr.id t), .int .i64 (Tr.kind t), .string (Tr.text t), .slice A (Tr.kids t).length c], .int .i64 id] W' (FindR (t.subT id) W') := fun W' id hc => rfind_any t A c id W' ((hT.kept hc (by simp)).weak (fun b hb _ => Nat.lt_of_lt_of_le hb hc.size)) hn
  have hres := insertT_ref t s.par s.place s.sub
  obtain ⟨p0, p1, p2, p3⟩ := blk4 hU.b0
  obtain ⟨q0, q1, q2, q3, q4, q5, q6, q7, q8⟩ := cells9 hU.b1
  have HW := Lib.hid (And.intro hW (And.intro hU (And.intro hfind (And.intro hT (And.intro hS (And.intro hn (And.intro hns hres)))))))
  rw [hW] at p0 p1 p2 p3 q0 q1 q2 q3 q4 q5 q6 q7 q8
  clear hW hU hfind hT hS hn hns hres
  go_enter Try.func72, Try.ntmps72
  go_wp2_with fail
  rw [← HW.out.1]
  clear p0 p1 p2 p3 q0 q1 q2 q3 q4 q5 q6 q7 q8
  refine (HW.out.2.2.1 W s.par HW.out.2.1.chg).mono ?_
  rintro e X hF
  obtain ⟨n, An, cn, rfl, hxn, hTn, hX⟩ := hF.any
  clear hF
  obtain ⟨Y, hY⟩ : ∃ Y, Y = X.alloc (.cells #[.int .i64 (Tr.id n), .int .i64 (Tr.kind n), .string (Tr.text n), .slice An (Tr.kids n).length cn] 24) := ⟨_, rfl⟩
  have hXY : Chg [] X Y := by rw [hY]; exact (by with_reducible repeat (first | exact Chg.refl _ _ | apply Chg.alloc | apply Chg.drew | apply Chg.drewN | (refine Chg.setCell ?_ _ _ (by simp))))
  have hUY := HW.out.2.1.kept (hX.trans hXY)
  have b6 : Y.heap[X.heap.size]? = some (.cells #[.int .i64 (Tr.id n), .int .i64 (Tr.kind n), .string (Tr.text n), .slice An (Tr.kids n).length cn] 24 (0, 0)) := by rw [hY]; exact heap_new _ _ rfl
  have HY := Lib.hid (And.intro hY (And.intro hUY (And.intro b6 (hTn.kept hXY (by simp)))))
  obtain ⟨r0, r1, r2, r3⟩ := blk4 hUY.b2
  have f0 := blkF hUY.b2 0
  have f1 := blkF hUY.b2 1
  have f2 := blkF hUY.b2 2
  have f3 := blkF hUY.b2 3
  have hl2 := lt_of_block HW.out.2.1.b2
  cases hsub : t.subT s.par with
  | none =>
    have hres := HW.out.2.2.2.2.2.2.2
    rw [hsub] at hres
    simp only [] at hres
    have HR := Lib.hid hres
    rw [hY] at r0 r1 r2 r3 f0 f1 f2 f3
    clear hX hXY hUY b6 hTn hxn hsub hres hY
    go_wp2_with (skip; fail)
    rw [← HY.out.1]
    refine bodyPost_ret (v := .tuple #[.agg #[.int .i64 0, .int .i64 0, .string ⟨#[]⟩, .slice none 0 0], .int .i64 4]) (results_row_tmp rfl _ _ (w.heap.size + 1 + 1) _ _ _ _ _ rfl rfl (set4 (HY.out.2.1).b2) Try.underlying24 rfl szNode) rfl (by unfold ApplyC; rw [HR.out]; exact ⟨rfl, (HY.out.2.1).chg.andThen (chg4 Y (w.heap.size + 1 + 1) _ _ _ _) (by simp; omega)⟩)
  | some n' =>
    obtain rfl : n = n' := hxn n' hsub
    have hres := HW.out.2.2.2.2.2.2.2
    rw [hsub] at hres
    simp only [] at hres
    have HN := Lib.hid (And.intro hsub hres)
    obtain ⟨p0, p1, p2, p3⟩ := blk4 hUY.b0
    obtain ⟨q0, q1, q2, q3, q4, q5, q6, q7, q8⟩ := cells9 hUY.b1
    obtain ⟨n0, n1, n2, n3⟩ := blk4 b6
    clear hX hXY hUY b6 hTn hxn hsub hres
    by_cases hpl : 0 ≤ s.place ∧ s.place ≤ n.kids.length
    case neg =>
      have hres := HN.out.2
      rw [if_neg hpl] at hres
      have HR := Lib.hid hres
      rw [hY] at r0 r1 r2 r3 f0 f1 f2 f3 p0 p1 p2 p3 q0 q1 q2 q3 q4 q5 q6 q7 q8 n0 n1 n2 n3
      clear hres hY
      have hd : decide (s.place < 0) = true ∨ (decide (s.place < 0) = false ∧ decide ((n.kids.length : Int) < s.place) = true) := by
        by_cases h : s.place < 0
        · exact .inl (decide_eq_true h)
        · exact .inr ⟨decide_eq_false h, decide_eq_true (by omega)⟩
      clear hpl
      rcases hd with hd | ⟨hd, hd2⟩
      all_goals
        go_wp2_with (skip; fail)
        rw [← HY.out.1]
        refine bodyPost_ret (v := .tuple #[.agg #[.int .i64 0, .int .i64 0, .string ⟨#[]⟩, .slice none 0 0], .int .i64 2]) (results_row_tmp rfl _ _ (w.heap.size + 1 + 1) _ _ _ _ _ rfl rfl (set4 (HY.out.2.1).b2) Try.underlying24 rfl szNode) rfl (by unfold ApplyC; rw [HR.out]; exact ⟨rfl, (HY.out.2.1).chg.andThen (chg4 Y (w.heap.size + 1 + 1) _ _ _ _) (by simp; omega)⟩)
    case pos =>
      have hres := HN.out.2
      rw [if_pos hpl] at hres
      have hd : decide (s.place < 0) = false := decide_eq_false (by omega)
      have hd2 : decide ((n.kids.length : Int) < s.place) = false := decide_eq_false (by omega)
      have hwk := walkT_any w.heap.size 2000 (by omega) s.sub As cs Y (HW.out.2.2.2.2.1.kept HY.out.2.1.chg (by simp)) HY.out.2.1.chg.size
      have HP := Lib.hid (And.intro hpl (And.intro hres hwk))
      rw [hY] at r0 r1 r2 r3 f0 f1 f2 f3 p0 p1 p2 p3 q0 q1 q2 q3 q4 q5 q6 q7 q8 n0 n1 n2 n3
      clear hpl hres hwk hY
      go_wp2_with fail
      rw [← HY.out.1]
      clear r0 r1 r2 r3 f0 f1 f2 f3 p0 p1 p2 p3 q0 q1 q2 q3 q4 q5 q6 q7 q8 n0 n1 n2 n3
      refine HP.out.2.2.mono ?_
      rintro e V ⟨vl, rfl, hR, hV⟩
      obtain ⟨Al, cl, rfl⟩ := hR.slice
      obtain ⟨l, hl⟩ : ∃ l, l = (s.sub.walk 1).take 2000 := ⟨_, rfl⟩
      have hids : l.map (·.1.id) = s.sub.ids := by rw [hl, List.take_of_length_le (by rw [Tr.walk_length]; exact HW.out.2.2.2.2.2.2.1), Tr.walk_ids]
      have hlen : l.length ≤ 2000 := by rw [hl, List.length_take]; omega
      rw [← hl] at hR ⊢
      have HV := Lib.hid (And.intro hR (And.intro (HY.out.2.1.kept hV) (And.intro hids (And.intro (hV.at HY.out.2.2.1 (by simp)) (HY.out.2.2.2.kept hV (by simp))))))
      clear hR hl hids hV
      go_wp2_with (skip; fail)
      go_loop [9] (fun i => ∃ k : Nat, k ≤ l.length ∧ i = .int .i64 k ∧ Hid (∀ (j : Nat) (hj : j < k) (hl : j < l.length), InRange (l[j]).1.id)) (fun i => l.length - (intOf i).toNat)
      case atStart => exact ⟨0, Nat.zero_le _, rfl, Lib.hid fun j hj => by omega⟩
      case round =>
        obtain ⟨k, hk, rfl, H⟩ := hrel
        by_cases hlt : k < l.length
        case pos =>
          obtain ⟨g, c2, A2, cA, e, _, hT2, hr⟩ := HV.out.1.at hlt
          injection e with e1 e2 e3
          subst e1 e3
          obtain ⟨y, hy⟩ : ∃ y, y = (l[k]).1.id := ⟨_, rfl⟩
          have c0 : V.cell? ⟨g, k * 5, none⟩ = some (.int .i64 y) := by rw [hy]; exact hr 0 _ rfl
          have HYy := Lib.hid hy
          clear hT2 hr hy
          by_cases hir : InRange y
          · have hi1 : decide (y < 1) = false := decide_eq_false (by unfold InRange at hir; omega)
            have hi2 : decide (1125899906842624 < y) = false := decide_eq_false (by unfold InRange at hir; omega)
            have hall : ∀ (j : Nat) (hj : j < k + 1) (hl : j < l.length), InRange (l[j]).1.id := fun j hj hl => by
              rcases Nat.lt_or_ge j k with h | h
              · exact H.out j h hl
              · obtain rfl : j = k := by omega
                rw [← HYy.out]; exact hir
            have HA := Lib.hid hall
            clear hall hir
            go_wp2_with (skip; fail)
            go_round
            case rel => exact ⟨k + 1, by omega, by go_num, HA⟩
            case measure => simp [intOf]; omega
          · have hno : ¬ ∀ i ∈ s.sub.ids, InRange i := fun h => hir (h y (by rw [← HV.out.2.2.1, HYy.out]; exact List.mem_map_of_mem (List.getElem_mem hlt)))
            have hres := HP.out.2.1
            rw [if_neg hno] at hres
            have HR := Lib.hid hres
            have hd3 : decide (y < 1) = true ∨ (decide (y < 1) = false ∧ decide (1125899906842624 < y) = true) := by
              by_cases h : y < 1
              · exact .inl (decide_eq_true h)
              · exact .inr ⟨decide_eq_false h, decide_eq_true (by unfold InRange at hir; omega)⟩
            obtain ⟨r0, r1, r2, r3⟩ := blk4 HV.out.2.1.b2
            have f0 := blkF HV.out.2.1.b2 0
            have f1 := blkF HV.out.2.1.b2 1
            have f2 := blkF HV.out.2.1.b2 2
            have f3 := blkF HV.out.2.1.b2 3
            clear hno hres hir
            rcases hd3 with hd3 | ⟨hd3, hd4⟩
            all_goals
              go_wp2_with (skip; fail)
              refine bodyPost_ret (v := .tuple #[.agg #[.int .i64 0, .int .i64 0, .string ⟨#[]⟩, .slice none 0 0], .int .i64 2]) (results_row_tmp rfl _ _ (w.heap.size + 1 + 1) _ _ _ _ _ rfl rfl (set4 (HV.out.2.1).b2) Try.underlying24 rfl szNode) rfl (by unfold ApplyC; rw [HR.out]; exact ⟨rfl, (HV.out.2.1).chg.andThen (chg4 V (w.heap.size + 1 + 1) _ _ _ _) (by simp; omega)⟩)
        case neg =>
          obtain rfl : k = l.length := by omega
          have hin : ∀ i ∈ s.sub.ids, InRange i := fun i hi => by
            rw [← HV.out.2.2.1] at hi
            obtain ⟨x, hx, rfl⟩ := List.mem_map.1 hi
            obtain ⟨j, hj, rfl⟩ := List.getElem_of_mem hx
            exact H.out j hj hj
          have hres := HP.out.2.1
          rw [if_pos hin] at hres
          have HI := Lib.hid hres
          clear hin hres
          go_wp2_with (skip; fail)
          clear hd hd2 hk hlt
          go_loopw [10] (fun i wr => ∃ k : Nat, k ≤ l.length ∧ i = .int .i64 k ∧ Hid (Chg [] V wr ∧ FreshIds t.ids ((l.map (·.1.id)).take k))) (fun i _ => l.length - (intOf i).toNat)
          case atStart => exact ⟨0, Nat.zero_le _, rfl, Lib.hid ⟨Chg.refl _ _, by simp [FreshIds]⟩⟩
          case round =>
            obtain ⟨k, hk, rfl, K⟩ := hrel
            obtain ⟨U, hU⟩ : ∃ U, U = wr := ⟨_, rfl⟩
            subst hU
            by_cases hlt : k < l.length
            case neg =>
              obtain rfl : k = l.length := by omega
              have hfr : FreshIds t.ids s.sub.ids := by have h := K.out.2; rw [List.take_of_length_le (by simp), HV.out.2.2.1] at h; exact h
              have hres := HI.out
              rw [if_pos hfr] at hres
              have HR := Lib.hid hres
              have hpl := HP.out.1
              obtain ⟨pn, hpn⟩ : ∃ pn : Nat, (pn : Int) = s.place := ⟨s.place.toNat, by omega⟩
              have hpt : s.place.toNat = pn := by omega
              have hpk : pn ≤ n.kids.length := by omega
              rw [hpt] at hres
              have HR := Lib.hid hres
              obtain ⟨A', c', hcs', hlc', hcm', htx', hKn⟩ := HV.out.2.2.2.2.opens
              simp only [List.cons.injEq, Value.slice.injEq, true_and, and_true] at hcs'
              obtain ⟨rfl, rfl⟩ := hcs'
              have hnn : n.nodes ≤ 2000 := by obtain ⟨p, _, hat, _⟩ := subT_path HN.out.1; have := Tr.at_nodes p t n hat; have := HW.out.2.2.2.2.2.1; omega
              have hkl : n.kids.length ≤ 100000 := by have := nodesL_len n.kids; rw [Tr.nodes_eq] at hnn; omega
              have hkn : nodesL (insAt n.kids pn s.sub) ≤ 100000 := by rw [insAt_nodes]; have := HW.out.2.2.2.2.2.2.1; rw [Tr.nodes_eq] at hnn; omega
              have hVc := HV.out.2.1.chg
              have HE := Lib.hid (And.intro hpn (And.intro hpk (And.intro hlc' (And.intro hcm' (And.intro htx' (And.intro hKn (And.intro hkl hkn)))))))
              clear hfr hres hpl hpn hpt hpk hlc' hcm' htx' hKn hnn hkl hkn hVc
              go_wp2_with (skip; fail)
              refine wp_region_M (fun W => IvW w t A c s As cs W ∧ W.heap[X.heap.size]? = some (.cells #[.int .i64 (Tr.id n), .int .i64 (Tr.kind n), .string (Tr.text n), .slice An (Tr.kids n).length cn] 24 (0, 0))) (fun k => [9, 12, 13].contains k) (fun k => [13].contains k) (by kernel_rfl) ?_
              obtain ⟨Q, hQ⟩ : ∃ Q, Q = U.drew := ⟨_, rfl⟩
              rw [← hQ]
              have hUQ : Chg [] U Q := by rw [hQ]; exact (Chg.refl _ _).drew
              clear hQ
              have hcQ := K.out.1.trans hUQ
              have hIQ := HV.out.2.1.kept hcQ
              have h6Q := hcQ.at HV.out.2.2.2.1 (by simp)
              have hall : ∀ Z : World, IvW w t A c s As cs Z ∧ Z.heap[X.heap.size]? = some (.cells #[.int .i64 (Tr.id n), .int .i64 (Tr.kind n), .string (Tr.text n), .slice An (Tr.kids n).length cn] 24 (0, 0)) → Z.rangeAt w.heap.size 0 [.int .i64 (Tr.id t), .int .i64 (Tr.kind t), .string (Tr.text t), .slice A (Tr.kids t).length c] ∧ Z.cell? ⟨w.heap.size + 1, 2, none⟩ = some (.int .i64 s.par) ∧ Z.cell? ⟨X.heap.size, 2, none⟩ = some (.string n.text) := fun Z h => ⟨range_all h.1.b0, (cells9 h.1.b1).2.2.1, (blk4 h.2).2.2.1⟩
              have hS : IvW w t A c s As cs Q ∧ Q.heap[X.heap.size]? = some (.cells #[.int .i64 (Tr.id n), .int .i64 (Tr.kind n), .string (Tr.text n), .slice An (Tr.kids n).length cn] 24 (0, 0)) := ⟨hIQ, h6Q⟩
              have q3 := (cells9 hIQ.b1).2.2.2.1
              rw [← HE.out.1] at q3
              have q5 : Q.rangeAt (w.heap.size + 1) 5 [.int .i64 (Tr.id s.sub), .int .i64 (Tr.kind s.sub), .string (Tr.text s.sub), .slice As (Tr.kids s.sub).length cs] := range_of_block (cs := (#[.int .i8 (Stp.op s), .int .i64 (Stp.id s), .int .i64 (Stp.par s), .int .i64 (Stp.place s), .string (Stp.text s), .int .i64 (Stp.sub s).id, .int .i64 (Stp.sub s).kind, .string (Stp.sub s).text, .slice As (Stp.sub s).kids.length cs] : Array Value).toList) hIQ.b1 5 4
              have n3 := (blk4 h6Q).2.2.2
              have HQ := Lib.hid (And.intro hUQ (And.intro hIQ (And.intro h6Q (And.intro hall q5))))
              clear hUQ hcQ hIQ h6Q hall q5
              ((try dsimp only); (try simp only [Act.put, List.setIfInBounds_toArray, List.set_cons_zero, List.set_cons_succ]))
              refine M_semi (i := 0) rfl (by kernel_rfl) (by kernel_rfl) (by kernel_rfl) (by kernel_rfl) (fun _ _ _ h => h) (by rfl) hS (fun W hS => exec_load_mid 24 (.tmp 2) rfl w.heap.size 0 rfl _ _ (HQ.out.2.2.2.1 _ hS).1 Try.underlying24 rfl szNode) ?_; ((try dsimp only); (try simp only [Act.put, List.setIfInBounds_toArray, List.set_cons_zero, List.set_cons_succ]))
              refine M_pure (i := 1) (v := ?_) rfl (by kernel_rfl) (by kernel_rfl) (by kernel_rfl) (fun _ _ _ h => h) (by rfl) ?hy ?_; (case hy => (intro w; go_simp; with_reducible rfl)); ((try dsimp only); (try simp only [Act.put, List.setIfInBounds_toArray, List.set_cons_zero, List.set_cons_succ]))
              refine M_semi (i := 2) (v := ?_) rfl (by kernel_rfl) (by kernel_rfl) (by kernel_rfl) (by kernel_rfl) (fun _ _ _ h => h) (by rfl) hS ?hy ?_
              case hy => (intro w' hS; have h2 := (HQ.out.2.2.2.1 w' hS).2.1; clear hS; go_simp; with_reducible rfl)
              ((try dsimp only); (try simp only [Act.put, List.setIfInBounds_toArray, List.set_cons_zero, List.set_cons_succ]))
              refine M_pure (i := 3) (v := ?_) rfl (by kernel_rfl) (by kernel_rfl) (by kernel_rfl) (fun _ _ _ h => h) (by rfl) ?hy ?_; (case hy => (intro w; go_simp; with_reducible rfl)); ((try dsimp only); (try simp only [Act.put, List.setIfInBounds_toArray, List.set_cons_zero, List.set_cons_succ]))
              refine M_take (i := 4) (v := ?_) rfl (by kernel_rfl) (by kernel_rfl) (by kernel_rfl) (by kernel_rfl) (fun _ _ _ h => h) (by rfl) ?hy ?_; (case hy => (go_simp; with_reducible rfl)); ((try dsimp only); (try simp only [Act.put, List.setIfInBounds_toArray, List.set_cons_zero, List.set_cons_succ]))
              refine M_pure (i := 5) (v := ?_) rfl (by kernel_rfl) (by kernel_rfl) (by kernel_rfl) (fun _ _ _ h => h) (by rfl) ?hy ?_; (case hy => (intro w; go_simp; with_reducible rfl)); ((try dsimp only); (try simp only [Act.put, List.setIfInBounds_toArray, List.set_cons_zero, List.set_cons_succ]))
              refine M_take (i := 6) (v := ?_) rfl (by kernel_rfl) (by kernel_rfl) (by kernel_rfl) (by kernel_rfl) (fun _ _ _ h => h) (by rfl) ?hy ?_; (case hy => (go_simp; with_reducible rfl)); ((try dsimp only); (try simp only [Act.put, List.setIfInBounds_toArray, List.set_cons_zero, List.set_cons_succ]))
              refine M_pure (i := 7) (v := ?_) rfl (by kernel_rfl) (by kernel_rfl) (by kernel_rfl) (fun _ _ _ h => h) (by rfl) ?hy ?_; (case hy => (intro w; go_simp; with_reducible rfl)); ((try dsimp only); (try simp only [Act.put, List.setIfInBounds_toArray, List.set_cons_zero, List.set_cons_succ]))
              refine M_take (i := 8) rfl (by kernel_rfl) (by kernel_rfl) (by kernel_rfl) (by kernel_rfl) (fun _ _ _ h => h) (by rfl) (exec_load_mid 24 (.tmp 109) rfl (w.heap.size + 1) 5 rfl _ _ HQ.out.2.2.2.2 Try.underlying24 rfl szNode) ?_; ((try dsimp only); (try simp only [Act.put, List.setIfInBounds_toArray, List.set_cons_zero, List.set_cons_succ]))
              refine M_pure (i := 10) (v := ?_) rfl (by kernel_rfl) (by kernel_rfl) (by kernel_rfl) (fun _ _ _ h => h) (by rfl) ?hy ?_; (case hy => (intro w; go_simp; with_reducible rfl)); ((try dsimp only); (try simp only [Act.put, List.setIfInBounds_toArray, List.set_cons_zero, List.set_cons_succ]))
              refine M_semi (i := 11) (v := ?_) rfl (by kernel_rfl) (by kernel_rfl) (by kernel_rfl) (by kernel_rfl) (fun _ _ _ h => h) (by rfl) hS ?hy ?_
              case hy => (intro w' hS; have h2 := (HQ.out.2.2.2.1 w' hS).2.2; clear hS; go_simp; with_reducible rfl)
              ((try dsimp only); (try simp only [Act.put, List.setIfInBounds_toArray, List.set_cons_zero, List.set_cons_succ]))
              clear q3 n3 hS
              refine M_eff (i := 9) rfl (by kernel_rfl) (by rfl) ?_
              go_wp2_with fail
              refine (inserted_any n.kids An cn pn s.sub As cs Q ((HE.out.2.2.2.2.2.1.kept (K.out.1.trans HQ.out.1) (by simp)).weak (fun b hb _ => by have := HY.out.2.1.chg.size; have := HQ.out.2.1.chg.size; have := HW.out.2.1.chg.size; omega)) ⟨HE.out.2.2.1, HE.out.2.2.2.1⟩ HE.out.2.1 ((HW.out.2.2.2.2.1.kept HQ.out.2.1.chg (by simp)).weak (fun b hb _ => Nat.lt_of_lt_of_le hb HQ.out.2.1.chg.size)) HE.out.2.2.2.2.2.2.1).mono ?_
              obtain ⟨ks, hks⟩ : ∃ ks, ks = insAt n.kids pn s.sub := ⟨_, rfl⟩
              rw [← hks]
              have HKs := Lib.hid hks
              rintro e X9 ⟨A9, c9, rfl, hrow, hX9⟩
              obtain ⟨_, hcl, hcm, hKr⟩ := hrow.toC
              have hI9 := HQ.out.2.1.kept hX9
              have hS9 : IvW w t A c s As cs X9 ∧ X9.heap[X.heap.size]? = some (.cells #[.int .i64 (Tr.id n), .int .i64 (Tr.kind n), .string (Tr.text n), .slice An (Tr.kids n).length cn] 24 (0, 0)) := ⟨hI9, hX9.at HQ.out.2.2.1 (by simp)⟩
              have hput := put09_any t A c s.par ks A9 c9 n.text X9 ((HW.out.2.2.2.1.kept hI9.chg (by simp)).weak (fun b hb _ => Nat.lt_of_lt_of_le hb hI9.chg.size)) hKr (by have := HW.out.2.2.2.2.2.1; omega) (by rw [hks]; exact HE.out.2.2.2.2.2.2.2) HE.out.2.2.2.2.1 hcl hcm
              have H9 := Lib.hid (And.intro hI9 (And.intro hput hS9.2))
              clear hks hrow hX9 hcl hcm hKr hI9 hput
              go_wp2_with fail
              refine ⟨hS9, ?_⟩
              clear hS9
              ((try dsimp only); (try simp only [Act.put, List.setIfInBounds_toArray, List.set_cons_zero, List.set_cons_succ]))
              refine M_eff (i := 12) rfl (by kernel_rfl) (by rfl) ?_
              go_wp2_with fail
              refine H9.out.2.1.mono ?_
              obtain ⟨r, hr⟩ : ∃ r, r = (makesT s.par ks n.text t false).1 := ⟨_, rfl⟩
              rw [← hr]
              have HRr := Lib.hid hr
              clear hr
              rintro e Z ⟨Ar, cr, rfl, hVr, hZ⟩
              have hIZ := H9.out.1.kept hZ
              have hSZ : IvW w t A c s As cs Z ∧ Z.heap[X.heap.size]? = some (.cells #[.int .i64 (Tr.id n), .int .i64 (Tr.kind n), .string (Tr.text n), .slice An (Tr.kids n).length cn] 24 (0, 0)) := ⟨hIZ, hZ.at H9.out.2.2 (by simp)⟩
              have HZ := Lib.hid (And.intro hVr (And.intro hIZ hZ.size))
              obtain ⟨r0, r1, r2, r3⟩ := blk4 hIZ.b2
              have f0 := blkF hIZ.b2 0
              have f1 := blkF hIZ.b2 1
              have f2 := blkF hIZ.b2 2
              have f3 := blkF hIZ.b2 3
              clear hVr hZ hIZ
              go_wp2_with fail
              refine ⟨hSZ, ?_⟩
              clear hSZ
              refine M_brk (i := 13) rfl (by kernel_rfl) (by rfl) (by rfl) ?_
              go_wp2_with fail
              ((try dsimp only [EffQ]); (try simp only [Act.put, List.setIfInBounds_toArray, List.set_cons_zero, List.set_cons_succ]))
              refine M_pure (i := 14) (v := ?_) rfl (by kernel_rfl) (by kernel_rfl) (by kernel_rfl) (fun _ _ _ h => h) (by rfl) ?hy ?_; (case hy => (intro w; go_simp; with_reducible rfl)); ((try dsimp only); (try simp only [Act.put, List.setIfInBounds_toArray, List.set_cons_zero, List.set_cons_succ]))
              refine M_done (by kernel_rfl) ?_ _
              go_wp2_with (skip; fail)
              have hc4 := chg4 Z (w.heap.size + 1 + 1) (.int .i64 r.id) (.int .i64 r.kind) (.string r.text) (.slice Ar r.kids.length cr)
              have hs4 := hc4.size
              have h9 := H9.out.1.chg.size
              have h92 := lt_of_block H9.out.1.b2
              refine bodyPost_ret (v := .tuple #[.agg #[.int .i64 (Tr.id r), .int .i64 (Tr.kind r), .string (Tr.text r), .slice Ar (Tr.kids r).length cr], .int .i64 0]) (results_row_tmp rfl _ _ (w.heap.size + 1 + 1) _ _ _ _ _ rfl rfl (set4 HZ.out.2.1.b2) Try.underlying24 rfl szNode) rfl ?_
              unfold ApplyC
              rw [HR.out, ← HKs.out, ← HRr.out]
              exact ⟨Ar, cr, rfl, (HZ.out.1.toC.kept hc4 (fun g hg => by simp; omega)).weak (fun g hg _ => ⟨by omega, by omega⟩), HZ.out.2.1.chg.andThen hc4 (by simp; omega)⟩
            case pos =>
              have hRU := HV.out.1.kept K.out.1 (by simp) (by simp)
              obtain ⟨g, c2, A2, cA, e, _, hT2, hr⟩ := hRU.at hlt
              injection e with e1 e2 e3
              subst e1 e3
              obtain ⟨y, hy⟩ : ∃ y, y = (l[k]).1.id := ⟨_, rfl⟩
              have c0 : U.cell? ⟨g, k * 5, none⟩ = some (.int .i64 y) := by rw [hy]; exact hr 0 _ rfl
              have HYy := Lib.hid hy
              have hIU := HV.out.2.1.kept K.out.1
              have HU := Lib.hid (And.intro hRU (And.intro hIU c0))
              clear hT2 hr hy hRU hIU c0
              go_wp2_with (skip; fail)
              refine wp_region_M (fun W => W.rangeAt w.heap.size 0 [.int .i64 (Tr.id t), .int .i64 (Tr.kind t), .string (Tr.text t), .slice A (Tr.kids t).length c] ∧ W.cell? ⟨g, k * 5, none⟩ = some (.int .i64 y)) (fun k => [7, 11, 12].contains k) (fun k => [12].contains k) (by kernel_rfl) ?_
              obtain ⟨Q, hQ⟩ : ∃ Q, Q = U.drew := ⟨_, rfl⟩
              rw [← hQ]
              have hUQ : Chg [] U Q := by rw [hQ]; exact (Chg.refl _ _).drew
              clear hQ
              have hall : ∀ W', Chg [] U W' → W'.rangeAt w.heap.size 0 [.int .i64 (Tr.id t), .int .i64 (Tr.kind t), .string (Tr.text t), .slice A (Tr.kids t).length c] ∧ W'.cell? ⟨g, k * 5, none⟩ = some (.int .i64 y) := fun W' hc => ⟨range_all (hc.at HU.out.2.1.b0 (by simp)), hc.cell HU.out.2.2 (by simp)⟩
              have hS := hall Q hUQ
              have HQ := Lib.hid (And.intro hall hUQ)
              have wi0 : (0 : Int) ≤ (k : Int) := by omega
              have wi1 : (k : Int) < (l.length : Int) := by omega
              clear hall hUQ
              ((try dsimp only); (try simp only [Act.put, List.setIfInBounds_toArray, List.set_cons_zero, List.set_cons_succ]))
              refine M_semi (i := 0) rfl (by kernel_rfl) (by kernel_rfl) (by kernel_rfl) (by kernel_rfl) (fun _ _ _ h => h) (by rfl) hS (fun W hS => exec_load_mid 24 (.tmp 2) rfl w.heap.size 0 rfl _ _ hS.1 Try.underlying24 rfl szNode) ?_; ((try dsimp only); (try simp only [Act.put, List.setIfInBounds_toArray, List.set_cons_zero, List.set_cons_succ]))
              refine M_pure (i := 1) (v := ?_) rfl (by kernel_rfl) (by kernel_rfl) (by kernel_rfl) (fun _ _ _ h => h) (by rfl) ?hy ?_; (case hy => (intro w; go_simp; with_reducible rfl)); ((try dsimp only); (try simp only [Act.put, List.setIfInBounds_toArray, List.set_cons_zero, List.set_cons_succ]))
              refine M_pure (i := 2) (v := ?_) rfl (by kernel_rfl) (by kernel_rfl) (by kernel_rfl) (fun _ _ _ h => h) (by rfl) ?hy ?_; (case hy => (intro w; go_simp; with_reducible rfl)); ((try dsimp only); (try simp only [Act.put, List.setIfInBounds_toArray, List.set_cons_zero, List.set_cons_succ]))
              refine M_pure (i := 3) (v := ?_) rfl (by kernel_rfl) (by kernel_rfl) (by kernel_rfl) (fun _ _ _ h => h) (by rfl) ?hy ?_; (case hy => (intro w; go_simp; with_reducible rfl)); ((try dsimp only); (try simp only [Act.put, List.setIfInBounds_toArray, List.set_cons_zero, List.set_cons_succ]))
              refine M_pure (i := 4) (v := ?_) rfl (by kernel_rfl) (by kernel_rfl) (by kernel_rfl) (fun _ _ _ h => h) (by rfl) ?hy ?_; (case hy => (intro w; go_simp; with_reducible rfl)); ((try dsimp only); (try simp only [Act.put, List.setIfInBounds_toArray, List.set_cons_zero, List.set_cons_succ]))
              refine M_pure (i := 5) (v := ?_) rfl (by kernel_rfl) (by kernel_rfl) (by kernel_rfl) (fun _ _ _ h => h) (by rfl) ?hy ?_; (case hy => (intro w; go_simp; with_reducible rfl)); ((try dsimp only); (try simp only [Act.put, List.setIfInBounds_toArray, List.set_cons_zero, List.set_cons_succ]))
              refine M_semi (i := 6) (v := ?_) rfl (by kernel_rfl) (by kernel_rfl) (by kernel_rfl) (by kernel_rfl) (fun _ _ _ h => h) (by rfl) hS ?hy ?_
              case hy => (intro w hS; have h2 := hS.2; go_simp; with_reducible rfl)
              ((try dsimp only); (try simp only [Act.put, List.setIfInBounds_toArray, List.set_cons_zero, List.set_cons_succ]))
              refine M_two (i := 7) (j := 11) rfl rfl (by kernel_rfl) (by rfl) (by rfl) ?_ ?_
              case' refine_1 =>
                go_wp2_with fail
                refine (HW.out.2.2.1 Q y (HU.out.2.1.chg.trans HQ.out.2)).mono ?_
                rintro e X5 hF
                obtain ⟨x5, A5, c5, rfl, _, _, hX5⟩ := hF.any
                have HX5 := Lib.hid (HQ.out.2.trans hX5)
                clear hF hX5 hS
                go_wp2_with fail
                refine ⟨HQ.out.1 X5 HX5.out, ?_⟩
                refine M_pure (i := 8) (v := ?_) rfl (by kernel_rfl) (by kernel_rfl) (by kernel_rfl) (fun _ _ _ h => h) (by rfl) ?hy ?_; (case hy => (intro w; go_simp; with_reducible rfl)); ((try dsimp only); (try simp only [Act.put, List.setIfInBounds_toArray, List.set_cons_zero, List.set_cons_succ]))
                refine M_pure (i := 9) (v := ?_) rfl (by kernel_rfl) (by kernel_rfl) (by kernel_rfl) (fun _ _ _ h => h) (by rfl) ?hy ?_; (case hy => (intro w; go_simp; with_reducible rfl)); ((try dsimp only); (try simp only [Act.put, List.setIfInBounds_toArray, List.set_cons_zero, List.set_cons_succ]))
                refine M_pure (i := 10) (v := ?_) rfl (by kernel_rfl) (by kernel_rfl) (by kernel_rfl) (fun _ _ _ h => h) (by rfl) ?hy ?_; (case hy => (intro w; go_simp; with_reducible rfl)); ((try dsimp only); (try simp only [Act.put, List.setIfInBounds_toArray, List.set_cons_zero, List.set_cons_succ]))
                refine M_eff (i := 11) rfl (by kernel_rfl) (by rfl) ?_
                go_wp2_with fail
                refine ⟨HQ.out.1 _ (HX5.out.alloc _), ?_⟩
                refine M_brk (i := 12) rfl (by kernel_rfl) (by rfl) (by rfl) ?_
                go_wp2_with fail
                ((try dsimp only [EffQ]); (try simp only [Act.put, List.setIfInBounds_toArray, List.set_cons_zero, List.set_cons_succ]))
                refine M_pure (i := 13) (v := ?_) rfl (by kernel_rfl) (by kernel_rfl) (by kernel_rfl) (fun _ _ _ h => h) (by rfl) ?hy ?_; (case hy => (intro w; go_simp; with_reducible rfl)); ((try dsimp only); (try simp only [Act.put, List.setIfInBounds_toArray, List.set_cons_zero, List.set_cons_succ]))
                refine M_done (by kernel_rfl) ?_ _
                obtain ⟨Z, hZ⟩ : ∃ Z, Z = X5.alloc (.cells #[.int .i64 (Tr.id x5), .int .i64 (Tr.kind x5), .string (Tr.text x5), .slice A5 (Tr.kids x5).length c5] 24) := ⟨_, rfl⟩
                rw [← hZ]
                have HZ := Lib.hid (show Chg [] U Z by rw [hZ]; exact HX5.out.alloc _)
                clear hZ
              case' refine_2 =>
                go_wp2_with fail
                refine ⟨HQ.out.1 _ (HQ.out.2.alloc _), ?_⟩
                clear hS
                obtain ⟨Q1, hQ1⟩ : ∃ Q1, Q1 = Q.alloc (.cells #[.int .i64 0, .int .i64 0, .string ⟨#[]⟩, .slice none 0 0] 24) := ⟨_, rfl⟩
                rw [← hQ1]
                have hUQ1 : Chg [] U Q1 := by rw [hQ1]; exact HQ.out.2.alloc _
                have hb11 : Q1.heap[Q.heap.size]? = some (.cells #[.int .i64 0, .int .i64 0, .string ⟨#[]⟩, .slice none 0 0] 24 (0, 0)) := by rw [hQ1]; exact heap_new _ _ rfl
                have HQ1 := Lib.hid (And.intro hUQ1 hb11)
                clear hQ1 hUQ1 hb11
                refine M_eff (i := 7) rfl (by kernel_rfl) (by rfl) ?_
                go_wp2_with fail
                refine (HW.out.2.2.1 Q1 y (HU.out.2.1.chg.trans HQ1.out.1)).mono ?_
                rintro e X5 hF
                obtain ⟨x5, A5, c5, rfl, _, _, hX5⟩ := hF.any
                have hb11 := hX5.at HQ1.out.2 (by simp)
                have HX5 := Lib.hid (And.intro (HQ1.out.1.trans hX5) hb11)
                obtain ⟨r0, r1, r2, r3⟩ := blk4 hb11
                have f0 := blkF hb11 0
                have f1 := blkF hb11 1
                have f2 := blkF hb11 2
                have f3 := blkF hb11 3
                clear hF hX5 hb11
                go_wp2_with fail
                refine ⟨HQ.out.1 X5 HX5.out.1, ?_⟩
                refine M_pure (i := 8) (v := ?_) rfl (by kernel_rfl) (by kernel_rfl) (by kernel_rfl) (fun _ _ _ h => h) (by rfl) ?hy ?_; (case hy => (intro w; go_simp; with_reducible rfl)); ((try dsimp only); (try simp only [Act.put, List.setIfInBounds_toArray, List.set_cons_zero, List.set_cons_succ]))
                refine M_pure (i := 9) (v := ?_) rfl (by kernel_rfl) (by kernel_rfl) (by kernel_rfl) (fun _ _ _ h => h) (by rfl) ?hy ?_; (case hy => (intro w; go_simp; with_reducible rfl)); ((try dsimp only); (try simp only [Act.put, List.setIfInBounds_toArray, List.set_cons_zero, List.set_cons_succ]))
                refine M_pure (i := 10) (v := ?_) rfl (by kernel_rfl) (by kernel_rfl) (by kernel_rfl) (fun _ _ _ h => h) (by rfl) ?hy ?_; (case hy => (intro w; go_simp; with_reducible rfl)); ((try dsimp only); (try simp only [Act.put, List.setIfInBounds_toArray, List.set_cons_zero, List.set_cons_succ]))
                refine M_brk (i := 12) rfl (by kernel_rfl) (by rfl) (by rfl) ?_
                go_wp2_with fail
                ((try dsimp only [EffQ]); (try simp only [Act.put, List.setIfInBounds_toArray, List.set_cons_zero, List.set_cons_succ]))
                refine M_pure (i := 13) (v := ?_) rfl (by kernel_rfl) (by kernel_rfl) (by kernel_rfl) (fun _ _ _ h => h) (by rfl) ?hy ?_; (case hy => (intro w; go_simp; with_reducible rfl)); ((try dsimp only); (try simp only [Act.put, List.setIfInBounds_toArray, List.set_cons_zero, List.set_cons_succ]))
                refine M_done (by kernel_rfl) ?_ _
                clear r0 r1 r2 r3 f0 f1 f2 f3
                obtain ⟨Z, hZ⟩ : ∃ Z, Z = (((X5.setCell ⟨Q.heap.size, 0, none⟩ (.int .i64 x5.id)).setCell ⟨Q.heap.size, 1, none⟩ (.int .i64 x5.kind)).setCell ⟨Q.heap.size, 2, none⟩ (.string x5.text)).setCell ⟨Q.heap.size, 3, none⟩ (.slice A5 x5.kids.length c5) := ⟨_, rfl⟩
                rw [← hZ]
                have HZ := Lib.hid (show Chg [] U Z by rw [hZ]; exact HX5.out.1.andThen (chg4 _ _ _ _ _ _) (by have := HQ.out.2.size; simp; omega))
                clear hZ
              all_goals
                go_wp2_with (skip; fail)
                clear wi0
                go_loopw [12, 13] (fun bv jv wr => ∃ (j : Nat) (b : Bool), j ≤ k ∧ jv = .int .i64 j ∧ bv = .bool b ∧ Hid (Chg [] U wr ∧ (b = true ↔ y ∈ t.ids ∨ y ∈ (l.map (·.1.id)).take j))) (fun _ jv _ => k - (intOf jv).toNat)
                case atStart => exact ⟨0, _, Nat.zero_le _, rfl, rfl, Lib.hid ⟨HZ.out, by rw [subT_isSome]; simp⟩⟩
                case round =>
                  obtain ⟨j, b, hj, rfl, rfl, J⟩ := hrel
                  obtain ⟨M, hM⟩ : ∃ M, M = wr := ⟨_, rfl⟩
                  subst hM
                  by_cases hjk : j < k
                  case pos =>
                    have hjl : j < l.length := by omega
                    have hRM := HU.out.1.kept J.out.1 (by simp) (by simp)
                    obtain ⟨g2, c3, A3, cA3, e, _, _, hr⟩ := hRM.at hjl
                    injection e with e1 e2 e3
                    injection e1 with e1
                    injection e1 with e1 _ _
                    subst e1 e3
                    obtain ⟨z, hz⟩ : ∃ z, z = (l[j]).1.id := ⟨_, rfl⟩
                    have hM0 : M.cell? ⟨g, j * 5, none⟩ = some (.int .i64 z) := by rw [hz]; exact hr 0 _ rfl
                    have hM1 : M.cell? ⟨g, k * 5, none⟩ = some (.int .i64 y) := J.out.1.cell HU.out.2.2 (by simp)
                    have htk : (l.map (·.1.id)).take (j + 1) = (l.map (·.1.id)).take j ++ [z] := by
                      rw [List.take_succ_eq_append_getElem (by simpa using hjl), hz]; simp
                    have HM := Lib.hid (And.intro hM0 (And.intro hM1 htk))
                    clear hRM hr hz hM0 hM1 htk
                    go_wp2_with (skip; fail)
                    refine wp_region_M (fun _ => True) (fun k => [].contains k) (fun k => [].contains k) (by kernel_rfl) ?_
                    obtain ⟨N, hN⟩ : ∃ N, N = M.drew := ⟨_, rfl⟩
                    rw [← hN]
                    have hMN : Chg [] M N := by rw [hN]; exact (Chg.refl _ _).drew
                    clear hN
                    have m0 := hMN.cell HM.out.1 (by simp)
                    have m1 := hMN.cell HM.out.2.1 (by simp)
                    have wj0 : (0 : Int) ≤ (j : Int) := by omega
                    have wj1 : (j : Int) < (l.length : Int) := by omega
                    have wk0 : (0 : Int) ≤ (k : Int) := by omega
                    have HN2 := Lib.hid (J.out.1.trans hMN)
                    clear hMN
                    cases b with
                    | true =>
                      ((try dsimp only); (try simp only [Act.put, List.setIfInBounds_toArray, List.set_cons_zero, List.set_cons_succ]))
                      refine M_pure (i := 0) (v := ?_) rfl (by kernel_rfl) (by kernel_rfl) (by kernel_rfl) (fun _ _ _ h => h) (by rfl) ?hy ?_; (case hy => (intro w; go_simp; with_reducible rfl)); ((try dsimp only); (try simp only [Act.put, List.setIfInBounds_toArray, List.set_cons_zero, List.set_cons_succ]))
                      refine M_pure (i := 1) (v := ?_) rfl (by kernel_rfl) (by kernel_rfl) (by kernel_rfl) (fun _ _ _ h => h) (by rfl) ?hy ?_; (case hy => (intro w; go_simp; with_reducible rfl)); ((try dsimp only); (try simp only [Act.put, List.setIfInBounds_toArray, List.set_cons_zero, List.set_cons_succ]))
                      refine M_skip (i := 2) rfl (by kernel_rfl) (by kernel_rfl) (by kernel_rfl) (fun _ _ _ h => h) (by rfl) ?_; ((try dsimp only); (try simp only [Act.put, List.setIfInBounds_toArray, List.set_cons_zero, List.set_cons_succ]))
                      refine M_skip (i := 3) rfl (by kernel_rfl) (by kernel_rfl) (by kernel_rfl) (fun _ _ _ h => h) (by rfl) ?_; ((try dsimp only); (try simp only [Act.put, List.setIfInBounds_toArray, List.set_cons_zero, List.set_cons_succ]))
                      refine M_skip (i := 4) rfl (by kernel_rfl) (by kernel_rfl) (by kernel_rfl) (fun _ _ _ h => h) (by rfl) ?_; ((try dsimp only); (try simp only [Act.put, List.setIfInBounds_toArray, List.set_cons_zero, List.set_cons_succ]))
                      refine M_skip (i := 5) rfl (by kernel_rfl) (by kernel_rfl) (by kernel_rfl) (fun _ _ _ h => h) (by rfl) ?_; ((try dsimp only); (try simp only [Act.put, List.setIfInBounds_toArray, List.set_cons_zero, List.set_cons_succ]))
                      refine M_skip (i := 6) rfl (by kernel_rfl) (by kernel_rfl) (by kernel_rfl) (fun _ _ _ h => h) (by rfl) ?_; ((try dsimp only); (try simp only [Act.put, List.setIfInBounds_toArray, List.set_cons_zero, List.set_cons_succ]))
                      refine M_skip (i := 7) rfl (by kernel_rfl) (by kernel_rfl) (by kernel_rfl) (fun _ _ _ h => h) (by rfl) ?_; ((try dsimp only); (try simp only [Act.put, List.setIfInBounds_toArray, List.set_cons_zero, List.set_cons_succ]))
                      refine M_skip (i := 8) rfl (by kernel_rfl) (by kernel_rfl) (by kernel_rfl) (fun _ _ _ h => h) (by rfl) ?_; ((try dsimp only); (try simp only [Act.put, List.setIfInBounds_toArray, List.set_cons_zero, List.set_cons_succ]))
                      refine M_skip (i := 9) rfl (by kernel_rfl) (by kernel_rfl) (by kernel_rfl) (fun _ _ _ h => h) (by rfl) ?_; ((try dsimp only); (try simp only [Act.put, List.setIfInBounds_toArray, List.set_cons_zero, List.set_cons_succ]))
                      refine M_skip (i := 10) rfl (by kernel_rfl) (by kernel_rfl) (by kernel_rfl) (fun _ _ _ h => h) (by rfl) ?_; ((try dsimp only); (try simp only [Act.put, List.setIfInBounds_toArray, List.set_cons_zero, List.set_cons_succ]))
                      refine M_skip (i := 11) rfl (by kernel_rfl) (by kernel_rfl) (by kernel_rfl) (fun _ _ _ h => h) (by rfl) ?_; ((try dsimp only); (try simp only [Act.put, List.setIfInBounds_toArray, List.set_cons_zero, List.set_cons_succ]))
                      refine M_skip (i := 12) rfl (by kernel_rfl) (by kernel_rfl) (by kernel_rfl) (fun _ _ _ h => h) (by rfl) ?_; ((try dsimp only); (try simp only [Act.put, List.setIfInBounds_toArray, List.set_cons_zero, List.set_cons_succ]))
                      refine M_skip (i := 13) rfl (by kernel_rfl) (by kernel_rfl) (by kernel_rfl) (fun _ _ _ h => h) (by rfl) ?_; ((try dsimp only); (try simp only [Act.put, List.setIfInBounds_toArray, List.set_cons_zero, List.set_cons_succ]))
                      refine M_skip (i := 14) rfl (by kernel_rfl) (by kernel_rfl) (by kernel_rfl) (fun _ _ _ h => h) (by rfl) ?_; ((try dsimp only); (try simp only [Act.put, List.setIfInBounds_toArray, List.set_cons_zero, List.set_cons_succ]))
                      refine M_pure (i := 15) (v := ?_) rfl (by kernel_rfl) (by kernel_rfl) (by kernel_rfl) (fun _ _ _ h => h) (by rfl) ?hy ?_; (case hy => (intro w; go_simp; with_reducible rfl)); ((try dsimp only); (try simp only [Act.put, List.setIfInBounds_toArray, List.set_cons_zero, List.set_cons_succ]))
                      refine M_pure (i := 16) (v := ?_) rfl (by kernel_rfl) (by kernel_rfl) (by kernel_rfl) (fun _ _ _ h => h) (by rfl) ?hy ?_; (case hy => (intro w; go_simp; with_reducible rfl)); ((try dsimp only); (try simp only [Act.put, List.setIfInBounds_toArray, List.set_cons_zero, List.set_cons_succ]))
                      refine M_done (by kernel_rfl) ?_ _
                      clear m0 m1
                      go_wp2_with (skip; fail)
                      go_roundw
                      case rel => exact ⟨j + 1, true, by omega, by go_num, rfl, Lib.hid ⟨HN2.out, by
                        have h := J.out.2.1 rfl
                        rw [HM.out.2.2]
                        simp only [List.mem_append, true_iff]
                        rcases h with h | h
                        · exact .inl h
                        · exact .inr (.inl h)⟩⟩
                      case measure => simp [intOf]; omega
                    | false =>
                      have hJ := J.out.2
                      have HJ := Lib.hid hJ
                      clear hJ
                      ((try dsimp only); (try simp only [Act.put, List.setIfInBounds_toArray, List.set_cons_zero, List.set_cons_succ]))
                      refine M_pure (i := 0) (v := ?_) rfl (by kernel_rfl) (by kernel_rfl) (by kernel_rfl) (fun _ _ _ h => h) (by rfl) ?hy ?_; (case hy => (intro w; go_simp; with_reducible rfl)); ((try dsimp only); (try simp only [Act.put, List.setIfInBounds_toArray, List.set_cons_zero, List.set_cons_succ]))
                      refine M_pure (i := 1) (v := ?_) rfl (by kernel_rfl) (by kernel_rfl) (by kernel_rfl) (fun _ _ _ h => h) (by rfl) ?hy ?_; (case hy => (intro w; go_simp; with_reducible rfl)); ((try dsimp only); (try simp only [Act.put, List.setIfInBounds_toArray, List.set_cons_zero, List.set_cons_succ]))
                      refine M_pure (i := 2) (v := ?_) rfl (by kernel_rfl) (by kernel_rfl) (by kernel_rfl) (fun _ _ _ h => h) (by rfl) ?hy ?_; (case hy => (intro w; go_simp; with_reducible rfl)); ((try dsimp only); (try simp only [Act.put, List.setIfInBounds_toArray, List.set_cons_zero, List.set_cons_succ]))
                      refine M_pure (i := 3) (v := ?_) rfl (by kernel_rfl) (by kernel_rfl) (by kernel_rfl) (fun _ _ _ h => h) (by rfl) ?hy ?_; (case hy => (intro w; go_simp; with_reducible rfl)); ((try dsimp only); (try simp only [Act.put, List.setIfInBounds_toArray, List.set_cons_zero, List.set_cons_succ]))
                      refine M_pure (i := 4) (v := ?_) rfl (by kernel_rfl) (by kernel_rfl) (by kernel_rfl) (fun _ _ _ h => h) (by rfl) ?hy ?_; (case hy => (intro w; go_simp; with_reducible rfl)); ((try dsimp only); (try simp only [Act.put, List.setIfInBounds_toArray, List.set_cons_zero, List.set_cons_succ]))
                      refine M_pure (i := 5) (v := ?_) rfl (by kernel_rfl) (by kernel_rfl) (by kernel_rfl) (fun _ _ _ h => h) (by rfl) ?hy ?_; (case hy => (intro w; go_simp; with_reducible rfl)); ((try dsimp only); (try simp only [Act.put, List.setIfInBounds_toArray, List.set_cons_zero, List.set_cons_succ]))
                      refine M_pure (i := 6) (v := ?_) rfl (by kernel_rfl) (by kernel_rfl) (by kernel_rfl) (fun _ _ _ h => h) (by rfl) ?hy ?_; (case hy => (intro w; go_simp; with_reducible rfl)); ((try dsimp only); (try simp only [Act.put, List.setIfInBounds_toArray, List.set_cons_zero, List.set_cons_succ]))
                      refine M_take (i := 7) (v := ?_) rfl (by kernel_rfl) (by kernel_rfl) (by kernel_rfl) (by kernel_rfl) (fun _ _ _ h => h) (by rfl) ?hy ?_; (case hy => (go_simp; with_reducible rfl)); ((try dsimp only); (try simp only [Act.put, List.setIfInBounds_toArray, List.set_cons_zero, List.set_cons_succ]))
                      refine M_pure (i := 8) (v := ?_) rfl (by kernel_rfl) (by kernel_rfl) (by kernel_rfl) (fun _ _ _ h => h) (by rfl) ?hy ?_; (case hy => (intro w; go_simp; with_reducible rfl)); ((try dsimp only); (try simp only [Act.put, List.setIfInBounds_toArray, List.set_cons_zero, List.set_cons_succ]))
                      refine M_pure (i := 9) (v := ?_) rfl (by kernel_rfl) (by kernel_rfl) (by kernel_rfl) (fun _ _ _ h => h) (by rfl) ?hy ?_; (case hy => (intro w; go_simp; with_reducible rfl)); ((try dsimp only); (try simp only [Act.put, List.setIfInBounds_toArray, List.set_cons_zero, List.set_cons_succ]))
                      refine M_pure (i := 10) (v := ?_) rfl (by kernel_rfl) (by kernel_rfl) (by kernel_rfl) (fun _ _ _ h => h) (by rfl) ?hy ?_; (case hy => (intro w; go_simp; with_reducible rfl)); ((try dsimp only); (try simp only [Act.put, List.setIfInBounds_toArray, List.set_cons_zero, List.set_cons_succ]))
                      refine M_pure (i := 11) (v := ?_) rfl (by kernel_rfl) (by kernel_rfl) (by kernel_rfl) (fun _ _ _ h => h) (by rfl) ?hy ?_; (case hy => (intro w; go_simp; with_reducible rfl)); ((try dsimp only); (try simp only [Act.put, List.setIfInBounds_toArray, List.set_cons_zero, List.set_cons_succ]))
                      refine M_pure (i := 12) (v := ?_) rfl (by kernel_rfl) (by kernel_rfl) (by kernel_rfl) (fun _ _ _ h => h) (by rfl) ?hy ?_; (case hy => (intro w; go_simp; with_reducible rfl)); ((try dsimp only); (try simp only [Act.put, List.setIfInBounds_toArray, List.set_cons_zero, List.set_cons_succ]))
                      refine M_take (i := 13) (v := ?_) rfl (by kernel_rfl) (by kernel_rfl) (by kernel_rfl) (by kernel_rfl) (fun _ _ _ h => h) (by rfl) ?hy ?_; (case hy => (go_simp; with_reducible rfl)); ((try dsimp only); (try simp only [Act.put, List.setIfInBounds_toArray, List.set_cons_zero, List.set_cons_succ]))
                      refine M_pure (i := 14) (v := ?_) rfl (by kernel_rfl) (by kernel_rfl) (by kernel_rfl) (fun _ _ _ h => h) (by rfl) ?hy ?_; (case hy => (intro w; go_simp; with_reducible rfl)); ((try dsimp only); (try simp only [Act.put, List.setIfInBounds_toArray, List.set_cons_zero, List.set_cons_succ]))
                      refine M_pure (i := 15) (v := ?_) rfl (by kernel_rfl) (by kernel_rfl) (by kernel_rfl) (fun _ _ _ h => h) (by rfl) ?hy ?_; (case hy => (intro w; go_simp; with_reducible rfl)); ((try dsimp only); (try simp only [Act.put, List.setIfInBounds_toArray, List.set_cons_zero, List.set_cons_succ]))
                      refine M_pure (i := 16) (v := ?_) rfl (by kernel_rfl) (by kernel_rfl) (by kernel_rfl) (fun _ _ _ h => h) (by rfl) ?hy ?_; (case hy => (intro w; go_simp; with_reducible rfl)); ((try dsimp only); (try simp only [Act.put, List.setIfInBounds_toArray, List.set_cons_zero, List.set_cons_succ]))
                      refine M_done (by kernel_rfl) ?_ _
                      clear m0 m1
                      go_wp2_with (skip; fail)
                      go_roundw
                      case rel => exact ⟨j + 1, (z == y), by omega, by go_num, rfl, Lib.hid ⟨HN2.out, by
                        rw [HM.out.2.2]
                        have h : ¬ (y ∈ t.ids ∨ y ∈ (l.map (·.1.id)).take j) := fun h => by have := HJ.out.2 h; cases this
                        simp only [List.mem_append, List.mem_singleton, beq_iff_eq]
                        constructor
                        · intro h2; exact .inr (.inr h2.symm)
                        · rintro (h2 | h2 | h2)
                          · exact absurd (.inl h2) h
                          · exact absurd (.inr h2) h
                          · exact h2.symm⟩⟩
                      case measure => simp [intOf]; omega
                  case neg =>
                    obtain rfl : j = k := by omega
                    have hsn : (l.map (·.1.id)).take (j + 1) = (l.map (·.1.id)).take j ++ [y] := by
                      rw [List.take_succ_eq_append_getElem (by simpa using hlt), HYy.out]; simp
                    cases b with
                    | true =>
                      have hno : ¬ FreshIds t.ids s.sub.ids := fun hf => by
                        have h1 : FreshIds t.ids ((l.map (·.1.id)).take (j + 1)) := by
                          rw [← HV.out.2.2.1] at hf
                          exact ⟨hf.1.sublist (List.take_sublist _ _), fun i hi => hf.2 i (List.mem_of_mem_take hi)⟩
                        rw [hsn, FreshIds.snoc] at h1
                        rcases J.out.2.1 rfl with h | h
                        · exact h1.2.2 h
                        · exact h1.2.1 h
                      have hres := HI.out
                      rw [if_neg hno] at hres
                      have HR := Lib.hid hres
                      have hIM := HU.out.2.1.kept J.out.1
                      obtain ⟨r0, r1, r2, r3⟩ := blk4 hIM.b2
                      have f0 := blkF hIM.b2 0
                      have f1 := blkF hIM.b2 1
                      have f2 := blkF hIM.b2 2
                      have f3 := blkF hIM.b2 3
                      have HIM := Lib.hid hIM
                      clear hno hres hIM hsn
                      go_wp2_with (skip; fail)
                      refine bodyPost_ret (v := .tuple #[.agg #[.int .i64 0, .int .i64 0, .string ⟨#[]⟩, .slice none 0 0], .int .i64 60]) (results_row_tmp rfl _ _ (w.heap.size + 1 + 1) _ _ _ _ _ rfl rfl (set4 (HIM.out).b2) Try.underlying24 rfl szNode) rfl (by unfold ApplyC; rw [HR.out]; exact ⟨rfl, (HIM.out).chg.andThen (chg4 M (w.heap.size + 1 + 1) _ _ _ _) (by simp; omega)⟩)
                    | false =>
                      have h : ¬ (y ∈ t.ids ∨ y ∈ (l.map (·.1.id)).take j) := fun h => by have := J.out.2.2 h; cases this
                      have hfr : FreshIds t.ids ((l.map (·.1.id)).take (j + 1)) := by
                        rw [hsn, FreshIds.snoc]
                        exact ⟨K.out.2, fun h2 => h (.inr h2), fun h2 => h (.inl h2)⟩
                      have HFr := Lib.hid hfr
                      have HJM := Lib.hid J.out.1
                      clear h hfr hsn J
                      go_wp2_with (skip; fail)
                      go_roundw
                      case rel => exact ⟨j + 1, by omega, by go_num, Lib.hid ⟨K.out.1.trans HJM.out, HFr.out⟩⟩
                      case measure => simp [intOf]; omega
end Go.Proofs.Ytofjocjljbkjgaa
namespace Go.Proofs.Ytofjocjljbkjgaa
open Go.RowKit
set_option maxHeartbeats 4000000 in
set_option maxRecDepth 100000 in
theorem mov09_any (t : Tr) (A : Option Addr) (c : Nat) (s : Stp) (As : Option Addr) (cs : Nat) (w : World) (hT : TrC (fun b => b < w.heap.size) w t [.int .i64 (Tr.id t), .int .i64 (Tr.kind t), .string (Tr.text t), .slice A (Tr.kids t).length c]) (hn : t.nodes ≤ 2000) :
    Calls Try.prog 73 #[.agg #[.int .i64 (Tr.id t), .int .i64 (Tr.kind t), .string (Tr.text t), .slice A (Tr.kids t).length c], .agg #[.int .i8 (Stp.op s), .int .i64 (Stp.id s), .int .i64 (Stp.par s), .int .i64 (Stp.place s), .string (Stp.text s), .int .i64 (Stp.sub s).id, .int .i64 (Stp.sub s).kind, .string (Stp.sub s).text, .slice As (Stp.sub s).kids.length cs]] w (ApplyC (moveT t s.id s.par s.place) w) := by
  obtain ⟨W, hW⟩ : ∃ W, W = ((w.alloc (.cells #[.int .i64 (Tr.id t), .int .i64 (Tr.kind t), .string (Tr.text t), .slice A (Tr.kids t).length c] 24)).alloc (.cells #[.int .i8 (Stp.op s), .int .i64 (Stp.id s), .int .i64 (Stp.par s), .int .i64 (Stp.place s), .string (Stp.text s), .int .i64 (Stp.sub s).id, .int .i64 (Stp.sub s).kind, .string (Stp.sub s).text, .slice As (Stp.sub s).kids.length cs] 27)).alloc (.cells #[.int .i64 0, .int .i64 0, .string ⟨#[]⟩, .slice none 0 0] 24) := ⟨_, rfl⟩
  have hU : IvW w t A c s As cs W := by rw [hW]; exact IvW.new _ _ _ _ _ _ _
  have hfind : ∀ (W' : World) (id : Int), Chg [] w W' → Calls Try.prog 29 #[.agg #[.int .i64 (Tr.id t), .int .i64 (Tr.kind t), .string (Tr.text t), .slice A (Tr.kids t).length c], .int .i64 id] W' (FindR (t.subT id) W') := fun W' id hc => rfind_any t A c id W' ((hT.kept hc (by simp)).weak (fun b hb _ => Nat.lt_of_lt_of_le hb hc.size)) hn
  have hres := moveT_ref t s.id s.par s.place
  obtain ⟨p0, p1, p2, p3⟩ := blk4 (hU).b0; obtain ⟨q0, q1, q2, q3, q4, q5, q6, q7, q8⟩ := cells9 (hU).b1
  have HW := Lib.hid (And.intro hW (And.intro hU (And.intro hfind (And.intro hT (And.intro hn hres)))))
  rw [hW] at p0 p1 p2 p3 q0 q1 q2 q3 q4 q5 q6 q7 q8
  have hl2 := lt_of_block hU.b2
  clear hW hU hfind hT hn hres
  go_enter Try.func73, Try.ntmps73
  go_wp2_with fail
  rw [← HW.out.1]
  clear p0 p1 p2 p3 q0 q1 q2 q3 q4 q5 q6 q7 q8
  refine (HW.out.2.2.1 W s.id HW.out.2.1.chg).mono ?_
  rintro e X hF
  obtain ⟨x, Ax, cx, rfl, hxn, hTx, hX⟩ := hF.any
  clear hF
  obtain ⟨Y, hY⟩ : ∃ Y, Y = X.alloc (.cells #[.int .i64 (Tr.id x), .int .i64 (Tr.kind x), .string (Tr.text x), .slice Ax (Tr.kids x).length cx] 24) := ⟨_, rfl⟩
  have hXY : Chg [] X Y := by rw [hY]; exact (by with_reducible repeat (first | exact Chg.refl _ _ | apply Chg.alloc | apply Chg.drew | apply Chg.drewN | (refine Chg.setCell ?_ _ _ (by simp))))
  have hUY := HW.out.2.1.kept (hX.trans hXY)
  have b6 : Y.heap[X.heap.size]? = some (.cells #[.int .i64 (Tr.id x), .int .i64 (Tr.kind x), .string (Tr.text x), .slice Ax (Tr.kids x).length cx] 24 (0, 0)) := by rw [hY]; exact heap_new _ _ rfl
  have HY := Lib.hid (And.intro hY (And.intro hUY (And.intro b6 (hTx.kept hXY (by simp)))))
  have HYs := Lib.hid (Nat.le_trans hX.size hXY.size)
  cases hsub : t.subT s.id with
  | none =>
    have hres := HW.out.2.2.2.2.2
    rw [hsub] at hres
    have HR := Lib.hid hres
    obtain ⟨r0, r1, r2, r3⟩ := blk4 (hUY).b2; have f0 := blkF (hUY).b2 0; have f1 := blkF (hUY).b2 1; have f2 := blkF (hUY).b2 2; have f3 := blkF (hUY).b2 3
    rw [hY] at r0 r1 r2 r3 f0 f1 f2 f3
    clear hX hXY hUY b6 hTx hxn hsub hres hY
    go_wp2_with (skip; fail)
    rw [← HY.out.1]
    refine bodyPost_ret (v := .tuple #[.agg #[.int .i64 0, .int .i64 0, .string ⟨#[]⟩, .slice none 0 0], .int .i64 4]) (results_row_tmp rfl _ _ (w.heap.size + 1 + 1) _ _ _ _ _ rfl rfl (set4 (HY.out.2.1).b2) Try.underlying24 rfl szNode) rfl (by unfold ApplyC; rw [HR.out]; exact ⟨rfl, (HY.out.2.1).chg.andThen (chg4 Y (w.heap.size + 1 + 1) _ _ _ _) (by simp; omega)⟩)
  | some x' =>
  obtain rfl : x = x' := hxn x' hsub
  have hres := HW.out.2.2.2.2.2
  rw [hsub] at hres
  simp only [] at hres
  have HX := Lib.hid (And.intro hsub hres)
  obtain ⟨p0, p1, p2, p3⟩ := blk4 (hUY).b0; obtain ⟨q0, q1, q2, q3, q4, q5, q6, q7, q8⟩ := cells9 (hUY).b1
  rw [hY] at p0 p1 p2 p3 q0 q1 q2 q3 q4 q5 q6 q7 q8
  clear hX hXY hUY b6 hTx hxn hsub hres hY
  go_wp2_with fail
  rw [← HY.out.1]
  clear p0 p1 p2 p3 q0 q1 q2 q3 q4 q5 q6 q7 q8
  refine (HW.out.2.2.1 Y s.par HY.out.2.1.chg).mono ?_
  rintro e X2 hF
  obtain ⟨z, Az, cz, rfl, _, _, hX2⟩ := hF.any
  have hU2 := HY.out.2.1.kept hX2
  have H2 := Lib.hid (And.intro hU2 (And.intro (hX2.at HY.out.2.2.1 (by simp)) hX2))
  clear hF hX2
  cases hsub : t.subT s.par with
  | none =>
    have hres := HX.out.2
    rw [hsub] at hres
    have HR := Lib.hid hres
    obtain ⟨r0, r1, r2, r3⟩ := blk4 (hU2).b2; have f0 := blkF (hU2).b2 0; have f1 := blkF (hU2).b2 1; have f2 := blkF (hU2).b2 2; have f3 := blkF (hU2).b2 3
    clear hsub hres hU2
    go_wp2_with (skip; fail)
    refine bodyPost_ret (v := .tuple #[.agg #[.int .i64 0, .int .i64 0, .string ⟨#[]⟩, .slice none 0 0], .int .i64 4]) (results_row_tmp rfl _ _ (w.heap.size + 1 + 1) _ _ _ _ _ rfl rfl (set4 (H2.out.1).b2) Try.underlying24 rfl szNode) rfl (by unfold ApplyC; rw [HR.out]; exact ⟨rfl, (H2.out.1).chg.andThen (chg4 X2 (w.heap.size + 1 + 1) _ _ _ _) (by simp; omega)⟩)
  | some z' =>
  have hres := HX.out.2
  rw [hsub] at hres
  simp only [] at hres
  have HX3 := Lib.hid hres
  clear hsub hres
  obtain ⟨p0, p1, p2, p3⟩ := blk4 (hU2).b0; obtain ⟨q0, q1, q2, q3, q4, q5, q6, q7, q8⟩ := cells9 (hU2).b1
  by_cases h0 : t.id = s.id
  case pos =>
    have hres := HX3.out
    rw [if_pos h0] at hres
    have HR := Lib.hid hres
    have hb : (t.id == s.id) = true := by simpa using h0
    obtain ⟨r0, r1, r2, r3⟩ := blk4 (hU2).b2; have f0 := blkF (hU2).b2 0; have f1 := blkF (hU2).b2 1; have f2 := blkF (hU2).b2 2; have f3 := blkF (hU2).b2 3
    clear hres h0 hU2
    go_wp2_with (skip; fail)
    refine bodyPost_ret (v := .tuple #[.agg #[.int .i64 0, .int .i64 0, .string ⟨#[]⟩, .slice none 0 0], .int .i64 90]) (results_row_tmp rfl _ _ (w.heap.size + 1 + 1) _ _ _ _ _ rfl rfl (set4 (H2.out.1).b2) Try.underlying24 rfl szNode) rfl (by unfold ApplyC; rw [HR.out]; exact ⟨rfl, (H2.out.1).chg.andThen (chg4 X2 (w.heap.size + 1 + 1) _ _ _ _) (by simp; omega)⟩)
  case neg =>
  have hb : (t.id == s.id) = false := by simpa using h0
  have hres := HX3.out
  rw [if_neg h0] at hres
  have hxn : x.nodes ≤ 2000 := by obtain ⟨p, _, hat, _⟩ := subT_path HX.out.1; have := Tr.at_nodes p t x hat; have := HW.out.2.2.2.2.1; omega
  have hTx2 : TrC (fun b => b < X2.heap.size) X2 x [.int .i64 (Tr.id x), .int .i64 (Tr.kind x), .string (Tr.text x), .slice Ax (Tr.kids x).length cx] := (HY.out.2.2.2.kept H2.out.2.2 (by simp)).weak (fun b hb _ => by have := HY.out.2.1.chg.size; have := H2.out.2.2.size; have := lt_of_block HY.out.2.2.1; have := lt_of_block HW.out.2.1.b2; have := HW.out.2.1.chg.size; have := HYs.out; omega)
  have hfx := rfind_any x Ax cx s.par X2 hTx2 hxn
  have HX4 := Lib.hid (And.intro hres (And.intro h0 (And.intro hfx hxn)))
  obtain ⟨n0, n1, n2, n3⟩ := blk4 H2.out.2.1
  clear hres h0 hxn hTx2 hfx hU2
  go_wp2_with fail
  clear p0 p1 p2 p3 q0 q1 q2 q3 q4 q5 q6 q7 q8
  clear n0 n1 n2 n3
  refine HX4.out.2.2.1.mono ?_
  rintro e X3 hF
  obtain ⟨z2, Az2, cz2, rfl, _, _, hX3⟩ := hF.any
  have hU3 := H2.out.1.kept hX3
  have H3 := Lib.hid (And.intro hU3 (And.intro (hX3.at H2.out.2.1 (by simp)) (H2.out.2.2.trans hX3)))
  clear hF hX3
  cases hsub : x.subT s.par with
  | some z3 =>
    have hres := HX4.out.1
    rw [hsub] at hres
    have HR := Lib.hid hres
    obtain ⟨r0, r1, r2, r3⟩ := blk4 (hU3).b2; have f0 := blkF (hU3).b2 0; have f1 := blkF (hU3).b2 1; have f2 := blkF (hU3).b2 2; have f3 := blkF (hU3).b2 3
    clear hsub hres hU3
    go_wp2_with (skip; fail)
    refine bodyPost_ret (v := .tuple #[.agg #[.int .i64 0, .int .i64 0, .string ⟨#[]⟩, .slice none 0 0], .int .i64 91]) (results_row_tmp rfl _ _ (w.heap.size + 1 + 1) _ _ _ _ _ rfl rfl (set4 (H3.out.1).b2) Try.underlying24 rfl szNode) rfl (by unfold ApplyC; rw [HR.out]; exact ⟨rfl, (H3.out.1).chg.andThen (chg4 X3 (w.heap.size + 1 + 1) _ _ _ _) (by simp; omega)⟩)
  | none =>
  have hres := HX4.out.1
  rw [hsub] at hres
  simp only [] at hres
  obtain ⟨r, pn, k, ho, hpar, _, hrep⟩ := out_some HX.out.1 HX4.out.2.1
  rw [ho] at hres
  simp only [] at hres
  have hrn : r.nodes ≤ 2000 := by have := Tr.out_nodes s.id t x r ho; have := HW.out.2.2.2.2.1; omega
  have hwo := without_any t A c s.id pn k X3 ((HW.out.2.2.2.1.kept hU3.chg (by simp)).weak (fun b hb _ => Nat.lt_of_lt_of_le hb hU3.chg.size)) (by have := HW.out.2.2.2.2.1; omega) hpar
  rw [hrep] at hwo
  obtain ⟨p0, p1, p2, p3⟩ := blk4 (hU3).b0; obtain ⟨q0, q1, q2, q3, q4, q5, q6, q7, q8⟩ := cells9 (hU3).b1
  have HX5 := Lib.hid (And.intro hres (And.intro hwo hrn))
  clear hsub hres ho hpar hrep hrn hwo hU3
  go_wp2_with fail
  clear p0 p1 p2 p3 q0 q1 q2 q3 q4 q5 q6 q7 q8
  refine HX5.out.2.1.mono ?_
  rintro e X5 ⟨A8, c8, rfl, hV8, hX5⟩
  obtain ⟨Y5, hY5⟩ : ∃ Y5, Y5 = X5.alloc (.cells #[.int .i64 (Tr.id r), .int .i64 (Tr.kind r), .string (Tr.text r), .slice A8 (Tr.kids r).length c8] 24) := ⟨_, rfl⟩
  have hXY : Chg [] X5 Y5 := by rw [hY5]; exact (by with_reducible repeat (first | exact Chg.refl _ _ | apply Chg.alloc | apply Chg.drew | apply Chg.drewN | (refine Chg.setCell ?_ _ _ (by simp))))
  have hU5 := H3.out.1.kept (hX5.trans hXY)
  have b8 : Y5.heap[X5.heap.size]? = some (.cells #[.int .i64 (Tr.id r), .int .i64 (Tr.kind r), .string (Tr.text r), .slice A8 (Tr.kids r).length c8] 24 (0, 0)) := by rw [hY5]; exact heap_new _ _ rfl
  have hT8 : TrC (fun b => b < Y5.heap.size) Y5 r [.int .i64 (Tr.id r), .int .i64 (Tr.kind r), .string (Tr.text r), .slice A8 (Tr.kids r).length c8] := (hV8.toC.kept hXY (by simp)).weak (fun b hb _ => by have := hXY.size; omega)
  have hfr := rfind_any r A8 c8 s.par Y5 hT8 HX5.out.2.2
  have H5 := Lib.hid (And.intro hY5 (And.intro hU5 (And.intro b8 (And.intro hT8 (And.intro ((hX5.trans hXY).at H3.out.2.1 (by simp)) (And.intro hfr (H3.out.2.2.trans (hX5.trans hXY))))))))
  obtain ⟨p0, p1, p2, p3⟩ := blk4 (hU5).b0; obtain ⟨q0, q1, q2, q3, q4, q5, q6, q7, q8⟩ := cells9 (hU5).b1
  obtain ⟨n0, n1, n2, n3⟩ := blk4 b8
  rw [hY5] at p0 p1 p2 p3 q0 q1 q2 q3 q4 q5 q6 q7 q8 n0 n1 n2 n3
  clear hV8 hX5 hXY hU5 b8 hT8 hfr hY5
  go_wp2_with fail
  rw [← H5.out.1]
  clear p0 p1 p2 p3 q0 q1 q2 q3 q4 q5 q6 q7 q8
  clear n0 n1 n2 n3
  refine H5.out.2.2.2.2.2.1.mono ?_
  rintro e X6 hF
  obtain ⟨n, An, cn, rfl, hnn, hTn, hX6⟩ := hF.any
  clear hF
  obtain ⟨Y6, hY6⟩ : ∃ Y6, Y6 = X6.alloc (.cells #[.int .i64 (Tr.id n), .int .i64 (Tr.kind n), .string (Tr.text n), .slice An (Tr.kids n).length cn] 24) := ⟨_, rfl⟩
  have hXY : Chg [] X6 Y6 := by rw [hY6]; exact (by with_reducible repeat (first | exact Chg.refl _ _ | apply Chg.alloc | apply Chg.drew | apply Chg.drewN | (refine Chg.setCell ?_ _ _ (by simp))))
  have hU6 := H5.out.2.1.kept (hX6.trans hXY)
  have b9 : Y6.heap[X6.heap.size]? = some (.cells #[.int .i64 (Tr.id n), .int .i64 (Tr.kind n), .string (Tr.text n), .slice An (Tr.kids n).length cn] 24 (0, 0)) := by rw [hY6]; exact heap_new _ _ rfl
  have H6 := Lib.hid (And.intro hY6 (And.intro hU6 (And.intro b9 (And.intro (hTn.kept hXY (by simp)) (And.intro ((hX6.trans hXY).at H5.out.2.2.1 (by simp)) (And.intro ((hX6.trans hXY).at H5.out.2.2.2.2.1 (by simp)) (hX6.trans hXY)))))))
  cases hsub : r.subT s.par with
  | none =>
    have hres := HX5.out.1
    rw [hsub] at hres
    have HR := Lib.hid hres
    obtain ⟨r0, r1, r2, r3⟩ := blk4 (hU6).b2; have f0 := blkF (hU6).b2 0; have f1 := blkF (hU6).b2 1; have f2 := blkF (hU6).b2 2; have f3 := blkF (hU6).b2 3
    obtain ⟨p0, p1, p2, p3⟩ := blk4 (hU6).b0; obtain ⟨q0, q1, q2, q3, q4, q5, q6, q7, q8⟩ := cells9 (hU6).b1
    rw [hY6] at r0 r1 r2 r3 f0 f1 f2 f3 p0 p1 p2 p3 q0 q1 q2 q3 q4 q5 q6 q7 q8
    clear hX6 hXY hU6 b9 hTn hnn hsub hres hY6
    go_wp2_with (skip; fail)
    rw [← H6.out.1]
    refine bodyPost_ret (v := .tuple #[.agg #[.int .i64 0, .int .i64 0, .string ⟨#[]⟩, .slice none 0 0], .int .i64 2]) (results_row_tmp rfl _ _ (w.heap.size + 1 + 1) _ _ _ _ _ rfl rfl (set4 (H6.out.2.1).b2) Try.underlying24 rfl szNode) rfl (by unfold ApplyC; rw [HR.out]; exact ⟨rfl, (H6.out.2.1).chg.andThen (chg4 Y6 (w.heap.size + 1 + 1) _ _ _ _) (by simp; omega)⟩)
  | some n' =>
  obtain rfl : n = n' := hnn n' hsub
  have hres := HX5.out.1
  rw [hsub] at hres
  simp only [] at hres
  have HN := Lib.hid hsub
  obtain ⟨p0, p1, p2, p3⟩ := blk4 (hU6).b0; obtain ⟨q0, q1, q2, q3, q4, q5, q6, q7, q8⟩ := cells9 (hU6).b1
  obtain ⟨n0, n1, n2, n3⟩ := blk4 b9
  by_cases hpl : 0 ≤ s.place ∧ s.place ≤ n.kids.length
  case neg =>
    rw [if_neg hpl] at hres
    have HR := Lib.hid hres
    have hd : decide (s.place < 0) = true ∨ (decide (s.place < 0) = false ∧ decide ((n.kids.length : Int) < s.place) = true) := by
      by_cases h : s.place < 0
      · exact .inl (decide_eq_true h)
      · exact .inr ⟨decide_eq_false h, decide_eq_true (by omega)⟩
    obtain ⟨r0, r1, r2, r3⟩ := blk4 (hU6).b2; have f0 := blkF (hU6).b2 0; have f1 := blkF (hU6).b2 1; have f2 := blkF (hU6).b2 2; have f3 := blkF (hU6).b2 3
    rw [hY6] at r0 r1 r2 r3 f0 f1 f2 f3 p0 p1 p2 p3 q0 q1 q2 q3 q4 q5 q6 q7 q8 n0 n1 n2 n3
    clear hX6 hXY hU6 b9 hTn hnn hsub hres hY6 hpl
    rcases hd with hd | ⟨hd, hd2⟩
    all_goals
      go_wp2_with (skip; fail)
      rw [← H6.out.1]
      refine bodyPost_ret (v := .tuple #[.agg #[.int .i64 0, .int .i64 0, .string ⟨#[]⟩, .slice none 0 0], .int .i64 2]) (results_row_tmp rfl _ _ (w.heap.size + 1 + 1) _ _ _ _ _ rfl rfl (set4 (H6.out.2.1).b2) Try.underlying24 rfl szNode) rfl (by unfold ApplyC; rw [HR.out]; exact ⟨rfl, (H6.out.2.1).chg.andThen (chg4 Y6 (w.heap.size + 1 + 1) _ _ _ _) (by simp; omega)⟩)
  case pos =>
  rw [if_pos hpl] at hres
  have hd : decide (s.place < 0) = false := decide_eq_false (by omega)
  have hd2 : decide ((n.kids.length : Int) < s.place) = false := decide_eq_false (by omega)
  have HP := Lib.hid (And.intro hpl hres)
  rw [hY6] at p0 p1 p2 p3 q0 q1 q2 q3 q4 q5 q6 q7 q8 n0 n1 n2 n3
  clear hX6 hXY hU6 b9 hTn hnn hsub hres hY6 hpl
  go_wp2_with (skip; fail)
  rw [← H6.out.1]
  clear p0 p1 p2 p3 q0 q1 q2 q3 q4 q5 q6 q7 q8
  clear n0 n1 n2 n3 hd hd2 hb
  obtain ⟨pn', hpn⟩ : ∃ pn' : Nat, (pn' : Int) = s.place := ⟨s.place.toNat, by have := HP.out.1; omega⟩
  have hpt : s.place.toNat = pn' := by omega
  have hpk : pn' ≤ n.kids.length := by have := HP.out.1; omega
  have hres := HP.out.2
  rw [hpt] at hres
  have HR := Lib.hid hres
  obtain ⟨A', c', hcs', hlc', hcm', htx', hKn⟩ := H6.out.2.2.2.1.opens
  simp only [List.cons.injEq, Value.slice.injEq, true_and, and_true] at hcs'
  obtain ⟨rfl, rfl⟩ := hcs'
  have hnn : n.nodes ≤ 2000 := by obtain ⟨p, _, hat, _⟩ := subT_path HN.out; have := Tr.at_nodes p r n hat; have := HX5.out.2.2; omega
  have hkl : n.kids.length ≤ 100000 := by have := nodesL_len n.kids; rw [Tr.nodes_eq] at hnn; omega
  have hkn : nodesL (insAt n.kids pn' x) ≤ 100000 := by rw [insAt_nodes]; have := HX4.out.2.2.2; rw [Tr.nodes_eq] at hnn; omega
  have HE := Lib.hid (And.intro hpn (And.intro hpk (And.intro hlc' (And.intro hcm' (And.intro htx' (And.intro hKn (And.intro hkl hkn)))))))
  clear hres hpn hpt hpk hlc' hcm' htx' hKn hnn hkl hkn
  refine wp_region_M (fun W => IvW w t A c s As cs W ∧ W.heap[X6.heap.size]? = some (.cells #[.int .i64 (Tr.id n), .int .i64 (Tr.kind n), .string (Tr.text n), .slice An (Tr.kids n).length cn] 24 (0, 0)) ∧ W.heap[X5.heap.size]? = some (.cells #[.int .i64 (Tr.id r), .int .i64 (Tr.kind r), .string (Tr.text r), .slice A8 (Tr.kids r).length c8] 24 (0, 0))) (fun k => [8, 11, 12].contains k) (fun k => [12].contains k) (by kernel_rfl) ?_
  obtain ⟨Q, hQ⟩ : ∃ Q, Q = Y6.drew := ⟨_, rfl⟩
  rw [← hQ]
  have hUQ : Chg [] Y6 Q := by rw [hQ]; exact (Chg.refl _ _).drew
  clear hQ
  have hIQ := H6.out.2.1.kept hUQ
  have h9Q := hUQ.at H6.out.2.2.1 (by simp)
  have h8Q := hUQ.at H6.out.2.2.2.2.1 (by simp)
  have h6Q := hUQ.at H6.out.2.2.2.2.2.1 (by simp)
  have hall : ∀ Z : World, (IvW w t A c s As cs Z ∧ Z.heap[X6.heap.size]? = some (.cells #[.int .i64 (Tr.id n), .int .i64 (Tr.kind n), .string (Tr.text n), .slice An (Tr.kids n).length cn] 24 (0, 0)) ∧ Z.heap[X5.heap.size]? = some (.cells #[.int .i64 (Tr.id r), .int .i64 (Tr.kind r), .string (Tr.text r), .slice A8 (Tr.kids r).length c8] 24 (0, 0))) → Z.rangeAt X5.heap.size 0 [.int .i64 (Tr.id r), .int .i64 (Tr.kind r), .string (Tr.text r), .slice A8 (Tr.kids r).length c8] ∧ Z.cell? ⟨w.heap.size + 1, 2, none⟩ = some (.int .i64 s.par) ∧ Z.cell? ⟨X6.heap.size, 2, none⟩ = some (.string n.text) := fun Z h => ⟨range_all h.2.2, (cells9 h.1.b1).2.2.1, (blk4 h.2.1).2.2.1⟩
  have hS : IvW w t A c s As cs Q ∧ Q.heap[X6.heap.size]? = some (.cells #[.int .i64 (Tr.id n), .int .i64 (Tr.kind n), .string (Tr.text n), .slice An (Tr.kids n).length cn] 24 (0, 0)) ∧ Q.heap[X5.heap.size]? = some (.cells #[.int .i64 (Tr.id r), .int .i64 (Tr.kind r), .string (Tr.text r), .slice A8 (Tr.kids r).length c8] 24 (0, 0)) := ⟨hIQ, h9Q, h8Q⟩
  have q3 := (cells9 hIQ.b1).2.2.2.1
  rw [← HE.out.1] at q3
  have n3 := (blk4 h9Q).2.2.2
  have HQ := Lib.hid (And.intro hUQ (And.intro hIQ (And.intro h9Q (And.intro hall (And.intro (range_all h6Q : Q.rangeAt X.heap.size 0 [.int .i64 (Tr.id x), .int .i64 (Tr.kind x), .string (Tr.text x), .slice Ax (Tr.kids x).length cx]) h8Q)))))
  clear hUQ hIQ h9Q h8Q h6Q hall
  ((try dsimp only); (try simp only [Act.put, List.setIfInBounds_toArray, List.set_cons_zero, List.set_cons_succ]))
  refine M_semi (i := 0) rfl (by kernel_rfl) (by kernel_rfl) (by kernel_rfl) (by kernel_rfl) (fun _ _ _ h => h) (by rfl) hS (fun W hS => exec_load_mid 24 (.tmp 8) rfl X5.heap.size 0 rfl _ _ (HQ.out.2.2.2.1 _ hS).1 Try.underlying24 rfl szNode) ?_; ((try dsimp only); (try simp only [Act.put, List.setIfInBounds_toArray, List.set_cons_zero, List.set_cons_succ]))
  refine M_pure (i := 1) (v := ?_) rfl (by kernel_rfl) (by kernel_rfl) (by kernel_rfl) (fun _ _ _ h => h) (by rfl) ?hy ?_; (case hy => (intro w; go_simp; with_reducible rfl)); ((try dsimp only); (try simp only [Act.put, List.setIfInBounds_toArray, List.set_cons_zero, List.set_cons_succ]))
  refine M_semi (i := 2) (v := ?_) rfl (by kernel_rfl) (by kernel_rfl) (by kernel_rfl) (by kernel_rfl) (fun _ _ _ h => h) (by rfl) hS ?hy ?_
  case hy => (intro w' hS; have h2 := (HQ.out.2.2.2.1 w' hS).2.1; clear hS; go_simp; with_reducible rfl)
  ((try dsimp only); (try simp only [Act.put, List.setIfInBounds_toArray, List.set_cons_zero, List.set_cons_succ]))
  refine M_pure (i := 3) (v := ?_) rfl (by kernel_rfl) (by kernel_rfl) (by kernel_rfl) (fun _ _ _ h => h) (by rfl) ?hy ?_; (case hy => (intro w; go_simp; with_reducible rfl)); ((try dsimp only); (try simp only [Act.put, List.setIfInBounds_toArray, List.set_cons_zero, List.set_cons_succ]))
  refine M_take (i := 4) (v := ?_) rfl (by kernel_rfl) (by kernel_rfl) (by kernel_rfl) (by kernel_rfl) (fun _ _ _ h => h) (by rfl) ?hy ?_; (case hy => (go_simp; with_reducible rfl)); ((try dsimp only); (try simp only [Act.put, List.setIfInBounds_toArray, List.set_cons_zero, List.set_cons_succ]))
  refine M_pure (i := 5) (v := ?_) rfl (by kernel_rfl) (by kernel_rfl) (by kernel_rfl) (fun _ _ _ h => h) (by rfl) ?hy ?_; (case hy => (intro w; go_simp; with_reducible rfl)); ((try dsimp only); (try simp only [Act.put, List.setIfInBounds_toArray, List.set_cons_zero, List.set_cons_succ]))
  refine M_take (i := 6) (v := ?_) rfl (by kernel_rfl) (by kernel_rfl) (by kernel_rfl) (by kernel_rfl) (fun _ _ _ h => h) (by rfl) ?hy ?_; (case hy => (go_simp; with_reducible rfl)); ((try dsimp only); (try simp only [Act.put, List.setIfInBounds_toArray, List.set_cons_zero, List.set_cons_succ]))
  refine M_take (i := 7) rfl (by kernel_rfl) (by kernel_rfl) (by kernel_rfl) (by kernel_rfl) (fun _ _ _ h => h) (by rfl) (exec_load_mid 24 (.tmp 6) rfl X.heap.size 0 rfl _ _ HQ.out.2.2.2.2.1 Try.underlying24 rfl szNode) ?_; ((try dsimp only); (try simp only [Act.put, List.setIfInBounds_toArray, List.set_cons_zero, List.set_cons_succ]))
  refine M_pure (i := 9) (v := ?_) rfl (by kernel_rfl) (by kernel_rfl) (by kernel_rfl) (fun _ _ _ h => h) (by rfl) ?hy ?_; (case hy => (intro w; go_simp; with_reducible rfl)); ((try dsimp only); (try simp only [Act.put, List.setIfInBounds_toArray, List.set_cons_zero, List.set_cons_succ]))
  refine M_semi (i := 10) (v := ?_) rfl (by kernel_rfl) (by kernel_rfl) (by kernel_rfl) (by kernel_rfl) (fun _ _ _ h => h) (by rfl) hS ?hy ?_
  case hy => (intro w' hS; have h2 := (HQ.out.2.2.2.1 w' hS).2.2; clear hS; go_simp; with_reducible rfl)
  ((try dsimp only); (try simp only [Act.put, List.setIfInBounds_toArray, List.set_cons_zero, List.set_cons_succ]))
  clear q3 n3 hS
  refine M_eff (i := 8) rfl (by kernel_rfl) (by rfl) ?_
  go_wp2_with fail
  have hYQ : Chg [] Y Q := H5.out.2.2.2.2.2.2.trans (H6.out.2.2.2.2.2.2.trans HQ.out.1)
  have hWQ : W.heap.size ≤ Q.heap.size := by have := HYs.out; have := hYQ.size; omega
  have h5Q : Y5.heap.size ≤ Q.heap.size := (H6.out.2.2.2.2.2.2.trans HQ.out.1).size
  refine (inserted_any n.kids An cn pn' x Ax cx Q ((HE.out.2.2.2.2.2.1.kept HQ.out.1 (by simp)).weak (fun b hb _ => by omega)) ⟨HE.out.2.2.1, HE.out.2.2.2.1⟩ HE.out.2.1 ((HY.out.2.2.2.kept hYQ (by simp)).weak (fun b hb _ => by omega)) HE.out.2.2.2.2.2.2.1).mono ?_
  clear hYQ hWQ
  obtain ⟨ks, hks⟩ : ∃ ks, ks = insAt n.kids pn' x := ⟨_, rfl⟩
  rw [← hks]
  have HKs := Lib.hid hks
  rintro e X9 ⟨A9, c9, rfl, hrow, hX9⟩
  obtain ⟨_, hcl, hcm, hKr⟩ := hrow.toC
  have hI9 := HQ.out.2.1.kept hX9
  have hS9 : IvW w t A c s As cs X9 ∧ X9.heap[X6.heap.size]? = some (.cells #[.int .i64 (Tr.id n), .int .i64 (Tr.kind n), .string (Tr.text n), .slice An (Tr.kids n).length cn] 24 (0, 0)) ∧ X9.heap[X5.heap.size]? = some (.cells #[.int .i64 (Tr.id r), .int .i64 (Tr.kind r), .string (Tr.text r), .slice A8 (Tr.kids r).length c8] 24 (0, 0)) := ⟨hI9, hX9.at HQ.out.2.2.1 (by simp), hX9.at HQ.out.2.2.2.2.2 (by simp)⟩
  have hput := put09_any r A8 c8 s.par ks A9 c9 n.text X9 ((H5.out.2.2.2.1.kept (H6.out.2.2.2.2.2.2.trans (HQ.out.1.trans hX9)) (by simp)).weak (fun b hb _ => by have := hX9.size; omega)) hKr (by have := HX5.out.2.2; omega) (by rw [hks]; exact HE.out.2.2.2.2.2.2.2) HE.out.2.2.2.2.1 hcl hcm
  have H9 := Lib.hid (And.intro hI9 (And.intro hput (And.intro hS9.2.1 hS9.2.2)))
  clear hks hrow hX9 hcl hcm hKr hI9 hput h5Q
  go_wp2_with fail
  refine ⟨hS9, ?_⟩
  clear hS9
  ((try dsimp only); (try simp only [Act.put, List.setIfInBounds_toArray, List.set_cons_zero, List.set_cons_succ]))
  refine M_eff (i := 11) rfl (by kernel_rfl) (by rfl) ?_
  go_wp2_with fail
  refine H9.out.2.1.mono ?_
  obtain ⟨r9, hr⟩ : ∃ r9, r9 = (makesT s.par ks n.text r false).1 := ⟨_, rfl⟩
  rw [← hr]
  have HRr := Lib.hid hr
  clear hr
  rintro e Z ⟨Ar, cr, rfl, hVr, hZ⟩
  have hIZ := H9.out.1.kept hZ
  have hSZ : IvW w t A c s As cs Z ∧ Z.heap[X6.heap.size]? = some (.cells #[.int .i64 (Tr.id n), .int .i64 (Tr.kind n), .string (Tr.text n), .slice An (Tr.kids n).length cn] 24 (0, 0)) ∧ Z.heap[X5.heap.size]? = some (.cells #[.int .i64 (Tr.id r), .int .i64 (Tr.kind r), .string (Tr.text r), .slice A8 (Tr.kids r).length c8] 24 (0, 0)) := ⟨hIZ, hZ.at H9.out.2.2.1 (by simp), hZ.at H9.out.2.2.2 (by simp)⟩
  have HZ := Lib.hid (And.intro hVr (And.intro hIZ hZ.size))
  obtain ⟨r0, r1, r2, r3⟩ := blk4 (hIZ).b2; have f0 := blkF (hIZ).b2 0; have f1 := blkF (hIZ).b2 1; have f2 := blkF (hIZ).b2 2; have f3 := blkF (hIZ).b2 3
  clear hVr hZ hIZ
  go_wp2_with fail
  refine ⟨hSZ, ?_⟩
  clear hSZ
  refine M_brk (i := 12) rfl (by kernel_rfl) (by rfl) (by rfl) ?_
  go_wp2_with fail
  ((try dsimp only [EffQ]); (try simp only [Act.put, List.setIfInBounds_toArray, List.set_cons_zero, List.set_cons_succ]))
  refine M_pure (i := 13) (v := ?_) rfl (by kernel_rfl) (by kernel_rfl) (by kernel_rfl) (fun _ _ _ h => h) (by rfl) ?hy ?_; (case hy => (intro w; go_simp; with_reducible rfl)); ((try dsimp only); (try simp only [Act.put, List.setIfInBounds_toArray, List.set_cons_zero, List.set_cons_succ]))
  refine M_done (by kernel_rfl) ?_ _
  go_wp2_with (skip; fail)
  have hc4 := chg4 Z (w.heap.size + 1 + 1) (.int .i64 r9.id) (.int .i64 r9.kind) (.string r9.text) (.slice Ar r9.kids.length cr)
  have hs4 := hc4.size
  have h9 := H9.out.1.chg.size
  have h92 := lt_of_block H9.out.1.b2
  refine bodyPost_ret (v := .tuple #[.agg #[.int .i64 (Tr.id r9), .int .i64 (Tr.kind r9), .string (Tr.text r9), .slice Ar (Tr.kids r9).length cr], .int .i64 0]) (results_row_tmp rfl _ _ (w.heap.size + 1 + 1) _ _ _ _ _ rfl rfl (set4 HZ.out.2.1.b2) Try.underlying24 rfl szNode) rfl ?_
  unfold ApplyC
  rw [HR.out, ← HKs.out, ← HRr.out]
  exact ⟨Ar, cr, rfl, (HZ.out.1.toC.kept hc4 (fun g hg => by simp; omega)).weak (fun g hg _ => ⟨by omega, by omega⟩), HZ.out.2.1.chg.andThen hc4 (by simp; omega)⟩
end Go.Proofs.Ytofjocjljbkjgaa
namespace Go.Proofs.Ytofjocjljbkjgaa
open Go.RowKit
theorem ApplyC.any {res : Except Int Tr} {w : World} {e : Ending} {w' : World} (h : ApplyC res w e w') : ∃ (x : Tr) (A : Option Addr) (c : Nat) (n : Int), e = .returned (.tuple #[.agg #[.int .i64 (Tr.id x), .int .i64 (Tr.kind x), .string (Tr.text x), .slice A (Tr.kids x).length c], .int .i64 n]) ∧ Chg [] w w' ∧ ∀ (w0 w2 : World) (b : Nat), Chg [] w0 w → b < w.heap.size → w0.heap.size ≤ b → Chg [b] w' w2 → ApplyC res w0 (.returned (.tuple #[.agg #[.int .i64 (Tr.id x), .int .i64 (Tr.kind x), .string (Tr.text x), .slice A (Tr.kids x).length c], .int .i64 n])) w2 := by
  unfold ApplyC at h
  cases res with
  | error n => exact ⟨zeroT, none, 0, n, h.1, h.2, fun w0 w2 b h0 hb hb0 h2 => ⟨rfl, (h0.trans h.2).andThen h2 (by simp; omega)⟩⟩
  | ok t' =>
    obtain ⟨A, c, h1, h2, h3⟩ := h
    refine ⟨t', A, c, 0, h1, h3, fun w0 w2 b h0 hb hb0 h4 => ⟨A, c, rfl, (h2.kept h4 (fun g hg => by simp; omega)).weak (fun g hg _ => ⟨by have := h0.size; omega, by have := h4.size; omega⟩), (h0.trans h3).andThen h4 (by simp; omega)⟩⟩
set_option maxHeartbeats 4000000 in
set_option maxRecDepth 100000 in
theorem apply09_any (t : Tr) (A : Option Addr) (c : Nat) (s : Stp) (As : Option Addr) (cs : Nat) (w : World) (hT : TrC (fun b => b < w.heap.size) w t [.int .i64 (Tr.id t), .int .i64 (Tr.kind t), .string (Tr.text t), .slice A (Tr.kids t).length c]) (hS : StpC (fun b => b < w.heap.size) w s (#[.int .i8 (Stp.op s), .int .i64 (Stp.id s), .int .i64 (Stp.par s), .int .i64 (Stp.place s), .string (Stp.text s), .int .i64 (Stp.sub s).id, .int .i64 (Stp.sub s).kind, .string (Stp.sub s).text, .slice As (Stp.sub s).kids.length cs] : Array Value).toList) :
    Calls Try.prog 33 #[.agg #[.int .i64 (Tr.id t), .int .i64 (Tr.kind t), .string (Tr.text t), .slice A (Tr.kids t).length c], .agg #[.int .i8 (Stp.op s), .int .i64 (Stp.id s), .int .i64 (Stp.par s), .int .i64 (Stp.place s), .string (Stp.text s), .int .i64 (Stp.sub s).id, .int .i64 (Stp.sub s).kind, .string (Stp.sub s).text, .slice As (Stp.sub s).kids.length cs]] w (ApplyC (applyT t s) w) := by
  obtain ⟨W, hW⟩ : ∃ W, W = ((w.alloc (.cells #[.int .i64 (Tr.id t), .int .i64 (Tr.kind t), .string (Tr.text t), .slice A (Tr.kids t).length c] 24)).alloc (.cells #[.int .i8 (Stp.op s), .int .i64 (Stp.id s), .int .i64 (Stp.par s), .int .i64 (Stp.place s), .string (Stp.text s), .int .i64 (Stp.sub s).id, .int .i64 (Stp.sub s).kind, .string (Stp.sub s).text, .slice As (Stp.sub s).kids.length cs] 27)).alloc (.cells #[.int .i64 0, .int .i64 0, .string ⟨#[]⟩, .slice none 0 0] 24) := ⟨_, rfl⟩
  have hU : IvW w t A c s As cs W := by rw [hW]; exact IvW.new _ _ _ _ _ _ _
  obtain ⟨As', cs', e, hsub, htx, _⟩ := hS
  simp only [List.cons.injEq, Value.slice.injEq, true_and, and_true] at e
  obtain ⟨rfl, rfl⟩ := e
  have htC : ∀ W', Chg [] w W' → TrC (fun b => b < W'.heap.size) W' t [.int .i64 (Tr.id t), .int .i64 (Tr.kind t), .string (Tr.text t), .slice A (Tr.kids t).length c] := fun W' hc => hT.next hc
  have hsC : ∀ W', Chg [] w W' → TrC (fun b => b < W'.heap.size) W' s.sub [.int .i64 (Tr.id s.sub), .int .i64 (Tr.kind s.sub), .string (Tr.text s.sub), .slice As (Tr.kids s.sub).length cs] := fun W' hc => hsub.next hc
  obtain ⟨p0, p1, p2, p3⟩ := blk4 (hU).b0; obtain ⟨q0, q1, q2, q3, q4, q5, q6, q7, q8⟩ := cells9 (hU).b1
  have HW := Lib.hid (And.intro hW (And.intro hU (And.intro htC (And.intro hsC htx))))
  rw [hW] at p0 p1 p2 p3 q0 q1 q2 q3 q4 q5 q6 q7 q8
  have hl2 := lt_of_block hU.b2
  clear hW hU hT hsub htx htC hsC
  go_enter Try.func33, Try.ntmps33
  go_wp2_with fail
  rw [← HW.out.1]
  clear p0 p1 p2 p3 q0 q1 q2 q3 q4 q5 q6 q7 q8
  refine (great01_any t A c W (HW.out.2.2.1 W HW.out.2.1.chg)).mono ?_
  rintro e X ⟨rfl, hX⟩
  have hUX := HW.out.2.1.kept hX
  have HX := Lib.hid hUX
  by_cases hbig : 2000 < t.nodes
  case pos =>
    rw [decide_eq_true hbig]
    have HR := Lib.hid (show applyT t s = .error 2 by unfold applyT; rw [if_neg (by omega)])
    obtain ⟨r0, r1, r2, r3⟩ := blk4 (hUX).b2; have f0 := blkF (hUX).b2 0; have f1 := blkF (hUX).b2 1; have f2 := blkF (hUX).b2 2; have f3 := blkF (hUX).b2 3
    clear hX hUX hbig
    go_wp2_with (skip; fail)
    refine bodyPost_ret (v := .tuple #[.agg #[.int .i64 0, .int .i64 0, .string ⟨#[]⟩, .slice none 0 0], .int .i64 2]) (results_row_tmp rfl _ _ (w.heap.size + 1 + 1) _ _ _ _ _ rfl rfl (set4 (HX.out).b2) Try.underlying24 rfl szNode) rfl (by unfold ApplyC; rw [HR.out]; exact ⟨rfl, (HX.out).chg.andThen (chg4 X (w.heap.size + 1 + 1) _ _ _ _) (by simp; omega)⟩)
  case neg =>
  rw [decide_eq_false hbig]
  obtain ⟨p0, p1, p2, p3⟩ := blk4 (hUX).b0; obtain ⟨q0, q1, q2, q3, q4, q5, q6, q7, q8⟩ := cells9 (hUX).b1
  clear hX hUX
  have HBt := Lib.hid hbig
  clear hbig
  go_wp2_with fail
  clear p0 p1 p2 p3 q0 q1 q2 q3 q4 q5 q6 q7 q8
  refine (great01_any s.sub As cs X (HW.out.2.2.2.1 X HX.out.chg)).mono ?_
  rintro e Y ⟨rfl, hY⟩
  have hUY := HX.out.kept hY
  have HY := Lib.hid hUY
  by_cases hbig : 2000 < s.sub.nodes
  case pos =>
    rw [decide_eq_true hbig]
    have HR := Lib.hid (show applyT t s = .error 2 by unfold applyT; rw [if_neg (by omega)])
    obtain ⟨r0, r1, r2, r3⟩ := blk4 (hUY).b2; have f0 := blkF (hUY).b2 0; have f1 := blkF (hUY).b2 1; have f2 := blkF (hUY).b2 2; have f3 := blkF (hUY).b2 3
    clear hY hUY hbig
    go_wp2_with (skip; fail)
    refine bodyPost_ret (v := .tuple #[.agg #[.int .i64 0, .int .i64 0, .string ⟨#[]⟩, .slice none 0 0], .int .i64 2]) (results_row_tmp rfl _ _ (w.heap.size + 1 + 1) _ _ _ _ _ rfl rfl (set4 (HY.out).b2) Try.underlying24 rfl szNode) rfl (by unfold ApplyC; rw [HR.out]; exact ⟨rfl, (HY.out).chg.andThen (chg4 Y (w.heap.size + 1 + 1) _ _ _ _) (by simp; omega)⟩)
  case neg =>
  rw [decide_eq_false hbig]
  have hdo : applyT t s = doT t s := by unfold applyT; rw [if_pos ⟨by have := HBt.out; omega, by omega⟩]
  have HD := Lib.hid (And.intro hdo (show t.nodes ≤ 2000 ∧ s.sub.nodes ≤ 2000 from ⟨by have := HBt.out; omega, by omega⟩))
  obtain ⟨p0, p1, p2, p3⟩ := blk4 (hUY).b0; obtain ⟨q0, q1, q2, q3, q4, q5, q6, q7, q8⟩ := cells9 (hUY).b1
  clear hY hUY hbig hdo
  by_cases h1 : s.op = 1
  case pos =>
    have hb : (s.op == 1) = true := by simpa using h1
    have hcall := ins09_any t A c s As cs Y (HW.out.2.2.1 Y HY.out.chg) (HW.out.2.2.2.1 Y HY.out.chg) HD.out.2.1 HD.out.2.2
    have HR := Lib.hid (And.intro (show applyT t s = insertT t s.par s.place s.sub by rw [HD.out.1]; unfold doT; rw [if_pos h1]) hcall)
    clear h1 hcall
    go_wp2_with fail
    clear p0 p1 p2 p3 q0 q1 q2 q3 q4 q5 q6 q7 q8
    refine HR.out.2.mono ?_
    rintro e Z hP
    obtain ⟨x, Ax, cx, n, rfl, hZ, hend⟩ := hP.any
    have hUZ := HY.out.kept hZ
    have HZ := Lib.hid (And.intro hUZ hend)
    obtain ⟨r0, r1, r2, r3⟩ := blk4 (hUZ).b2; have f0 := blkF (hUZ).b2 0; have f1 := blkF (hUZ).b2 1; have f2 := blkF (hUZ).b2 2; have f3 := blkF (hUZ).b2 3
    clear hP hZ hend hUZ
    go_wp2_with (skip; fail)
    refine bodyPost_ret (v := .tuple #[.agg #[.int .i64 (Tr.id x), .int .i64 (Tr.kind x), .string (Tr.text x), .slice Ax (Tr.kids x).length cx], .int .i64 n]) (results_row_tmp rfl _ _ (w.heap.size + 1 + 1) _ _ _ _ _ rfl rfl (set4 HZ.out.1.b2) Try.underlying24 rfl szNode) rfl ?_
    rw [HR.out.1]
    exact HZ.out.2 w _ (w.heap.size + 1 + 1) HY.out.chg (lt_of_block HY.out.b2) (by omega) (chg4 _ _ _ _ _ _)
  case neg =>
  have hb1 : (s.op == 1) = false := by simpa using h1
  by_cases h3 : s.op = 3
  case pos =>
    have hb : (s.op == 3) = true := by simpa using h3
    have hcall := mov09_any t A c s As cs Y (HW.out.2.2.1 Y HY.out.chg) HD.out.2.1
    have HR := Lib.hid (And.intro (show applyT t s = moveT t s.id s.par s.place by rw [HD.out.1]; unfold doT; rw [if_neg h1, if_neg (by omega), if_pos h3]) hcall)
    clear h1 h3 hcall
    go_wp2_with fail
    clear p0 p1 p2 p3 q0 q1 q2 q3 q4 q5 q6 q7 q8
    refine HR.out.2.mono ?_
    rintro e Z hP
    obtain ⟨x, Ax, cx, n, rfl, hZ, hend⟩ := hP.any
    have hUZ := HY.out.kept hZ
    have HZ := Lib.hid (And.intro hUZ hend)
    obtain ⟨r0, r1, r2, r3⟩ := blk4 (hUZ).b2; have f0 := blkF (hUZ).b2 0; have f1 := blkF (hUZ).b2 1; have f2 := blkF (hUZ).b2 2; have f3 := blkF (hUZ).b2 3
    clear hP hZ hend hUZ
    go_wp2_with (skip; fail)
    refine bodyPost_ret (v := .tuple #[.agg #[.int .i64 (Tr.id x), .int .i64 (Tr.kind x), .string (Tr.text x), .slice Ax (Tr.kids x).length cx], .int .i64 n]) (results_row_tmp rfl _ _ (w.heap.size + 1 + 1) _ _ _ _ _ rfl rfl (set4 HZ.out.1.b2) Try.underlying24 rfl szNode) rfl ?_
    rw [HR.out.1]
    exact HZ.out.2 w _ (w.heap.size + 1 + 1) HY.out.chg (lt_of_block HY.out.b2) (by omega) (chg4 _ _ _ _ _ _)
  case neg =>
  have hb3 : (s.op == 3) = false := by simpa using h3
  by_cases h24 : s.op = 2 ∨ s.op = 4
  case neg =>
    have hb2 : (s.op != 2) = true := by simp; omega
    have hb4 : (s.op != 4) = true := by simp; omega
    have HR := Lib.hid (show applyT t s = .error 2 by rw [HD.out.1]; unfold doT; rw [if_neg h1, if_neg (by omega), if_neg h3, if_neg (by omega)])
    obtain ⟨r0, r1, r2, r3⟩ := blk4 (HY.out).b2; have f0 := blkF (HY.out).b2 0; have f1 := blkF (HY.out).b2 1; have f2 := blkF (HY.out).b2 2; have f3 := blkF (HY.out).b2 3
    clear h1 h3 h24
    go_wp2_with (skip; fail)
    refine bodyPost_ret (v := .tuple #[.agg #[.int .i64 0, .int .i64 0, .string ⟨#[]⟩, .slice none 0 0], .int .i64 2]) (results_row_tmp rfl _ _ (w.heap.size + 1 + 1) _ _ _ _ _ rfl rfl (set4 (HY.out).b2) Try.underlying24 rfl szNode) rfl (by unfold ApplyC; rw [HR.out]; exact ⟨rfl, (HY.out).chg.andThen (chg4 Y (w.heap.size + 1 + 1) _ _ _ _) (by simp; omega)⟩)
  case pos =>
  have hfind := rfind_any t A c s.id Y (HW.out.2.2.1 Y HY.out.chg) HD.out.2.1
  have hb24 : (s.op != 2) = false ∨ ((s.op != 2) = true ∧ (s.op != 4) = false) := by
    rcases h24 with h | h
    · exact .inl (by simp [h])
    · exact .inr ⟨by simp [h], by simp [h]⟩
  have HO := Lib.hid (And.intro h1 (And.intro h3 (And.intro h24 hfind)))
  clear h1 h3 h24 hfind
  rcases hb24 with hb2 | ⟨hb2, hb4⟩
  all_goals
    go_wp2_with fail
    clear p0 p1 p2 p3 q0 q1 q2 q3 q4 q5 q6 q7 q8
    refine HO.out.2.2.2.mono ?_
    rintro e Z hF
    obtain ⟨x, Ax, cx, rfl, hxn, hTx, hZ⟩ := hF.any
    clear hF
    obtain ⟨V, hV⟩ : ∃ V, V = Z.alloc (.cells #[.int .i64 (Tr.id x), .int .i64 (Tr.kind x), .string (Tr.text x), .slice Ax (Tr.kids x).length cx] 24) := ⟨_, rfl⟩
    have hZV : Chg [] Z V := by rw [hV]; exact (by with_reducible repeat (first | exact Chg.refl _ _ | apply Chg.alloc | apply Chg.drew | apply Chg.drewN | (refine Chg.setCell ?_ _ _ (by simp))))
    have hUV := HY.out.kept (hZ.trans hZV)
    have b6 : V.heap[Z.heap.size]? = some (.cells #[.int .i64 (Tr.id x), .int .i64 (Tr.kind x), .string (Tr.text x), .slice Ax (Tr.kids x).length cx] 24 (0, 0)) := by rw [hV]; exact heap_new _ _ rfl
    have HV := Lib.hid (And.intro hV (And.intro hUV (And.intro b6 ((hTx.kept hZV (by simp)).weak (ok' := fun b => b < V.heap.size) (fun b hb _ => by have := hZ.size; have := hZV.size; omega)))))
    cases hsub : t.subT s.id with
    | none =>
      have hres : applyT t s = .error 4 := by
        rw [HD.out.1]; unfold doT
        rw [if_neg HO.out.1, if_neg HO.out.2.1]
        rcases HO.out.2.2.1 with h | h
        · rw [if_pos h, deleteT_ref, hsub]
        · rw [if_neg (by omega), if_pos h, textT_ref, hsub]
      have HR := Lib.hid hres
      obtain ⟨r0, r1, r2, r3⟩ := blk4 (hUV).b2; have f0 := blkF (hUV).b2 0; have f1 := blkF (hUV).b2 1; have f2 := blkF (hUV).b2 2; have f3 := blkF (hUV).b2 3
      rw [hV] at r0 r1 r2 r3 f0 f1 f2 f3
      clear hsub hres hZ hZV hUV b6 hTx hxn hV
      go_wp2_with (skip; fail)
      rw [← HV.out.1]
      refine bodyPost_ret (v := .tuple #[.agg #[.int .i64 0, .int .i64 0, .string ⟨#[]⟩, .slice none 0 0], .int .i64 4]) (results_row_tmp rfl _ _ (w.heap.size + 1 + 1) _ _ _ _ _ rfl rfl (set4 (HV.out.2.1).b2) Try.underlying24 rfl szNode) rfl (by unfold ApplyC; rw [HR.out]; exact ⟨rfl, (HV.out.2.1).chg.andThen (chg4 V (w.heap.size + 1 + 1) _ _ _ _) (by simp; omega)⟩)
    | some x' =>
      obtain rfl : x = x' := hxn x' hsub
      have HX2 := Lib.hid hsub
      obtain ⟨p0, p1, p2, p3⟩ := blk4 (hUV).b0; obtain ⟨q0, q1, q2, q3, q4, q5, q6, q7, q8⟩ := cells9 (hUV).b1
      obtain ⟨n0, n1, n2, n3⟩ := blk4 b6
      obtain ⟨r0, r1, r2, r3⟩ := blk4 (hUV).b2; have f0 := blkF (hUV).b2 0; have f1 := blkF (hUV).b2 1; have f2 := blkF (hUV).b2 2; have f3 := blkF (hUV).b2 3
      have hxn : x.nodes ≤ 2000 := by obtain ⟨p, _, hat, _⟩ := subT_path hsub; have := Tr.at_nodes p t x hat; have := HD.out.2.1; omega
      have HXn := Lib.hid hxn
      clear hsub hZ hZV hUV b6 hTx
      by_cases h4 : s.op = 4
      case pos =>
        have hb5 : (s.op == 4) = true := by simpa using h4
        obtain ⟨A', c', hcs', hlc', hcm', _, hKx⟩ := HV.out.2.2.2.opens
        simp only [List.cons.injEq, Value.slice.injEq, true_and, and_true] at hcs'
        obtain ⟨rfl, rfl⟩ := hcs'
        have hput := put09_any t A c s.id x.kids Ax cx s.text V (HW.out.2.2.1 V HV.out.2.1.chg) hKx (by have := HD.out.2.1; omega) (by rw [Tr.nodes_eq] at hxn; omega) HW.out.2.2.2.2 hlc' hcm'
        have hres : applyT t s = .ok (makesT s.id x.kids s.text t false).1 := by
          rw [HD.out.1]; unfold doT
          rw [if_neg (by omega), if_neg (by omega), if_neg (by omega), if_pos h4, textT_ref, HX2.out]
        obtain ⟨r, hr⟩ : ∃ r, r = (makesT s.id x.kids s.text t false).1 := ⟨_, rfl⟩
        rw [← hr] at hput hres
        have HR := Lib.hid (And.intro hres hput)
        rw [hV] at p0 p1 p2 p3 q0 q1 q2 q3 q4 q5 q6 q7 q8 n0 n1 n2 n3 r0 r1 r2 r3 f0 f1 f2 f3
        clear h4 hlc' hcm' hKx hput hres hr hV hxn
        go_wp2_with fail
        rw [← HV.out.1]
        clear p0 p1 p2 p3 q0 q1 q2 q3 q4 q5 q6 q7 q8
        clear r0 r1 r2 r3 f0 f1 f2 f3
        clear n0 n1 n2 n3
        refine HR.out.2.mono ?_
        rintro e V2 ⟨Ar, cr, rfl, hVr, hV2⟩
        have hUZ := HV.out.2.1.kept hV2
        have HZ := Lib.hid (And.intro hUZ hVr)
        obtain ⟨r0, r1, r2, r3⟩ := blk4 (hUZ).b2; have f0 := blkF (hUZ).b2 0; have f1 := blkF (hUZ).b2 1; have f2 := blkF (hUZ).b2 2; have f3 := blkF (hUZ).b2 3
        clear hV2 hUZ hVr
        go_wp2_with (skip; fail)
        refine bodyPost_ret (v := .tuple #[.agg #[.int .i64 (Tr.id r), .int .i64 (Tr.kind r), .string (Tr.text r), .slice Ar (Tr.kids r).length cr], .int .i64 0]) (results_row_tmp rfl _ _ (w.heap.size + 1 + 1) _ _ _ _ _ rfl rfl (set4 HZ.out.1.b2) Try.underlying24 rfl szNode) rfl ?_
        have hc4 := chg4 V2 (w.heap.size + 1 + 1) (.int .i64 r.id) (.int .i64 r.kind) (.string r.text) (.slice Ar r.kids.length cr)
        have hs4 := hc4.size
        have h9 := HV.out.2.1.chg.size
        have h92 := lt_of_block HV.out.2.1.b2
        unfold ApplyC
        rw [HR.out.1]
        exact ⟨Ar, cr, rfl, (HZ.out.2.toC.kept hc4 (fun g hg => by simp; omega)).weak (fun g hg _ => ⟨by omega, by omega⟩), HZ.out.1.chg.andThen hc4 (by simp; omega)⟩
      case neg =>
        have hb5 : (s.op == 4) = false := by simpa using h4
        have h2 : s.op = 2 := by have := HO.out.2.2.1; omega
        have hdel : applyT t s = deleteT t s.id := by
          rw [HD.out.1]; unfold doT
          rw [if_neg (by omega), if_pos h2]
        rw [deleteT_ref, HX2.out] at hdel
        simp only [] at hdel
        clear h4 h2
        by_cases h0 : t.id = s.id
        case pos =>
          rw [if_pos h0] at hdel
          have hb6 : (t.id == s.id) = true := by simpa using h0
          have HR := Lib.hid hdel
          rw [hV] at p0 p1 p2 p3 q0 q1 q2 q3 q4 q5 q6 q7 q8 n0 n1 n2 n3 r0 r1 r2 r3 f0 f1 f2 f3
          clear h0 hdel hV hxn
          go_wp2_with (skip; fail)
          rw [← HV.out.1]
          refine bodyPost_ret (v := .tuple #[.agg #[.int .i64 0, .int .i64 0, .string ⟨#[]⟩, .slice none 0 0], .int .i64 90]) (results_row_tmp rfl _ _ (w.heap.size + 1 + 1) _ _ _ _ _ rfl rfl (set4 (HV.out.2.1).b2) Try.underlying24 rfl szNode) rfl (by unfold ApplyC; rw [HR.out]; exact ⟨rfl, (HV.out.2.1).chg.andThen (chg4 V (w.heap.size + 1 + 1) _ _ _ _) (by simp; omega)⟩)
        case neg =>
          rw [if_neg h0] at hdel
          have hb6 : (t.id == s.id) = false := by simpa using h0
          obtain ⟨r, pn, k, ho, hpar, _, hrep⟩ := out_some HX2.out h0
          rw [ho] at hdel
          simp only [] at hdel
          have hwo := without_any t A c s.id pn k V (HW.out.2.2.1 V HV.out.2.1.chg) (by have := HD.out.2.1; omega) hpar
          rw [hrep] at hwo
          have HR := Lib.hid (And.intro hdel hwo)
          rw [hV] at p0 p1 p2 p3 q0 q1 q2 q3 q4 q5 q6 q7 q8 n0 n1 n2 n3 r0 r1 r2 r3 f0 f1 f2 f3
          clear h0 hdel hV hxn ho hpar hrep hwo
          go_wp2_with fail
          rw [← HV.out.1]
          clear p0 p1 p2 p3 q0 q1 q2 q3 q4 q5 q6 q7 q8
          clear r0 r1 r2 r3 f0 f1 f2 f3
          clear n0 n1 n2 n3
          refine HR.out.2.mono ?_
          rintro e V2 ⟨Ar, cr, rfl, hVr, hV2⟩
          have hUZ := HV.out.2.1.kept hV2
          have HZ := Lib.hid (And.intro hUZ hVr)
          obtain ⟨r0, r1, r2, r3⟩ := blk4 (hUZ).b2; have f0 := blkF (hUZ).b2 0; have f1 := blkF (hUZ).b2 1; have f2 := blkF (hUZ).b2 2; have f3 := blkF (hUZ).b2 3
          clear hV2 hUZ hVr
          go_wp2_with (skip; fail)
          refine bodyPost_ret (v := .tuple #[.agg #[.int .i64 (Tr.id r), .int .i64 (Tr.kind r), .string (Tr.text r), .slice Ar (Tr.kids r).length cr], .int .i64 0]) (results_row_tmp rfl _ _ (w.heap.size + 1 + 1) _ _ _ _ _ rfl rfl (set4 HZ.out.1.b2) Try.underlying24 rfl szNode) rfl ?_
          have hc4 := chg4 V2 (w.heap.size + 1 + 1) (.int .i64 r.id) (.int .i64 r.kind) (.string r.text) (.slice Ar r.kids.length cr)
          have hs4 := hc4.size
          have h9 := HV.out.2.1.chg.size
          have h92 := lt_of_block HV.out.2.1.b2
          unfold ApplyC
          rw [HR.out.1]
          exact ⟨Ar, cr, rfl, (HZ.out.2.toC.kept hc4 (fun g hg => by simp; omega)).weak (fun g hg _ => ⟨by omega, by omega⟩), HZ.out.1.chg.andThen hc4 (by simp; omega)⟩
end Go.Proofs.Ytofjocjljbkjgaa
namespace Go.Proofs.Ytofjocjljbkjgaa
open Go.RowKit
set_option maxHeartbeats 4000000 in
set_option maxRecDepth 100000 in
theorem rcheck11_any (ss : List Stp) (B : Option Addr) (d : Nat) (w : World) (hS : StpsC (fun b => b < w.heap.size) w B ss) (hl : ss.length ≤ 9223372036854775807) :
    Calls Try.prog 64 #[.slice B ss.length d] w fun e w' => e = .returned (.int .i64 (checkE ss)) ∧ Chg [] w w' := by
  have HH := Lib.hid hS
  clear hS
  by_cases h60 : ss.length ≤ 60
  case neg =>
    have hd : decide ((60 : Int) < (ss.length : Int)) = true := decide_eq_true (by omega)
    have HE := Lib.hid (show checkE ss = 3 by unfold checkE checkB; rw [if_neg (by simp; omega)])
    clear h60
    go_enter Try.func64, Try.ntmps64
    go_wp2_with (skip; fail)
    go_ret
    exact ⟨by rw [HE.out]; rfl, Chg.refl _ _⟩
  case pos =>
  have hd : decide ((60 : Int) < (ss.length : Int)) = false := decide_eq_false (by omega)
  go_enter Try.func64, Try.ntmps64
  go_wp2_with (skip; fail)
  go_loopw [3, 4] (fun nv i wr => ∃ k : Nat, k ≤ ss.length ∧ i = .int .i64 k ∧ nv = .int .i64 (insM (ss.take k)) ∧ Hid (Chg [] w wr)) (fun _ i _ => ss.length - (intOf i).toNat)
  case atStart => exact ⟨0, Nat.zero_le _, rfl, rfl, Lib.hid (Chg.refl _ _)⟩
  case round =>
    obtain ⟨k, hk, rfl, rfl, H⟩ := hrel
    obtain ⟨U, hU⟩ : ∃ U, U = wr := ⟨_, rfl⟩
    subst hU
    obtain ⟨m, hm⟩ : ∃ m, m = insM (ss.take k) := ⟨_, rfl⟩
    have hmb : m ≤ 12060 := by have := insM_le (ss.take k); rw [← hm] at this; simp at this; omega
    rw [← hm]
    by_cases hlt : k < ss.length
    · obtain ⟨g, o, As, cs, rfl, hg, hr, hT, htx, hop⟩ := HH.out.at hlt
      obtain ⟨s, hs⟩ : ∃ s, s = ss[k] := ⟨_, rfl⟩
      rw [← hs] at hr hT hop
      have hr' := H.out.range hr (by simp)
      have c0 : U.cell? ⟨g, o + k * 9, none⟩ = some (.int .i8 s.op) := hr' 0 _ rfl
      have hsn : insM (ss.take (k + 1)) = m + (if s.op = 1 then min 201 s.sub.nodes else 0) := by
        rw [List.take_succ_eq_append_getElem hlt, insM_snoc, ← hm, ← hs]
      by_cases h1 : s.op = 1
      · have hb : (s.op == 1) = true := by simpa using h1
        rw [if_pos h1] at hsn
        have h4 : U.rangeAt g (o + k * 9 + 5) [.int .i64 (Tr.id s.sub), .int .i64 (Tr.kind s.sub), .string (Tr.text s.sub), .slice As (Tr.kids s.sub).length cs] := range_drop hr' 5
        have hwk := walkT_any U.heap.size 201 (by omega) s.sub As cs U ((hT.kept H.out (by simp)).weak (fun b hb _ => Nat.lt_of_lt_of_le hb H.out.size)) (Nat.le_refl _)
        have HC := Lib.hid (And.intro hwk (And.intro h4 hsn))
        have hm0 : 0 ≤ (m : Int) := by omega
        have hm1 : (m : Int) ≤ 12060 := by omega
        clear hg hr hT htx hop hs hr' h4 hwk hsn h1 hm
        go_wp2_with (first
          | (refine wpList_load_mid rfl 24 (.tmp 24) rfl g (o + k * 9 + 5) rfl _ _ HC.out.2.1 Try.underlying24 rfl szNode ?_
             ((try dsimp only); (try simp only [Act.put, List.setIfInBounds_toArray, List.set_cons_zero, List.set_cons_succ])))
          | (skip; fail))
        refine HC.out.1.mono ?_
        rintro e X ⟨v, rfl, hR, hX⟩
        obtain ⟨A', c', rfl⟩ := hR.slice
        obtain ⟨n, hn⟩ : ∃ n, n = ((s.sub.walk 1).take 201).length := ⟨_, rfl⟩
        have hn2 : n = min 201 s.sub.nodes := by rw [hn, List.length_take, Tr.walk_length]
        rw [← hn]
        have HX := Lib.hid (And.intro (H.out.trans hX) hn2)
        have hn3 : (n : Int) ≤ 201 := by omega
        clear hR hX hn hn2
        go_wp2_with (skip; fail)
        go_roundw
        case rel => exact ⟨k + 1, by omega, by go_num, by rw [HC.out.2.2, ← HX.out.2]; go_num, Lib.hid HX.out.1⟩
        case measure => simp [intOf]; omega
      · have hb : (s.op == 1) = false := by simpa using h1
        rw [if_neg h1, Nat.add_zero] at hsn
        have HC := Lib.hid hsn
        clear hg hr hT htx hop hs hr' hsn h1 hm
        go_wp2_with (skip; fail)
        go_roundw
        case rel => exact ⟨k + 1, by omega, by go_num, by rw [HC.out]; rfl, Lib.hid H.out⟩
        case measure => simp [intOf]; omega
    · obtain rfl : k = ss.length := by omega
      rw [List.take_of_length_le (Nat.le_refl _)] at hm
      have hiff := insM_iff ss
      rw [← hm] at hiff
      by_cases h2 : m ≤ 200
      · have hd2 : decide ((200 : Int) < (m : Int)) = false := decide_eq_false (by omega)
        have HE := Lib.hid (show checkE ss = 0 by unfold checkE checkB; rw [if_pos (by simp; exact ⟨h60, hiff.1 h2⟩)])
        clear hm hiff h2
        go_wp2_with (skip; fail)
        go_ret
        exact ⟨by rw [HE.out]; rfl, H.out⟩
      · have hd2 : decide ((200 : Int) < (m : Int)) = true := decide_eq_true (by omega)
        have HE := Lib.hid (show checkE ss = 3 by unfold checkE checkB; rw [if_neg (by simp; intro _; have := mt hiff.2 h2; omega)])
        clear hm hiff h2
        go_wp2_with (skip; fail)
        go_ret
        exact ⟨by rw [HE.out]; rfl, H.out⟩
structure DoB (w : World) (g : Gr) (Ag : Option Addr) (cg : Nat) (t : Tr) (A : Option Addr) (c : Nat) (s : Stp) (As : Option Addr) (cs : Nat) (W : World) : Prop where
  g : W.heap[w.heap.size]? = some (.cells #[.slice Ag g.kinds.length cg, .int .i64 g.root] 43 (0, 0))
  t : W.heap[w.heap.size + 1]? = some (.cells #[.int .i64 (Tr.id t), .int .i64 (Tr.kind t), .string (Tr.text t), .slice A (Tr.kids t).length c] 24 (0, 0))
  s : W.heap[w.heap.size + 2]? = some (.cells #[.int .i8 (Stp.op s), .int .i64 (Stp.id s), .int .i64 (Stp.par s), .int .i64 (Stp.place s), .string (Stp.text s), .int .i64 (Stp.sub s).id, .int .i64 (Stp.sub s).kind, .string (Stp.sub s).text, .slice As (Stp.sub s).kids.length cs] 27 (0, 0))
  r : W.heap[w.heap.size + 3]? = some (.cells #[.int .i64 0, .int .i64 0, .string ⟨#[]⟩, .slice none 0 0] 24 (0, 0))
  chg : Chg [] w W
theorem DoB.kept {w : World} {g : Gr} {Ag : Option Addr} {cg : Nat} {t : Tr} {A : Option Addr} {c : Nat} {s : Stp} {As : Option Addr} {cs : Nat} {W W' : World} (h : DoB w g Ag cg t A c s As cs W) (hc : Chg [] W W') : DoB w g Ag cg t A c s As cs W' :=
  ⟨hc.at h.g (by simp), hc.at h.t (by simp), hc.at h.s (by simp), hc.at h.r (by simp), h.chg.trans hc⟩
set_option maxHeartbeats 4000000 in
set_option maxRecDepth 100000 in
theorem do09_any (g : Gr) (j : GJ) (hj : j.Of g) (Ag : Option Addr) (cg : Nat) (t : Tr) (A : Option Addr) (c : Nat) (s : Stp) (As : Option Addr) (cs : Nat) (w : World) (hG : GrC w Ag cg g.kinds) (hT : TrC (fun b => b < w.heap.size) w t [.int .i64 (Tr.id t), .int .i64 (Tr.kind t), .string (Tr.text t), .slice A (Tr.kids t).length c]) (hS : StpC (fun b => b < w.heap.size) w s (#[.int .i8 (Stp.op s), .int .i64 (Stp.id s), .int .i64 (Stp.par s), .int .i64 (Stp.place s), .string (Stp.text s), .int .i64 (Stp.sub s).id, .int .i64 (Stp.sub s).kind, .string (Stp.sub s).text, .slice As (Stp.sub s).kids.length cs] : Array Value).toList) :
    Calls Try.prog 66 #[.agg #[.slice Ag g.kinds.length cg, .int .i64 g.root], .agg #[.int .i64 (Tr.id t), .int .i64 (Tr.kind t), .string (Tr.text t), .slice A (Tr.kids t).length c], .agg #[.int .i8 (Stp.op s), .int .i64 (Stp.id s), .int .i64 (Stp.par s), .int .i64 (Stp.place s), .string (Stp.text s), .int .i64 (Stp.sub s).id, .int .i64 (Stp.sub s).kind, .string (Stp.sub s).text, .slice As (Stp.sub s).kids.length cs]] w (ApplyC (doJ j t s) w) := by
  obtain ⟨W, hW⟩ : ∃ W, W = (((w.alloc (.cells #[.slice Ag g.kinds.length cg, .int .i64 g.root] 43)).alloc (.cells #[.int .i64 (Tr.id t), .int .i64 (Tr.kind t), .string (Tr.text t), .slice A (Tr.kids t).length c] 24)).alloc (.cells #[.int .i8 (Stp.op s), .int .i64 (Stp.id s), .int .i64 (Stp.par s), .int .i64 (Stp.place s), .string (Stp.text s), .int .i64 (Stp.sub s).id, .int .i64 (Stp.sub s).kind, .string (Stp.sub s).text, .slice As (Stp.sub s).kids.length cs] 27)).alloc (.cells #[.int .i64 0, .int .i64 0, .string ⟨#[]⟩, .slice none 0 0] 24) := ⟨_, rfl⟩
  have hU : DoB w g Ag cg t A c s As cs W := by rw [hW]; exact ⟨heap_old (heap_old (heap_old (heap_new _ _ rfl) _) _) _, heap_old (heap_old (heap_new _ _ (by simp)) _) _, heap_old (heap_new _ _ (by simp)) _, heap_new _ _ (by simp), (by with_reducible repeat (first | exact Chg.refl _ _ | apply Chg.alloc | apply Chg.drew | apply Chg.drewN | (refine Chg.setCell ?_ _ _ (by simp))))⟩
  have hap := apply09_any t A c s As cs W (hT.next hU.chg) (hS.next hU.chg)
  obtain ⟨p0, p1, p2, p3⟩ := blk4 hU.t
  obtain ⟨q0, q1, q2, q3, q4, q5, q6, q7, q8⟩ := cells9 hU.s
  have HW := Lib.hid (And.intro hW (And.intro hU (And.intro hap (And.intro hG hj))))
  rw [hW] at p0 p1 p2 p3 q0 q1 q2 q3 q4 q5 q6 q7 q8
  clear hW hU hap hT hS hG hj
  go_enter Try.func66, Try.ntmps66
  go_wp2_with fail
  rw [← HW.out.1]
  clear p0 p1 p2 p3 q0 q1 q2 q3 q4 q5 q6 q7 q8
  have hl3 := lt_of_block HW.out.2.1.r
  refine HW.out.2.2.1.mono ?_
  rintro e X hP
  unfold ApplyC at hP
  cases hr : applyT t s with
  | error n =>
    rw [hr] at hP
    obtain ⟨rfl, hX⟩ := hP
    have e0 : (n == 0) = false := by simpa using applyT_ne hr
    have e0' : (n != 0) = true := by simpa using applyT_ne hr
    have hUX := HW.out.2.1.kept (hX.alloc (.cells #[.int .i64 0, .int .i64 0, .string ⟨#[]⟩, .slice none 0 0] 24))
    have HX := Lib.hid (And.intro hUX (show doJ j t s = .error n by unfold doJ; rw [hr]))
    obtain ⟨r0, r1, r2, r3⟩ := blk4 hUX.r
    have f0 := blkF hUX.r 0
    have f1 := blkF hUX.r 1
    have f2 := blkF hUX.r 2
    have f3 := blkF hUX.r 3
    clear hX hUX hr
    go_wp2_with (skip; fail)
    refine bodyPost_ret (v := .tuple #[.agg #[.int .i64 0, .int .i64 0, .string ⟨#[]⟩, .slice none 0 0], .int .i64 n]) (results_row_tmp rfl _ _ (w.heap.size + 1 + 1 + 1) _ _ _ _ _ rfl rfl (set4 HX.out.1.r) Try.underlying24 rfl szNode) rfl ?_
    unfold ApplyC
    rw [HX.out.2]
    exact ⟨rfl, HX.out.1.chg.andThen (chg4 _ _ _ _ _ _) (by simp; omega)⟩
  | ok x =>
    rw [hr] at hP
    obtain ⟨Ax, cx, rfl, hTx, hX⟩ := hP
    obtain ⟨Y, hY⟩ : ∃ Y, Y = X.alloc (.cells #[.int .i64 (Tr.id x), .int .i64 (Tr.kind x), .string (Tr.text x), .slice Ax (Tr.kids x).length cx] 24) := ⟨_, rfl⟩
    have hXY : Chg [] X Y := by rw [hY]; exact (by with_reducible repeat (first | exact Chg.refl _ _ | apply Chg.alloc | apply Chg.drew | apply Chg.drewN | (refine Chg.setCell ?_ _ _ (by simp))))
    have hUY := HW.out.2.1.kept (hX.trans hXY)
    have b8 : Y.heap[X.heap.size]? = some (.cells #[.int .i64 (Tr.id x), .int .i64 (Tr.kind x), .string (Tr.text x), .slice Ax (Tr.kids x).length cx] 24 (0, 0)) := by rw [hY]; exact heap_new _ _ rfl
    have hTY : TrC (fun b => W.heap.size ≤ b ∧ b < Y.heap.size) Y x [.int .i64 (Tr.id x), .int .i64 (Tr.kind x), .string (Tr.text x), .slice Ax (Tr.kids x).length cx] := (hTx.kept hXY (by simp)).weak (fun b hb _ => ⟨hb.1, by have := hXY.size; omega⟩)
    have htr := rtree_any g Ag cg x Ax cx Y (HW.out.2.2.2.1.kept hUY.chg) (hTY.weak (fun b hb _ => hb.2))
    have HY := Lib.hid (And.intro hY (And.intro hUY (And.intro b8 (And.intro hTY (And.intro htr hr)))))
    obtain ⟨g0, g1⟩ := cell2 hUY.g
    obtain ⟨p0, p1, p2, p3⟩ := blk4 b8
    rw [hY] at g0 g1 p0 p1 p2 p3
    clear hTx hX hXY hUY b8 hTY htr hY hr
    go_wp2_with fail
    rw [← HY.out.1]
    clear g0 g1 p0 p1 p2 p3
    refine HY.out.2.2.2.2.1.mono ?_
    rintro e V ⟨a, z, rfl, h1, h2, hV⟩
    have hUV := HY.out.2.1.kept hV
    have b8 := hV.at HY.out.2.2.1 (by simp)
    obtain ⟨r0, r1, r2, r3⟩ := blk4 hUV.r
    have f0 := blkF hUV.r 0
    have f1 := blkF hUV.r 1
    have f2 := blkF hUV.r 2
    have f3 := blkF hUV.r 3
    obtain ⟨p0, p1, p2, p3⟩ := blk4 b8
    have hz := h2
    have HV := Lib.hid (And.intro hUV (And.intro (HY.out.2.2.2.1.kept hV (by simp)) (And.intro h1 (And.intro h2 hV.size))))
    clear hV hUV b8 h1 h2
    by_cases hz0 : z = 0
    · subst hz0
      have hdo : doJ j t s = .ok x := by
        have h := HV.out.2.2.1.1 rfl
        unfold doJ
        rw [HY.out.2.2.2.2.2]
        simp only [HW.out.2.2.2.2.ok.2 h.1, (HW.out.2.2.2.2.fit x).2 h.2, if_true]
      have HD := Lib.hid hdo
      clear hdo hz
      go_wp2_with (skip; fail)
      refine bodyPost_ret (v := .tuple #[.agg #[.int .i64 (Tr.id x), .int .i64 (Tr.kind x), .string (Tr.text x), .slice Ax (Tr.kids x).length cx], .int .i64 0]) (results_row_tmp rfl _ _ (w.heap.size + 1 + 1 + 1) _ _ _ _ _ rfl rfl (set4 HV.out.1.r) Try.underlying24 rfl szNode) rfl ?_
      have hc4 := chg4 V (w.heap.size + 1 + 1 + 1) (.int .i64 x.id) (.int .i64 x.kind) (.string x.text) (.slice Ax x.kids.length cx)
      have hs4 := hc4.size
      have hws := HW.out.2.1.chg.size
      have hvs := HV.out.2.2.2.2
      unfold ApplyC
      rw [HD.out]
      exact ⟨Ax, cx, rfl, (HV.out.2.1.kept hc4 (fun g hg => by simp; omega)).weak (fun g hg _ => ⟨by omega, by omega⟩), HV.out.1.chg.andThen hc4 (by simp; omega)⟩
    · have e0 : (z == 0) = false := by simpa using hz0
      have e0' : (z != 0) = true := by simpa using hz0
      have hdo : doJ j t s = .error z := by
        unfold doJ
        rw [HY.out.2.2.2.2.2]
        rcases hz with h | ⟨rfl, h⟩ | ⟨rfl, h⟩
        · exact absurd h hz0
        · have : j.ok = false := by cases hk : j.ok with | false => rfl | true => exact absurd (HW.out.2.2.2.2.ok.1 hk) h
          simp [this]
        · have h3 : j.fit x = false := by
            cases hk : j.fit x with
            | false => rfl
            | true => exact absurd (HV.out.2.2.1.2 ⟨h, (HW.out.2.2.2.2.fit x).1 hk⟩) hz0
          simp [HW.out.2.2.2.2.ok.2 h, h3]
      have HD := Lib.hid hdo
      clear hdo hz hz0
      go_wp2_with (skip; fail)
      refine bodyPost_ret (v := .tuple #[.agg #[.int .i64 0, .int .i64 0, .string ⟨#[]⟩, .slice none 0 0], .int .i64 z]) (results_row_tmp rfl _ _ (w.heap.size + 1 + 1 + 1) _ _ _ _ _ rfl rfl (set4 HV.out.1.r) Try.underlying24 rfl szNode) rfl ?_
      unfold ApplyC
      rw [HD.out]
      exact ⟨rfl, HV.out.1.chg.andThen (chg4 _ _ _ _ _ _) (by simp; omega)⟩
end Go.Proofs.Ytofjocjljbkjgaa
namespace Go.Proofs.Ytofjocjljbkjgaa
open Go.RowKit
def ApR (res : Except Int Tr) (y : Tr) (n : Int) (p : Prop) : Prop := match res with
  | .error m => n = m
  | .ok x => y = x ∧ n = 0 ∧ p
theorem ApR.imp {res : Except Int Tr} {y : Tr} {n : Int} {p q : Prop} (h : ApR res y n p) (f : p → q) : ApR res y n q := by
  unfold ApR at h ⊢
  cases res with
  | error m => exact h
  | ok x => exact ⟨h.1, h.2.1, f h.2.2⟩
theorem ApplyC.get {res : Except Int Tr} {w : World} {e : Ending} {w' : World} (h : ApplyC res w e w') : ∃ (y : Tr) (A : Option Addr) (c : Nat) (n : Int), e = .returned (.tuple #[.agg #[.int .i64 (Tr.id y), .int .i64 (Tr.kind y), .string (Tr.text y), .slice A (Tr.kids y).length c], .int .i64 n]) ∧ Chg [] w w' ∧ ApR res y n (TrC (fun b => w.heap.size ≤ b ∧ b < w'.heap.size) w' y [.int .i64 (Tr.id y), .int .i64 (Tr.kind y), .string (Tr.text y), .slice A (Tr.kids y).length c]) := by
  unfold ApplyC at h
  cases res with
  | error n => exact ⟨zeroT, none, 0, n, h.1, h.2, rfl⟩
  | ok x => obtain ⟨A, c, h1, h2, h3⟩ := h; exact ⟨x, A, c, 0, h1, h3, rfl, rfl, h2⟩
structure AlB (w : World) (g : Gr) (Ag : Option Addr) (cg : Nat) (t : Tr) (A : Option Addr) (c : Nat) (W : World) : Prop where
  g : W.heap[w.heap.size]? = some (.cells #[.slice Ag g.kinds.length cg, .int .i64 g.root] 43 (0, 0))
  t : W.heap[w.heap.size + 1]? = some (.cells #[.int .i64 (Tr.id t), .int .i64 (Tr.kind t), .string (Tr.text t), .slice A (Tr.kids t).length c] 24 (0, 0))
  r : W.heap[w.heap.size + 2]? = some (.cells #[.int .i64 0, .int .i64 0, .string ⟨#[]⟩, .slice none 0 0] 24 (0, 0))
  chg : Chg [] w W
theorem AlB.kept {w : World} {g : Gr} {Ag : Option Addr} {cg : Nat} {t : Tr} {A : Option Addr} {c : Nat} {W W' : World} (h : AlB w g Ag cg t A c W) (hc : Chg [] W W') : AlB w g Ag cg t A c W' :=
  ⟨hc.at h.g (by simp), hc.at h.t (by simp), hc.at h.r (by simp), h.chg.trans hc⟩
theorem AlB.put {w : World} {g : Gr} {Ag : Option Addr} {cg : Nat} {t : Tr} {A : Option Addr} {c : Nat} {W W' : World} {b : Nat} (h : AlB w g Ag cg t A c W) (hc : Chg [b] W W') (hb : w.heap.size + 2 < b) : AlB w g Ag cg t A c W' :=
  ⟨hc.at h.g (by simp; omega), hc.at h.t (by simp; omega), hc.at h.r (by simp; omega), h.chg.andThen hc (by simp; omega)⟩
structure XB (xb rb : Nat) (x : Tr) (A : Option Addr) (c : Nat) (W : World) : Prop where
  blk : W.heap[xb]? = some (.cells #[.int .i64 (Tr.id x), .int .i64 (Tr.kind x), .string (Tr.text x), .slice A (Tr.kids x).length c] 24 (0, 0))
  ok : TrC (fun b => b < W.heap.size ∧ b ≠ rb) W x [.int .i64 (Tr.id x), .int .i64 (Tr.kind x), .string (Tr.text x), .slice A (Tr.kids x).length c]
set_option maxHeartbeats 4000000 in
set_option maxRecDepth 100000 in
theorem rapply11_any (g : Gr) (j : GJ) (hj : j.Of g) (Ag : Option Addr) (cg : Nat) (t : Tr) (A : Option Addr) (c : Nat) (ss : List Stp) (B : Option Addr) (d : Nat) (w : World) (hG : GrC w Ag cg g.kinds) (hT : TrC (fun b => b < w.heap.size) w t [.int .i64 (Tr.id t), .int .i64 (Tr.kind t), .string (Tr.text t), .slice A (Tr.kids t).length c]) (hS : StpsC (fun b => b < w.heap.size) w B ss) (hl : ss.length ≤ 9223372036854775807) (hn : t.nodes ≤ 100000) :
    Calls Try.prog 27 #[.agg #[.slice Ag g.kinds.length cg, .int .i64 g.root], .agg #[.int .i64 (Tr.id t), .int .i64 (Tr.kind t), .string (Tr.text t), .slice A (Tr.kids t).length c], .slice B ss.length d] w (ApplyL (applyL j t ss) w) := by
  obtain ⟨W, hW⟩ : ∃ W, W = ((w.alloc (.cells #[.slice Ag g.kinds.length cg, .int .i64 g.root] 43)).alloc (.cells #[.int .i64 (Tr.id t), .int .i64 (Tr.kind t), .string (Tr.text t), .slice A (Tr.kids t).length c] 24)).alloc (.cells #[.int .i64 0, .int .i64 0, .string ⟨#[]⟩, .slice none 0 0] 24) := ⟨_, rfl⟩
  have hU : AlB w g Ag cg t A c W := by rw [hW]; exact ⟨heap_old (heap_old (heap_new _ _ rfl) _) _, heap_old (heap_new _ _ (by simp)) _, heap_new _ _ (by simp), (by with_reducible repeat (first | exact Chg.refl _ _ | apply Chg.alloc | apply Chg.drew | apply Chg.drewN | (refine Chg.setCell ?_ _ _ (by simp))))⟩
  have hck := rcheck11_any ss B d W (hS.next hU.chg) hl
  have HW := Lib.hid (And.intro hW (And.intro hU (And.intro hG (And.intro hT (And.intro hS (And.intro hj (And.intro hck hn)))))))
  have hl2 := lt_of_block hU.r
  clear hW hU hck hT hS hG hj hn
  go_enter Try.func27, Try.ntmps27
  go_wp2_with fail
  rw [← HW.out.1]
  refine HW.out.2.2.2.2.2.2.1.mono ?_
  rintro e X ⟨rfl, hX⟩
  have hUX := HW.out.2.1.kept hX
  have hcp := copy_any t A c X ((HW.out.2.2.2.1.kept hUX.chg (by simp)).weak (fun _ _ _ => trivial)) HW.out.2.2.2.2.2.2.2
  have HX := Lib.hid (And.intro hUX hcp)
  obtain ⟨p0, p1, p2, p3⟩ := blk4 hUX.t
  clear hX hUX hcp
  by_cases hch : checkB ss = true
  case neg =>
    have he : checkE ss = 3 := by unfold checkE; rw [if_neg hch]
    rw [he]
    have HA := Lib.hid (show applyL j t ss = (t, 0, 3) by unfold applyL; rw [if_neg hch])
    clear hch he
    go_wp2_with fail
    clear p0 p1 p2 p3
    refine HX.out.2.mono ?_
    rintro e Y ⟨A1, c1, rfl, hV, hY⟩
    have hUY := HX.out.1.kept hY
    have HY := Lib.hid (And.intro hUY hV)
    obtain ⟨r0, r1, r2, r3⟩ := blk4 hUY.r
    have f0 := blkF hUY.r 0
    have f1 := blkF hUY.r 1
    have f2 := blkF hUY.r 2
    have f3 := blkF hUY.r 3
    have hXs := HX.out.1.chg.size
    have hWs := HW.out.2.1.chg.size
    have hXr := lt_of_block HX.out.1.r
    clear hV hY hUY
    go_wp2_with (skip; fail)
    refine bodyPost_ret (v := .tuple #[.agg #[.int .i64 (Tr.id t), .int .i64 (Tr.kind t), .string (Tr.text t), .slice A1 (Tr.kids t).length c1], .int .i64 0, .int .i64 3]) (results_row_tmp2 rfl _ _ (w.heap.size + 1 + 1) _ _ _ _ _ _ rfl rfl rfl (set4 HY.out.1.r) Try.underlying24 rfl szNode) rfl ?_
    have hc4 := chg4 Y (w.heap.size + 1 + 1) (.int .i64 t.id) (.int .i64 t.kind) (.string t.text) (.slice A1 t.kids.length c1)
    have hs4 := hc4.size
    rw [HA.out]
    exact ⟨A1, c1, rfl, (HY.out.2.toC.kept hc4 (fun b hb => by simp; omega)).weak (fun b hb _ => by omega), HY.out.1.chg.andThen hc4 (by simp; omega)⟩
  case pos =>
  have he : checkE ss = 0 := by unfold checkE; rw [hch]; rfl
  rw [he]
  have HA := Lib.hid (show applyL j t ss = if (foldF (doJ j) t ss 0).2.2 = 0 then foldF (doJ j) t ss 0 else (t, (foldF (doJ j) t ss 0).2.1, (foldF (doJ j) t ss 0).2.2) by unfold applyL; rw [if_pos hch])
  clear hch he
  go_wp2_with fail
  clear p0 p1 p2 p3
  refine HX.out.2.mono ?_
  rintro e Y0 ⟨A1, c1, rfl, hV, hY0⟩
  obtain ⟨Y, hY⟩ : ∃ Y, Y = Y0.alloc (.cells #[.int .i64 (Tr.id t), .int .i64 (Tr.kind t), .string (Tr.text t), .slice A1 (Tr.kids t).length c1] 24) := ⟨_, rfl⟩
  obtain ⟨xb, hxb⟩ : ∃ xb, xb = Y0.heap.size := ⟨_, rfl⟩
  have hYY : Chg [] Y0 Y := by rw [hY]; exact (by with_reducible repeat (first | exact Chg.refl _ _ | apply Chg.alloc | apply Chg.drew | apply Chg.drewN | (refine Chg.setCell ?_ _ _ (by simp))))
  have hUY := HX.out.1.kept (hY0.trans hYY)
  have hxw : w.heap.size + 2 < xb := by have := lt_of_block HX.out.1.r; have := hY0.size; omega
  have hXB : XB xb (w.heap.size + 2) t A1 c1 Y := ⟨by rw [hY, hxb]; exact heap_new _ _ rfl, (hV.toC.kept hYY (by simp)).weak (fun b hb _ => ⟨by have := hYY.size; omega, by have := lt_of_block HX.out.1.r; omega⟩)⟩
  have HY := Lib.hid (And.intro hY (And.intro hUY (And.intro hXB (And.intro hxw hxb))))
  clear hV hY hY0 hYY hUY hxw hXB hxb
  go_wp2_with (skip; fail)
  rw [← HY.out.1, ← HY.out.2.2.2.2]
  go_loopw [10] (fun i wr => ∃ (k : Nat) (x : Tr) (Ax : Option Addr) (cx : Nat), k ≤ ss.length ∧ i = .int .i64 k ∧ Hid (XB xb (w.heap.size + 2) x Ax cx wr ∧ AlB w g Ag cg t A c wr ∧ foldF (doJ j) t ss 0 = foldF (doJ j) x (ss.drop k) k)) (fun i _ => ss.length - (intOf i).toNat)
  case atStart => exact ⟨0, t, A1, c1, Nat.zero_le _, rfl, Lib.hid ⟨HY.out.2.2.1, HY.out.2.1, rfl⟩⟩
  case round =>
    obtain ⟨k, x, Ax, cx, hk, rfl, H⟩ := hrel
    obtain ⟨U2, hU2⟩ : ∃ U2, U2 = wr := ⟨_, rfl⟩
    subst hU2
    by_cases hlt : k < ss.length
    case neg =>
      obtain rfl : k = ss.length := by omega
      have hfin := H.out.2.2
      rw [List.drop_length] at hfin
      have hres : applyL j t ss = (x, ss.length, 0) := by rw [HA.out, hfin]; simp [foldF]
      have HR := Lib.hid hres
      obtain ⟨p0, p1, p2, p3⟩ := blk4 H.out.1.blk
      obtain ⟨r0, r1, r2, r3⟩ := blk4 H.out.2.1.r
      have f0 := blkF H.out.2.1.r 0
      have f1 := blkF H.out.2.1.r 1
      have f2 := blkF H.out.2.1.r 2
      have f3 := blkF H.out.2.1.r 3
      clear hfin hres
      go_wp2_with (skip; fail)
      refine bodyPost_ret (v := .tuple #[.agg #[.int .i64 (Tr.id x), .int .i64 (Tr.kind x), .string (Tr.text x), .slice Ax (Tr.kids x).length cx], .int .i64 ss.length, .int .i64 0]) (results_row_tmp2 rfl _ _ (w.heap.size + 1 + 1) _ _ _ _ _ _ rfl rfl rfl (set4 H.out.2.1.r) Try.underlying24 rfl szNode) rfl ?_
      have hc4 := chg4 U2 (w.heap.size + 1 + 1) (.int .i64 x.id) (.int .i64 x.kind) (.string x.text) (.slice Ax x.kids.length cx)
      rw [HR.out]
      have hs4 := hc4.size
      exact ⟨Ax, cx, rfl, (H.out.1.ok.kept hc4 (fun b hb => by simpa using hb.2)).weak (fun b hb _ => by omega), H.out.2.1.chg.andThen hc4 (by simp; omega)⟩
    case pos =>
    obtain ⟨gs, os, As, cs, rfl, hgs, hrs, hTs, hts, hop⟩ := HW.out.2.2.2.2.1.at hlt
    obtain ⟨s, hs⟩ : ∃ s, s = ss[k] := ⟨_, rfl⟩
    rw [← hs] at hrs hTs hts hop
    have hun : foldF (doJ j) t ss 0 = match doJ j x s with | .error n => (x, k, n) | .ok y => foldF (doJ j) y (ss.drop (k + 1)) (k + 1) := by
      rw [H.out.2.2, List.drop_eq_getElem_cons hlt, ← hs]; rfl
    have hst : StpC (fun b => b < U2.heap.size) U2 s (#[.int .i8 (Stp.op s), .int .i64 (Stp.id s), .int .i64 (Stp.par s), .int .i64 (Stp.place s), .string (Stp.text s), .int .i64 (Stp.sub s).id, .int .i64 (Stp.sub s).kind, .string (Stp.sub s).text, .slice As (Stp.sub s).kids.length cs] : Array Value).toList := (show StpC (fun b => b < w.heap.size) w s (#[.int .i8 (Stp.op s), .int .i64 (Stp.id s), .int .i64 (Stp.par s), .int .i64 (Stp.place s), .string (Stp.text s), .int .i64 (Stp.sub s).id, .int .i64 (Stp.sub s).kind, .string (Stp.sub s).text, .slice As (Stp.sub s).kids.length cs] : Array Value).toList from ⟨As, cs, rfl, hTs, hts, hop⟩).next H.out.2.1.chg
    have HK := Lib.hid (And.intro H.out.2.1 (And.intro H.out.1 (And.intro (H.out.2.1.chg.range hrs (by simp)) (And.intro hst (And.intro hun HY.out.2.2.2.1)))))
    clear hgs hrs hTs hts hop hs hun hst
    go_wp2_with (skip; fail)
    refine wp_region_M (fun W => W.rangeAt xb 0 [.int .i64 (Tr.id x), .int .i64 (Tr.kind x), .string (Tr.text x), .slice Ax (Tr.kids x).length cx] ∧ W.rangeAt gs (os + k * 9) (#[.int .i8 (Stp.op s), .int .i64 (Stp.id s), .int .i64 (Stp.par s), .int .i64 (Stp.place s), .string (Stp.text s), .int .i64 (Stp.sub s).id, .int .i64 (Stp.sub s).kind, .string (Stp.sub s).text, .slice As (Stp.sub s).kids.length cs] : Array Value).toList ∧ W.rangeAt w.heap.size 0 (#[.slice Ag g.kinds.length cg, .int .i64 g.root] : Array Value).toList) (fun k => [6, 10, 11].contains k) (fun k => [11].contains k) (by kernel_rfl) ?_
    obtain ⟨Q, hQ⟩ : ∃ Q, Q = U2.drew := ⟨_, rfl⟩
    rw [← hQ]
    have hUQ : Chg [] U2 Q := by rw [hQ]; exact (Chg.refl _ _).drew
    clear hQ
    have hall : ∀ W', Chg [] U2 W' → W'.rangeAt xb 0 [.int .i64 (Tr.id x), .int .i64 (Tr.kind x), .string (Tr.text x), .slice Ax (Tr.kids x).length cx] ∧ W'.rangeAt gs (os + k * 9) (#[.int .i8 (Stp.op s), .int .i64 (Stp.id s), .int .i64 (Stp.par s), .int .i64 (Stp.place s), .string (Stp.text s), .int .i64 (Stp.sub s).id, .int .i64 (Stp.sub s).kind, .string (Stp.sub s).text, .slice As (Stp.sub s).kids.length cs] : Array Value).toList ∧ W'.rangeAt w.heap.size 0 (#[.slice Ag g.kinds.length cg, .int .i64 g.root] : Array Value).toList := fun W' hc => ⟨range_all (hc.at HK.out.2.1.blk (by simp)), hc.range HK.out.2.2.1 (by simp), range_all (hc.at HK.out.1.g (by simp))⟩
    have hcall : ∀ W', Chg [] U2 W' → Calls Try.prog 66 #[.agg #[.slice Ag g.kinds.length cg, .int .i64 g.root], .agg #[.int .i64 (Tr.id x), .int .i64 (Tr.kind x), .string (Tr.text x), .slice Ax (Tr.kids x).length cx], .agg #[.int .i8 (Stp.op s), .int .i64 (Stp.id s), .int .i64 (Stp.par s), .int .i64 (Stp.place s), .string (Stp.text s), .int .i64 (Stp.sub s).id, .int .i64 (Stp.sub s).kind, .string (Stp.sub s).text, .slice As (Stp.sub s).kids.length cs]] W' (ApplyC (doJ j x s) W') := fun W' hc => do09_any g j HW.out.2.2.2.2.2.1 Ag cg x Ax cx s As cs W' (HW.out.2.2.1.kept (HK.out.1.chg.trans hc)) ((HK.out.2.1.ok.weak (ok' := fun b => b < U2.heap.size) (fun b hb _ => hb.1)).next hc) (HK.out.2.2.2.1.next hc)
    have hS := hall Q hUQ
    have HQ := Lib.hid (And.intro hall (And.intro hUQ hcall))
    have wi0 : (0 : Int) ≤ (k : Int) := by omega
    have wi1 : (k : Int) < (ss.length : Int) := by omega
    clear hall hUQ hcall
    ((try dsimp only); (try simp only [Act.put, List.setIfInBounds_toArray, List.set_cons_zero, List.set_cons_succ]))
    refine M_semi (i := 0) rfl (by kernel_rfl) (by kernel_rfl) (by kernel_rfl) (by kernel_rfl) (fun _ _ _ h => h) (by rfl) hS (fun W hS => exec_load_mid 43 (.tmp 3) rfl w.heap.size 0 rfl _ _ hS.2.2 Try.underlying43 rfl (by kernel_rfl)) ?_; ((try dsimp only); (try simp only [Act.put, List.setIfInBounds_toArray, List.set_cons_zero, List.set_cons_succ]))
    refine M_semi (i := 1) rfl (by kernel_rfl) (by kernel_rfl) (by kernel_rfl) (by kernel_rfl) (fun _ _ _ h => h) (by rfl) hS (fun W hS => exec_load_mid 24 (.tmp 9) rfl xb 0 rfl _ _ hS.1 Try.underlying24 rfl szNode) ?_; ((try dsimp only); (try simp only [Act.put, List.setIfInBounds_toArray, List.set_cons_zero, List.set_cons_succ]))
    refine M_pure (i := 2) (v := ?_) rfl (by kernel_rfl) (by kernel_rfl) (by kernel_rfl) (fun _ _ _ h => h) (by rfl) ?hy ?_; (case hy => (intro w; go_simp; with_reducible rfl)); ((try dsimp only); (try simp only [Act.put, List.setIfInBounds_toArray, List.set_cons_zero, List.set_cons_succ]))
    refine M_pure (i := 3) (v := ?_) rfl (by kernel_rfl) (by kernel_rfl) (by kernel_rfl) (fun _ _ _ h => h) (by rfl) ?hy ?_; (case hy => (intro w; go_simp; with_reducible rfl)); ((try dsimp only); (try simp only [Act.put, List.setIfInBounds_toArray, List.set_cons_zero, List.set_cons_succ]))
    refine M_pure (i := 4) (v := ?_) rfl (by kernel_rfl) (by kernel_rfl) (by kernel_rfl) (fun _ _ _ h => h) (by rfl) ?hy ?_; (case hy => (intro w; go_simp; with_reducible rfl)); ((try dsimp only); (try simp only [Act.put, List.setIfInBounds_toArray, List.set_cons_zero, List.set_cons_succ]))
    refine M_semi (i := 5) rfl (by kernel_rfl) (by kernel_rfl) (by kernel_rfl) (by kernel_rfl) (fun _ _ _ h => h) (by rfl) hS (fun W hS => exec_load_mid 27 (.tmp 31) rfl gs (os + k * 9) rfl _ _ hS.2.1 Try.underlying27 rfl szST9) ?_; ((try dsimp only); (try simp only [Act.put, List.setIfInBounds_toArray, List.set_cons_zero, List.set_cons_succ]))
    refine M_two (i := 6) (j := 10) rfl rfl (by kernel_rfl) (by rfl) (by rfl) ?_ ?_
    case' refine_1 =>
      go_wp2_with fail
      refine (HQ.out.2.2 Q HQ.out.2.1).mono ?_
      rintro e X5 hP
      obtain ⟨y, A5, c5, n5, rfl, hX5, hend⟩ := hP.get
      clear hP
      have HX5 := Lib.hid (And.intro (HQ.out.2.1.trans hX5) hend)
      clear hX5 hend hS
      go_wp2_with fail
      refine ⟨HQ.out.1 X5 HX5.out.1, ?_⟩
      refine M_pure (i := 7) (v := ?_) rfl (by kernel_rfl) (by kernel_rfl) (by kernel_rfl) (fun _ _ _ h => h) (by rfl) ?hy ?_; (case hy => (intro w; go_simp; with_reducible rfl)); ((try dsimp only); (try simp only [Act.put, List.setIfInBounds_toArray, List.set_cons_zero, List.set_cons_succ]))
      refine M_pure (i := 8) (v := ?_) rfl (by kernel_rfl) (by kernel_rfl) (by kernel_rfl) (fun _ _ _ h => h) (by rfl) ?hy ?_; (case hy => (intro w; go_simp; with_reducible rfl)); ((try dsimp only); (try simp only [Act.put, List.setIfInBounds_toArray, List.set_cons_zero, List.set_cons_succ]))
      refine M_pure (i := 9) (v := ?_) rfl (by kernel_rfl) (by kernel_rfl) (by kernel_rfl) (fun _ _ _ h => h) (by rfl) ?hy ?_; (case hy => (intro w; go_simp; with_reducible rfl)); ((try dsimp only); (try simp only [Act.put, List.setIfInBounds_toArray, List.set_cons_zero, List.set_cons_succ]))
      refine M_eff (i := 10) rfl (by kernel_rfl) (by rfl) ?_
      go_wp2_with fail
      refine ⟨HQ.out.1 _ (HX5.out.1.alloc _), ?_⟩
      refine M_brk (i := 11) rfl (by kernel_rfl) (by rfl) (by rfl) ?_
      go_wp2_with fail
      ((try dsimp only [EffQ]); (try simp only [Act.put, List.setIfInBounds_toArray, List.set_cons_zero, List.set_cons_succ]))
      refine M_pure (i := 12) (v := ?_) rfl (by kernel_rfl) (by kernel_rfl) (by kernel_rfl) (fun _ _ _ h => h) (by rfl) ?hy ?_; (case hy => (intro w; go_simp; with_reducible rfl)); ((try dsimp only); (try simp only [Act.put, List.setIfInBounds_toArray, List.set_cons_zero, List.set_cons_succ]))
      refine M_done (by kernel_rfl) ?_ _
      obtain ⟨Z, hZ⟩ : ∃ Z, Z = X5.alloc (.cells #[.int .i64 (Tr.id y), .int .i64 (Tr.kind y), .string (Tr.text y), .slice A5 (Tr.kids y).length c5] 24) := ⟨_, rfl⟩
      rw [← hZ]
      obtain ⟨b15, hb15⟩ : ∃ b15, b15 = X5.heap.size := ⟨_, rfl⟩
      rw [← hb15]
      have hX5Z : Chg [] X5 Z := by rw [hZ]; exact (by with_reducible repeat (first | exact Chg.refl _ _ | apply Chg.alloc | apply Chg.drew | apply Chg.drewN | (refine Chg.setCell ?_ _ _ (by simp))))
      have hbZ : Z.heap[b15]? = some (.cells #[.int .i64 (Tr.id y), .int .i64 (Tr.kind y), .string (Tr.text y), .slice A5 (Tr.kids y).length c5] 24 (0, 0)) := by rw [hZ, hb15]; exact heap_new _ _ rfl
      have HZ := Lib.hid (And.intro (HX5.out.1.trans hX5Z) (And.intro (HX5.out.2.imp (fun hh => (hh.kept hX5Z (by simp)).weak (ok' := fun b => b < Z.heap.size ∧ b ≠ xb ∧ b ≠ w.heap.size + 2) (fun b hb _ => ⟨by have := hX5Z.size; omega, by have := HQ.out.2.1.size; have := lt_of_block HK.out.2.1.blk; omega, by have := HK.out.2.2.2.2.2; have := lt_of_block HK.out.2.1.blk; have := HQ.out.2.1.size; omega⟩))) hbZ))
      clear hZ hb15 hX5Z hbZ
    case' refine_2 =>
      go_wp2_with fail
      refine ⟨HQ.out.1 _ (HQ.out.2.1.alloc _), ?_⟩
      clear hS
      obtain ⟨Q1, hQ1⟩ : ∃ Q1, Q1 = Q.alloc (.cells #[.int .i64 0, .int .i64 0, .string ⟨#[]⟩, .slice none 0 0] 24) := ⟨_, rfl⟩
      rw [← hQ1]
      obtain ⟨b15, hb15⟩ : ∃ b15, b15 = Q.heap.size := ⟨_, rfl⟩
      rw [← hb15]
      have hUQ1 : Chg [] U2 Q1 := by rw [hQ1]; exact HQ.out.2.1.alloc _
      have hb11 : Q1.heap[b15]? = some (.cells #[.int .i64 0, .int .i64 0, .string ⟨#[]⟩, .slice none 0 0] 24 (0, 0)) := by rw [hQ1, hb15]; exact heap_new _ _ rfl
      have hbu : U2.heap.size ≤ b15 := by rw [hb15]; exact HQ.out.2.1.size
      have HQ1 := Lib.hid (And.intro hUQ1 (And.intro hb11 hbu))
      clear hQ1 hUQ1 hb11 hb15 hbu
      refine M_eff (i := 6) rfl (by kernel_rfl) (by rfl) ?_
      go_wp2_with fail
      refine (HQ.out.2.2 Q1 HQ1.out.1).mono ?_
      rintro e X5 hP
      obtain ⟨y, A5, c5, n5, rfl, hX5, hend⟩ := hP.get
      clear hP
      have hb11 := hX5.at HQ1.out.2.1 (by simp)
      have HX5 := Lib.hid (And.intro (HQ1.out.1.trans hX5) (And.intro hb11 hend))
      obtain ⟨r0, r1, r2, r3⟩ := blk4 hb11
      have f0 := blkF hb11 0
      have f1 := blkF hb11 1
      have f2 := blkF hb11 2
      have f3 := blkF hb11 3
      clear hX5 hb11 hend
      go_wp2_with fail
      refine ⟨HQ.out.1 X5 HX5.out.1, ?_⟩
      refine M_pure (i := 7) (v := ?_) rfl (by kernel_rfl) (by kernel_rfl) (by kernel_rfl) (fun _ _ _ h => h) (by rfl) ?hy ?_; (case hy => (intro w; go_simp; with_reducible rfl)); ((try dsimp only); (try simp only [Act.put, List.setIfInBounds_toArray, List.set_cons_zero, List.set_cons_succ]))
      refine M_pure (i := 8) (v := ?_) rfl (by kernel_rfl) (by kernel_rfl) (by kernel_rfl) (fun _ _ _ h => h) (by rfl) ?hy ?_; (case hy => (intro w; go_simp; with_reducible rfl)); ((try dsimp only); (try simp only [Act.put, List.setIfInBounds_toArray, List.set_cons_zero, List.set_cons_succ]))
      refine M_pure (i := 9) (v := ?_) rfl (by kernel_rfl) (by kernel_rfl) (by kernel_rfl) (fun _ _ _ h => h) (by rfl) ?hy ?_; (case hy => (intro w; go_simp; with_reducible rfl)); ((try dsimp only); (try simp only [Act.put, List.setIfInBounds_toArray, List.set_cons_zero, List.set_cons_succ]))
      refine M_brk (i := 11) rfl (by kernel_rfl) (by rfl) (by rfl) ?_
      go_wp2_with fail
      ((try dsimp only [EffQ]); (try simp only [Act.put, List.setIfInBounds_toArray, List.set_cons_zero, List.set_cons_succ]))
      refine M_pure (i := 12) (v := ?_) rfl (by kernel_rfl) (by kernel_rfl) (by kernel_rfl) (fun _ _ _ h => h) (by rfl) ?hy ?_; (case hy => (intro w; go_simp; with_reducible rfl)); ((try dsimp only); (try simp only [Act.put, List.setIfInBounds_toArray, List.set_cons_zero, List.set_cons_succ]))
      refine M_done (by kernel_rfl) ?_ _
      clear r0 r1 r2 r3 f0 f1 f2 f3
      obtain ⟨Z, hZ⟩ : ∃ Z, Z = (((X5.setCell ⟨b15, 0, none⟩ (.int .i64 y.id)).setCell ⟨b15, 1, none⟩ (.int .i64 y.kind)).setCell ⟨b15, 2, none⟩ (.string y.text)).setCell ⟨b15, 3, none⟩ (.slice A5 y.kids.length c5) := ⟨_, rfl⟩
      rw [← hZ]
      have hX5Z : Chg [b15] X5 Z := by rw [hZ]; exact chg4 _ _ _ _ _ _
      have hbZ : Z.heap[b15]? = some (.cells #[.int .i64 (Tr.id y), .int .i64 (Tr.kind y), .string (Tr.text y), .slice A5 (Tr.kids y).length c5] 24 (0, 0)) := by rw [hZ]; exact set4 HX5.out.2.1
      have hb1 := lt_of_block HQ1.out.2.1
      have HZ := Lib.hid (And.intro (HX5.out.1.andThen hX5Z (by have := HQ1.out.2.2; simp; omega)) (And.intro (HX5.out.2.2.imp (fun hh => (hh.kept hX5Z (by simp; omega)).weak (ok' := fun b => b < Z.heap.size ∧ b ≠ xb ∧ b ≠ w.heap.size + 2) (fun b hb _ => ⟨by have := hX5Z.size; omega, by have := HQ1.out.1.size; have := lt_of_block HK.out.2.1.blk; omega, by have := HK.out.2.2.2.2.2; have := lt_of_block HK.out.2.1.blk; have := HQ1.out.1.size; omega⟩))) hbZ))
      clear hZ hX5Z hbZ hb1
    all_goals
      have hxZ := HZ.out.1.at HK.out.2.1.blk (by simp)
      have hUZ := HK.out.1.kept HZ.out.1
      obtain ⟨p0, p1, p2, p3⟩ := blk4 HZ.out.2.2
      obtain ⟨q0, q1, q2, q3⟩ := blk4 hUZ.t
      have hap := HZ.out.2.1
      have hun := HK.out.2.2.2.2.1
      cases hd : doJ j x s with
      | error n =>
        rw [hd] at hap hun
        unfold ApR at hap
        subst hap
        have hne := doJ_ne hd
        have e0 : (n5 == 0) = false := by simpa using hne
        have e0' : (n5 != 0) = true := by simpa using hne
        have hres : applyL j t ss = (t, k, n5) := by rw [HA.out, hun]; simp [hne]
        have hcp := copy_any t A c Z ((HW.out.2.2.2.1.kept hUZ.chg (by simp)).weak (fun _ _ _ => trivial)) HW.out.2.2.2.2.2.2.2
        have HR := Lib.hid (And.intro hres (And.intro hcp hUZ))
        clear hun hd hne hres hcp hxZ hUZ wi0 wi1
        go_wp2_with fail
        clear p0 p1 p2 p3 q0 q1 q2 q3
        refine HR.out.2.1.mono ?_
        rintro e Z2 ⟨A9, c9, rfl, hV, hZ2⟩
        have hUZ := HR.out.2.2.kept hZ2
        have HZ2 := Lib.hid (And.intro hUZ hV)
        obtain ⟨r0, r1, r2, r3⟩ := blk4 hUZ.r
        have f0 := blkF hUZ.r 0
        have f1 := blkF hUZ.r 1
        have f2 := blkF hUZ.r 2
        have f3 := blkF hUZ.r 3
        have hXr := lt_of_block HR.out.2.2.r
        clear hV hZ2 hUZ
        go_wp2_with (skip; fail)
        refine bodyPost_ret (v := .tuple #[.agg #[.int .i64 (Tr.id t), .int .i64 (Tr.kind t), .string (Tr.text t), .slice A9 (Tr.kids t).length c9], .int .i64 k, .int .i64 n5]) (results_row_tmp2 rfl _ _ (w.heap.size + 1 + 1) _ _ _ _ _ _ rfl rfl rfl (set4 HZ2.out.1.r) Try.underlying24 rfl szNode) rfl ?_
        have hc4 := chg4 Z2 (w.heap.size + 1 + 1) (.int .i64 t.id) (.int .i64 t.kind) (.string t.text) (.slice A9 t.kids.length c9)
        have hs4 := hc4.size
        rw [HR.out.1]
        exact ⟨A9, c9, rfl, (HZ2.out.2.toC.kept hc4 (fun b hb => by simp; omega)).weak (fun b hb _ => by omega), HZ2.out.1.chg.andThen hc4 (by simp; omega)⟩
      | ok y' =>
        rw [hd] at hap hun
        unfold ApR at hap
        obtain ⟨rfl, rfl, hTy⟩ := hap
        obtain ⟨r0, r1, r2, r3⟩ := blk4 hxZ
        have f0 := blkF hxZ 0
        have f1 := blkF hxZ 1
        have f2 := blkF hxZ 2
        have f3 := blkF hxZ 3
        have HXZ := Lib.hid (And.intro hxZ (And.intro hUZ (And.intro hTy hun)))
        clear hxZ hUZ hTy hun hd wi0 wi1 q0 q1 q2 q3
        go_wp2_with (skip; fail)
        go_roundw
        case rel =>
          have hc4 := chg4 Z xb (.int .i64 y.id) (.int .i64 y.kind) (.string y.text) (.slice A5 y.kids.length c5)
          refine ⟨k + 1, y, A5, c5, by omega, by go_num, Lib.hid ⟨⟨set4 HXZ.out.1, (HXZ.out.2.2.1.kept hc4 (fun b hb => by simpa using hb.2.1)).weak (fun b hb _ => ⟨Nat.lt_of_lt_of_le hb.1 hc4.size, hb.2.2⟩)⟩, HXZ.out.2.1.put hc4 HK.out.2.2.2.2.2, HXZ.out.2.2.2⟩⟩
        case measure => simp [intOf]; omega
end Go.Proofs.Ytofjocjljbkjgaa
namespace Go.Proofs.Ytofjocjljbkjgaa
open Go.RowKit
mutual
def blankT (root : Int) : Tr → Tr
  | ⟨i, k, x, cs⟩ => if i = root then ⟨root, 0, ⟨#[]⟩, []⟩ else ⟨i, k, x, blankL root cs⟩
def blankL (root : Int) : List Tr → List Tr
  | [] => []
  | c :: cs => blankT root c :: blankL root cs
end
theorem blankT_eq (root : Int) (t : Tr) : blankT root t = if t.id = root then ⟨root, 0, ⟨#[]⟩, []⟩ else { t with kids := blankL root t.kids } := by cases t; rw [blankT]
theorem blankL_map (root : Int) : ∀ cs : List Tr, blankL root cs = cs.map (blankT root)
  | [] => rfl
  | c :: cs => by rw [blankL, blankL_map root cs, List.map_cons]
theorem blank_upd {root : Int} : ∀ (p : List Nat) (t r x : Tr), Tr.at? p t = some r → r.id = root → x.id = root → blankT root (Tr.upd p t x) = blankT root t
  | [], t, r, x, h, hr, hx => by
    simp only [Tr.at?, Option.some.injEq] at h
    subst h
    rw [blankT_eq, blankT_eq, if_pos hr]
    show (if x.id = root then _ else _) = _
    rw [if_pos hx]
  | i :: p, t, r, x, h, hr, hx => by
    simp only [Tr.at?] at h
    cases hk : t.kids[i]? with
    | none => rw [hk] at h; cases h
    | some k =>
      rw [hk] at h
      simp only [Tr.upd, hk]
      rw [blankT_eq, blankT_eq root t]
      simp only []
      by_cases h0 : t.id = root
      · rw [if_pos h0, if_pos h0]
      · rw [if_neg h0, if_neg h0, blankL_map, blankL_map, List.map_set, blank_upd p k r x h hr hx]
        have hi := (List.getElem?_eq_some_iff.1 hk).1
        have he : (t.kids.map (blankT root)).set i (blankT root k) = t.kids.map (blankT root) := by
          have : blankT root k = (t.kids.map (blankT root))[i]'(by simpa using hi) := by rw [List.getElem_map, (List.getElem?_eq_some_iff.1 hk).2]
          rw [this, List.set_getElem_self]
        rw [he]
theorem alone_all {j : GJ} {g : Gr} (hj : j.Of g) {root : Int} : ∀ (l : List Stp) (t : Tr) (i : Nat), t.ids.Nodup → root ∈ t.ids → (allJ j root t l i).2 = 0 → (foldF (doJ j) t l i).2.2 = 0 ∧ (allJ j root t l i).1 = i + l.length ∧ blankT root (foldF (doJ j) t l i).1 = blankT root t
  | [], t, i, _, _, _ => ⟨rfl, rfl, rfl⟩
  | s :: l, t, i, hn, hr, h => by
    rw [allJ] at h ⊢
    by_cases hin : insideB root t s = true
    · rw [if_pos hin] at h ⊢
      cases hd : doJ j t s with
      | error n => rw [hd] at h; exact absurd h (doJ_ne hd)
      | ok y =>
        rw [hd] at h
        simp only [] at h ⊢
        obtain ⟨p, hp⟩ := path_some hr
        obtain ⟨r, hat, hrid⟩ := Tr.path_at root t p hp
        obtain ⟨r', _, hy, hid⟩ := doT_inside hn hp hat hin (applyT_ok (doJ_ok hd).2.2).2.2
        have hry : root ∈ y.ids := by
          have h2 := at_upd p t r r' hat
          rw [← hy] at h2
          exact at_ids h2 (by rw [← hrid, ← hid]; exact id_mem r')
        obtain ⟨h1, h2, h3⟩ := alone_all hj l y (i + 1) (doJ_fit hj hd).2.nodup hry h
        rw [foldF_yes hd]
        refine ⟨h1, by rw [h2, List.length_cons]; omega, by rw [h3, hy]; exact blank_upd p t r r' hat hrid (hid.trans hrid)⟩
    · rw [if_neg hin] at h
      simp at h
theorem within_alone {j : GJ} {g : Gr} (hj : j.Of g) {root : Int} {t : Tr} {l : List Stp} (hn : t.ids.Nodup) (h : (withinAll j root t l).2 = 0) : (withinAll j root t l).1 = l.length ∧ (applyL j t l).2.2 = 0 ∧ blankT root (applyL j t l).1 = blankT root t := by
  unfold withinAll at h ⊢
  split at h
  · rename_i h1
    rw [if_pos h1]
    split at h
    · rename_i h2
      rw [if_pos h2]
      obtain ⟨e1, e2, e3⟩ := alone_all hj l t 0 hn h2 h
      unfold applyL
      rw [if_pos h1, if_pos e1]
      exact ⟨by rw [e2]; omega, e1, e3⟩
    · simp at h
  · simp at h
end Go.Proofs.Ytofjocjljbkjgaa
namespace Go.Proofs.Ytofjocjljbkjgaa
open Go.RowKit
structure Bln (root : Int) (w wr : World) (t : Tr) (A : Option Addr) (c k : Nat) (v : Value) : Prop where
  arg : wr.heap[w.heap.size]? = some (.cells #[.int .i64 (Tr.id t), .int .i64 (Tr.kind t), .string (Tr.text t), .slice A (Tr.kids t).length c] 24 (0, 0))
  res : wr.heap[w.heap.size + 1]? = some (.cells #[.int .i64 0, .int .i64 0, .string ⟨#[]⟩, .slice none 0 0] 24 (0, 0))
  out : wr.heap[w.heap.size + 2]? = some (.cells #[.int .i64 t.id, .int .i64 t.kind, .string t.text, v] 24 (0, 0))
  chg : Chg [] w wr
  row : RowV wr (w.heap.size + 3) v ((blankL root t.kids).take k) (fun g => w.heap.size + 3 ≤ g)
set_option maxHeartbeats 4000000 in
set_option maxRecDepth 100000 in
theorem blank_any (root : Int) : ∀ (t : Tr) (A : Option Addr) (c : Nat) (w : World), TrC (fun _ => True) w t [.int .i64 (Tr.id t), .int .i64 (Tr.kind t), .string (Tr.text t), .slice A (Tr.kids t).length c] → t.nodes ≤ 100000 → Calls Try.prog 28 #[.agg #[.int .i64 (Tr.id t), .int .i64 (Tr.kind t), .string (Tr.text t), .slice A (Tr.kids t).length c], .int .i64 root] w (NewPost (blankT root t) w) := by
  intro t
  induction t using Tr.ind with
  | h t ih =>
  intro A c w hT hN
  obtain ⟨ip, hi, hz0, hz1, hz2⟩ := info_parts infoNode
  obtain ⟨A', c', hcs, hlc, hcm, htx, hK⟩ := hT.opens
  simp only [List.cons.injEq, Value.slice.injEq, true_and, and_true] at hcs
  obtain ⟨rfl, rfl⟩ := hcs
  have hlen : t.kids.length ≤ 100000 := by have := nodesL_len t.kids; rw [Tr.nodes_eq] at hN; omega
  have HI := Lib.hid (And.intro hi (And.intro hz0 (And.intro hz1 hz2)))
  have HH := Lib.hid (And.intro ih (And.intro hN (And.intro hcm (And.intro hlc (And.intro htx hK)))))
  clear hi hz0 hz1 hz2 hT hK ih hN hcm hlc htx
  by_cases hroot : t.id = root
  · have hb : (t.id == root) = true := by simpa using hroot
    have HR := Lib.hid (show blankT root t = ⟨root, 0, ⟨#[]⟩, []⟩ by rw [blankT_eq, if_pos hroot])
    clear hroot
    go_enter Try.func28, Try.ntmps28
    go_wp2_with (skip; fail)
    refine bodyPost_ret (v := .agg #[.int .i64 root, .int .i64 0, .string ⟨#[]⟩, .slice none 0 0]) (results_cell_row rfl _ _ (w.heap.size + 1) _ _ _ _ rfl (heap_new _ _ (by simp)) Try.underlying24 rfl szNode) rfl ?_
    rw [HR.out]
    exact ⟨none, 0, rfl, .leaf _ none 0 _ rfl (fun _ => rfl) (by omega) (by show (0 : Nat) ≤ _; omega), (by with_reducible repeat (first | exact Chg.refl _ _ | apply Chg.alloc | apply Chg.drew | apply Chg.drewN | (refine Chg.setCell ?_ _ _ (by simp))))⟩
  have hb : (t.id == root) = false := by simpa using hroot
  have hbt : blankT root t = { t with kids := blankL root t.kids } := by rw [blankT_eq, if_neg hroot]
  have hbl : (blankL root t.kids).length = t.kids.length := by rw [blankL_map, List.length_map]
  have HR := Lib.hid (And.intro hbt hbl)
  clear hroot hbt hbl
  go_enter Try.func28, Try.ntmps28
  go_wp2_with (skip; fail)
  refine wp_world (fun W => Bln root w W t A c 0 (.slice none 0 0)) ⟨heap_old (heap_old (heap_new _ _ rfl) _) _, heap_old (heap_new _ _ (by simp)) _, heap_new _ _ (by simp), (by with_reducible repeat (first | exact Chg.refl _ _ | apply Chg.alloc | apply Chg.drew | apply Chg.drewN | (refine Chg.setCell ?_ _ _ (by simp)))), RowV.nil _ _ _⟩ ?_
  intro W hCop
  have HX := Lib.hid hCop
  clear hCop
  go_loopw [24] (fun i wr => ∃ (k : Nat) (v : Value), k ≤ t.kids.length ∧ i = .int .i64 k ∧ Hid (Bln root w wr t A c k v)) (fun i _ => t.kids.length - (intOf i).toNat)
  case atStart => exact ⟨0, _, Nat.zero_le _, rfl, HX.out⟩
  case round =>
    obtain ⟨k, v, hk, rfl, H⟩ := hrel
    clear HX
    obtain ⟨p0, p1, p2, p3⟩ := blk4 H.out.arg
    obtain ⟨Av, cv, rfl⟩ : ∃ Av cv, v = .slice Av k cv := by
      obtain ⟨css, fs, ho, _⟩ := H.out.row
      obtain ⟨Av, cv, e⟩ := own_slice ho
      rw [show ((blankL root t.kids).take k).length = k from by rw [List.length_take, HR.out.2]; omega] at e
      exact ⟨Av, cv, e⟩
    by_cases hlt : k < t.kids.length
    · obtain ⟨gk, ok, cs, rfl, _, hr, hat⟩ := HH.out.2.2.2.2.2 k _ (List.getElem?_eq_getElem hlt)
      obtain ⟨Ak, ck, rfl, _⟩ := hat.opens
      have hr' := H.out.chg.range hr (by simp)
      have hkn : (t.kids[k]).nodes ≤ 100000 := by have := nodesL_mem (List.getElem_mem hlt); have h2 := HH.out.2.1; rw [Tr.nodes_eq] at h2; omega
      have hcall := HH.out.1 (t.kids[k]) (List.getElem_mem hlt) Ak ck wr (hat.kept H.out.chg (by simp)) hkn
      obtain ⟨r, hr2⟩ : ∃ r, r = blankT root (t.kids[k]) := ⟨_, rfl⟩
      have hstep : (blankL root t.kids).take (k + 1) = (blankL root t.kids).take k ++ [r] := by
        rw [List.take_succ_eq_append_getElem (by rw [HR.out.2]; exact hlt), hr2]
        simp only [blankL_map, List.getElem_map]
      rw [← hr2] at hcall
      have HC := Lib.hid (And.intro hcall (And.intro hr' hstep))
      clear hstep hr2 hcall hat hkn hr hr'
      go_wp2_with (first
        | (refine wpList_load_mid rfl 24 (.tmp 30) rfl gk (ok + k * 4) rfl _ _ HC.out.2.1 Try.underlying24 rfl szNode ?_)
        | (go_at_call 28; refine HC.out.1.mono ?_; rintro e X ⟨A1, c1, rfl, hV, hX⟩; have HX := Lib.hid (And.intro hV hX); have hXa : Chg [] X (X.alloc (.cells #[.int .i64 (Tr.id r), .int .i64 (Tr.kind r), .string (Tr.text r), .slice A1 (Tr.kids r).length c1] 24)) := (by with_reducible repeat (first | exact Chg.refl _ _ | apply Chg.alloc | apply Chg.drew | apply Chg.drewN | (refine Chg.setCell ?_ _ _ (by simp)))); have hXX := H.out.chg.trans (hX.trans hXa); have hou := (hX.trans hXa).at H.out.out (by simp); obtain ⟨o0, o1, o2, o3⟩ := blk4 hou; have of3 := blkF hou 3; clear hV hX hXa hXX hou)
        | (have hwr := lt_of_block H.out.out
           have hXs := HX.out.2.size
           have hXa : Chg [] X ((X.alloc (.cells #[.int .i64 (Tr.id r), .int .i64 (Tr.kind r), .string (Tr.text r), .slice A1 (Tr.kids r).length c1] 24)).alloc (.cells #[.int .i64 (Tr.id r), .int .i64 (Tr.kind r), .string (Tr.text r), .slice A1 (Tr.kids r).length c1] 24)) := (by with_reducible repeat (first | exact Chg.refl _ _ | apply Chg.alloc | apply Chg.drew | apply Chg.drewN | (refine Chg.setCell ?_ _ _ (by simp))))
           obtain ⟨xs, hown, hgrow⟩ := H.out.row.grow (HX.out.2.trans hXa)
           rw [show ((blankL root t.kids).take k).length = k from by rw [List.length_take, HR.out.2]; omega] at hown hgrow
           have HG := Lib.hid (And.intro hgrow hXa)
           clear hgrow hXa
           refine wpList_append_own_at _ rfl (.tmp 35) (.tmp 37) 22 rfl _ 24 ip _ 4 56 Try.underlying22 HI.out.1 HI.out.2.1 HI.out.2.2.1 HI.out.2.2.2 rfl (by omega) (.slice Av k cv) _ _ rfl hown ⟨X.heap.size + 1, 0, none⟩ 1 1 _ rfl rfl (fun j u hu => by rw [Addr.add_mid]; exact range_all (heap_new (X.alloc _) _ (by simp)) j u hu) (HX.out.1.one) (by unfold maxLen; omega) (by omega) (by simp; omega) ?_
           intro v' X3 hown' hgr _ hat
           have hrow3 := HG.out.1 _ _ _ X3 v' (HX.out.1.kept HG.out.2 (by simp)) (fun x hx => ⟨by omega, hx.1, Nat.lt_of_lt_of_le hx.2 HG.out.2.size⟩) hown' hgr hat
           rw [← HC.out.2.2] at hrow3
           have hC3 : Chg (Value.slice Av k cv).ownBlock.toList wr X3 := ((HX.out.2.trans HG.out.2).mono (by simp)).grown hgr (by intro k hk; rw [hk]; simp)
           have hnb : ∀ b, b ∈ (Value.slice Av k cv).ownBlock.toList → w.heap.size + 3 ≤ b := fun b hb => by have := H.out.row.own b (by simpa using hb); omega
           have hout3 := hC3.at H.out.out (fun hm => by have := hnb _ hm; omega)
           have s3 := (blk4 hout3).2.2.2
           have f3 := blkF hout3 3
           obtain ⟨A', c', rfl⟩ := own_slice hown'
           have H3 := Lib.hid (And.intro hrow3 (And.intro hC3 (And.intro hnb hout3)))
           clear hrow3 hgr hat hown' hC3 hnb hout3 HG)
        | fail)
      go_roundw
      case rel =>
        have hnb := H3.out.2.2.1
        have hCs : Chg [w.heap.size + 2] X3 (X3.setCell ⟨w.heap.size + 2, 3, none⟩ (.slice A' (k + 1) c')) := (Chg.refl _ _).setCell _ _ (by simp)
        have hnb3 : ∀ b, (Value.slice A' (k + 1) c').ownBlock = some b → w.heap.size + 3 ≤ b := fun b hb => by have := H3.out.1.own b hb; omega
        refine ⟨k + 1, .slice A' (k + 1) c', by omega, by go_num, ?_, ?_, ?_, ?_, ?_⟩
        · exact hCs.at (H3.out.2.1.at H.out.arg (fun hm => by have := hnb _ hm; omega)) (by simp)
        · exact hCs.at (H3.out.2.1.at H.out.res (fun hm => by have := hnb _ hm; omega)) (by simp)
        · exact heap_setCell_same _ _ 3 _ _ _ H3.out.2.2.2
        · exact (H.out.chg.andThen H3.out.2.1 (fun i hi => .inr (by have := hnb i hi; omega))).andThen hCs (fun i hi => .inr (by simp at hi; omega))
        · exact H3.out.1.kept hCs (fun b hb => by have := hnb3 b hb; simp; omega) (fun g hg => by simp; omega)
      case measure => simp [intOf]; omega
    · obtain rfl : k = t.kids.length := by omega
      have hrow := H.out.row
      rw [List.take_of_length_le (by rw [HR.out.2]; exact Nat.le_refl _)] at hrow
      obtain ⟨A', c', he, hV⟩ := RowV.node ({ t with kids := blankL root t.kids } : Tr) hrow HH.out.2.2.2.2.1
      simp only [HR.out.2] at he hV
      injection he with hA1 _ hc1
      subst hA1 hc1
      have HV := Lib.hid hV
      clear hrow hV
      obtain ⟨q0, q1, q2, q3⟩ := blk4 H.out.out
      obtain ⟨r0, r1, r2, r3⟩ := blk4 H.out.res
      have f0 := blkF H.out.res 0
      have f1 := blkF H.out.res 1
      have f2 := blkF H.out.res 2
      have f3 := blkF H.out.res 3
      go_wp2
      have hC0 := chg4 wr (w.heap.size + 1) (.int .i64 t.id) (.int .i64 t.kind) (.string t.text) (.slice Av t.kids.length cv)
      have hsz := H.out.chg.size
      have hlt1 := lt_of_block H.out.out
      have hF : ∀ g, w.heap.size + 3 ≤ g ∨ (Value.slice Av t.kids.length cv).ownBlock = some g → w.heap.size + 3 ≤ g := fun g hg => by
        rcases hg with hg | hg
        · omega
        · have := H.out.row.own g hg; omega
      refine bodyPost_ret (v := .agg #[.int .i64 (Tr.id t), .int .i64 (Tr.kind t), .string (Tr.text t), .slice Av (Tr.kids t).length cv]) (results_cell_row rfl _ _ (w.heap.size + 1) _ _ _ _ rfl (set4 H.out.res) Try.underlying24 rfl szNode) rfl ?_
      rw [HR.out.1]
      refine ⟨Av, cv, by simp only [HR.out.2], ?_, H.out.chg.andThen hC0 (fun i hi => by simp at hi; omega)⟩
      simp only [HR.out.2]
      exact ((HV.out.bound.weak (F' := fun g => w.heap.size + 3 ≤ g ∧ g < wr.heap.size) (fun g hg => ⟨hF g hg.1, hg.2⟩)).kept hC0 (fun g hg => by simp; omega)).weak (fun g hg => ⟨by omega, Nat.lt_of_lt_of_le hg.2 hC0.size⟩)
end Go.Proofs.Ytofjocjljbkjgaa
namespace Go.Proofs.Ytofjocjljbkjgaa
open Go.RowKit
def wakeT : Tr := ⟨1, 0, ⟨#[]⟩, [⟨2, 0, ⟨#[]⟩, [leafT 3]⟩, leafT 4]⟩
set_option maxHeartbeats 4000000 in
set_option maxRecDepth 100000 in
theorem wakes13 (w : World) : Calls Try.prog 25 #[] w fun e w' => e = .returned (.bool true) ∧ Chg [] w w' := by
  go_enter Try.func25, Try.ntmps25
  go_wp2_with fail
  obtain ⟨W, hW⟩ : ∃ W, W = ((w.alloc (.cells #[.int .i64 3, .int .i64 0, .string ⟨#[]⟩, .slice none 0 0] 24)).alloc (.cells #[.int .i64 2, .int .i64 0, .string ⟨#[]⟩, .slice (some ⟨w.heap.size, 0, none⟩) 1 1, .int .i64 4, .int .i64 0, .string ⟨#[]⟩, .slice none 0 0] 24)).alloc (.cells #[.int .i64 1, .int .i64 0, .string ⟨#[]⟩, .slice (some ⟨w.heap.size + 1, 0, none⟩) 2 2] 24) := ⟨_, rfl⟩
  have hc0 : Chg [] w W := by rw [hW]; exact (by with_reducible repeat (first | exact Chg.refl _ _ | apply Chg.alloc | apply Chg.drew | apply Chg.drewN | (refine Chg.setCell ?_ _ _ (by simp))))
  have k1 : W.heap[w.heap.size]? = some (.cells #[.int .i64 3, .int .i64 0, .string ⟨#[]⟩, .slice none 0 0] 24 (0, 0)) := by rw [hW]; exact heap_old (heap_old (heap_new _ _ rfl) _) _
  have k2 : W.heap[w.heap.size + 1]? = some (.cells #[.int .i64 2, .int .i64 0, .string ⟨#[]⟩, .slice (some ⟨w.heap.size, 0, none⟩) 1 1, .int .i64 4, .int .i64 0, .string ⟨#[]⟩, .slice none 0 0] 24 (0, 0)) := by rw [hW]; exact heap_old (heap_new _ _ (by simp)) _
  have k3 : W.heap[w.heap.size + 1 + 1]? = some (.cells #[.int .i64 1, .int .i64 0, .string ⟨#[]⟩, .slice (some ⟨w.heap.size + 1, 0, none⟩) 2 2] 24 (0, 0)) := by rw [hW]; exact heap_new _ _ (by simp)
  have h1 := lt_of_block k1
  have h2 := lt_of_block k2
  have hT : TrC (fun b => b < W.heap.size) W wakeT [.int .i64 1, .int .i64 0, .string ⟨#[]⟩, .slice (some ⟨w.heap.size + 1, 0, none⟩) 2 2] := by
    refine TrC.mk wakeT (A := some ⟨w.heap.size + 1, 0, none⟩) (c := 2) (by simp [wakeT]) (by omega) sz0 (fun i k hk => ?_)
    match i, hk with
    | 0, hk =>
      simp [wakeT] at hk; subst hk
      refine ⟨_, 0, _, rfl, h2, range_of_block (cs := [.int .i64 2, .int .i64 0, .string ⟨#[]⟩, .slice (some ⟨w.heap.size, 0, none⟩) 1 1, .int .i64 4, .int .i64 0, .string ⟨#[]⟩, .slice none 0 0]) k2 0 4, TrC.mk ⟨2, 0, ⟨#[]⟩, [leafT 3]⟩ (A := some ⟨w.heap.size, 0, none⟩) (c := 1) (by simp) (by omega) sz0 (fun i k hk => ?_)⟩
      match i, hk with
      | 0, hk =>
        simp at hk; subst hk
        exact ⟨_, 0, _, rfl, h1, range_of_block (cs := [.int .i64 3, .int .i64 0, .string ⟨#[]⟩, .slice none 0 0]) k1 0 4, TrC.none (leafT 3) none 0 rfl (by omega) sz0⟩
      | i + 1, hk => simp at hk
    | 1, hk =>
      simp [wakeT] at hk; subst hk
      exact ⟨_, 0, _, rfl, h2, range_of_block (cs := [.int .i64 2, .int .i64 0, .string ⟨#[]⟩, .slice (some ⟨w.heap.size, 0, none⟩) 1 1, .int .i64 4, .int .i64 0, .string ⟨#[]⟩, .slice none 0 0]) k2 4 4, TrC.none (leafT 4) none 0 rfl (by omega) sz0⟩
    | i + 2, hk => simp [wakeT] at hk
  rw [← hW]
  have H0 := Lib.hid (And.intro hT (And.intro k3 hc0))
  clear hT k1 k2 k3 h1 h2 hc0 hW
  refine (wstep_any wakeT (some ⟨w.heap.size + 1, 0, none⟩) 2 2 ⟨4, 2, 0, 0, ⟨#[]⟩, leafT 0⟩ none 0 W H0.out.1).mono ?_
  rintro e V1 ⟨rfl, hV⟩
  rw [show insideB 2 wakeT ⟨4, 2, 0, 0, ⟨#[]⟩, leafT 0⟩ = true from by rfl]
  have H1 := Lib.hid (And.intro (H0.out.1.next hV) (And.intro (hV.at H0.out.2.1 (by simp)) (H0.out.2.2.trans hV)))
  obtain ⟨p0, p1, p2, p3⟩ := blk4 H1.out.2.1
  clear hV
  go_wp2_with fail
  clear p0 p1 p2 p3
  refine (wstep_any wakeT (some ⟨w.heap.size + 1, 0, none⟩) 2 2 ⟨1, 0, 3, 0, ⟨#[]⟩, leafT 0⟩ none 0 V1 H1.out.1).mono ?_
  rintro e V2 ⟨rfl, hV⟩
  rw [show insideB 2 wakeT ⟨1, 0, 3, 0, ⟨#[]⟩, leafT 0⟩ = true from by rfl]
  have H2 := Lib.hid (And.intro (H1.out.1.next hV) (And.intro (hV.at H1.out.2.1 (by simp)) (H1.out.2.2.trans hV)))
  obtain ⟨p0, p1, p2, p3⟩ := blk4 H2.out.2.1
  clear hV
  go_wp2_with fail
  clear p0 p1 p2 p3
  refine (wstep_any wakeT (some ⟨w.heap.size + 1, 0, none⟩) 2 2 ⟨2, 3, 0, 0, ⟨#[]⟩, leafT 0⟩ none 0 V2 H2.out.1).mono ?_
  rintro e V3 ⟨rfl, hV⟩
  rw [show insideB 2 wakeT ⟨2, 3, 0, 0, ⟨#[]⟩, leafT 0⟩ = true from by rfl]
  have H3 := Lib.hid (And.intro (H2.out.1.next hV) (And.intro (hV.at H2.out.2.1 (by simp)) (H2.out.2.2.trans hV)))
  obtain ⟨p0, p1, p2, p3⟩ := blk4 H3.out.2.1
  clear hV
  go_wp2_with fail
  clear p0 p1 p2 p3
  refine (wstep_any wakeT (some ⟨w.heap.size + 1, 0, none⟩) 2 2 ⟨2, 2, 0, 0, ⟨#[]⟩, leafT 0⟩ none 0 V3 H3.out.1).mono ?_
  rintro e V4 ⟨rfl, hV⟩
  rw [show insideB 2 wakeT ⟨2, 2, 0, 0, ⟨#[]⟩, leafT 0⟩ = false from by rfl]
  have H4 := Lib.hid (And.intro (H3.out.1.next hV) (And.intro (hV.at H3.out.2.1 (by simp)) (H3.out.2.2.trans hV)))
  obtain ⟨p0, p1, p2, p3⟩ := blk4 H4.out.2.1
  clear hV
  go_wp2_with fail
  clear p0 p1 p2 p3
  refine (wstep_any wakeT (some ⟨w.heap.size + 1, 0, none⟩) 2 2 ⟨3, 3, 4, 0, ⟨#[]⟩, leafT 0⟩ none 0 V4 H4.out.1).mono ?_
  rintro e V5 ⟨rfl, hV⟩
  rw [show insideB 2 wakeT ⟨3, 3, 4, 0, ⟨#[]⟩, leafT 0⟩ = false from by rfl]
  have H5 := Lib.hid (And.intro (H4.out.1.next hV) (And.intro (hV.at H4.out.2.1 (by simp)) (H4.out.2.2.trans hV)))
  obtain ⟨p0, p1, p2, p3⟩ := blk4 H5.out.2.1
  clear hV
  go_wp2_with fail
  clear p0 p1 p2 p3
  refine (wstep_any wakeT (some ⟨w.heap.size + 1, 0, none⟩) 2 2 ⟨4, 1, 0, 0, ⟨#[]⟩, leafT 0⟩ none 0 V5 H5.out.1).mono ?_
  rintro e V6 ⟨rfl, hV⟩
  rw [show insideB 2 wakeT ⟨4, 1, 0, 0, ⟨#[]⟩, leafT 0⟩ = false from by rfl]
  have H6 := Lib.hid (And.intro (H5.out.1.next hV) (And.intro (hV.at H5.out.2.1 (by simp)) (H5.out.2.2.trans hV)))
  obtain ⟨p0, p1, p2, p3⟩ := blk4 H6.out.2.1
  clear hV
  go_wp2_with (skip; fail)
  clear p0 p1 p2 p3
  go_ret
  exact ⟨rfl, H6.out.2.2⟩
end Go.Proofs.Ytofjocjljbkjgaa
namespace Go.Proofs.Ytofjocjljbkjgaa
open Go.RowKit
set_option maxHeartbeats 4000000 in
set_option maxRecDepth 100000 in
theorem aloneL_any (g : Gr) (Ag : Option Addr) (cg : Nat) (t : Tr) (A : Option Addr) (c : Nat) (root : Int) (ss : List Stp) (B : Option Addr) (d : Nat) (w : World) (hG : GrC w Ag cg g.kinds) (hT : TrC (fun b => b < w.heap.size) w t [.int .i64 (Tr.id t), .int .i64 (Tr.kind t), .string (Tr.text t), .slice A (Tr.kids t).length c]) (hS : StpsC (fun b => b < w.heap.size) w B ss) (hl : ss.length ≤ 9223372036854775807) :
    Calls Try.prog 5 #[.agg #[.slice Ag g.kinds.length cg, .int .i64 g.root], .agg #[.int .i64 (Tr.id t), .int .i64 (Tr.kind t), .string (Tr.text t), .slice A (Tr.kids t).length c], .int .i64 root, .slice B ss.length d] w (fun e w' => e = .returned (.bool true) ∧ Chg [] w w') := by
  obtain ⟨j, hj⟩ := GJ.ex g
  obtain ⟨W, hW⟩ : ∃ W, W = (w.alloc (.cells #[.slice Ag g.kinds.length cg, .int .i64 g.root] 43)).alloc (.cells #[.int .i64 (Tr.id t), .int .i64 (Tr.kind t), .string (Tr.text t), .slice A (Tr.kids t).length c] 24) := ⟨_, rfl⟩
  have hB : Box2 g Ag cg t A c w W := by rw [hW]; exact Box2.new _ _ _ _ _ _ _
  obtain ⟨g0, g1⟩ := cell2 hB.g
  have HW := Lib.hid (And.intro hW (And.intro hB (And.intro hG (And.intro hT (And.intro hS hj)))))
  rw [hW] at g0 g1
  clear hW hB hG hT hS hj
  go_enter Try.func5, Try.ntmps5
  go_wp2_with fail
  rw [← HW.out.1]
  clear g0 g1
  refine (great5_any g Ag cg W (HW.out.2.2.1.kept HW.out.2.1.chg)).mono ?_
  rintro e X ⟨b5, rfl, hsm, hX⟩
  clear hsm
  have HX := Lib.hid (HW.out.2.1.kept hX)
  clear hX
  cases b5 with
  | true =>
    go_wp2_with (go_at_call 25; refine (wakes13 _).mono ?_; rintro e V ⟨rfl, hV⟩; have HV := Lib.hid hV; clear hV)
    go_ret
    exact ⟨rfl, HX.out.chg.trans HV.out⟩
  | false =>
  obtain ⟨p0, p1, p2, p3⟩ := blk4 HX.out.t
  go_wp2_with fail
  clear p0 p1 p2 p3
  refine (great_t t A c X (HW.out.2.2.2.1.next HX.out.chg)).mono ?_
  rintro e Y ⟨bt, rfl, hbt, hY⟩
  have HY := Lib.hid (And.intro (HX.out.kept hY) hbt)
  clear hY hbt
  cases bt with
  | true =>
    go_wp2_with (go_at_call 25; refine (wakes13 _).mono ?_; rintro e V ⟨rfl, hV⟩; have HV := Lib.hid hV; clear hV)
    go_ret
    exact ⟨rfl, HY.out.1.chg.trans HV.out⟩
  | false =>
  have HTn := Lib.hid (HY.out.2 rfl)
  go_wp2_with fail
  refine (greatS_any ss B d Y (HW.out.2.2.2.2.1.next HY.out.1.chg) hl).mono ?_
  rintro e V ⟨bs, rfl, hbs, hV⟩
  have HV := Lib.hid (And.intro (HY.out.1.kept hV) hbs)
  clear hV hbs
  cases bs with
  | true =>
    go_wp2_with (go_at_call 25; refine (wakes13 _).mono ?_; rintro e V2 ⟨rfl, hV2⟩; have HV2 := Lib.hid hV2; clear hV2)
    go_ret
    exact ⟨rfl, HV.out.1.chg.trans HV2.out⟩
  | false =>
  have HSn := Lib.hid (HV.out.2 rfl)
  obtain ⟨g0, g1⟩ := cell2 HV.out.1.g
  obtain ⟨p0, p1, p2, p3⟩ := blk4 HV.out.1.t
  have htr := rtree_any g Ag cg t A c V (HW.out.2.2.1.kept HV.out.1.chg) (HW.out.2.2.2.1.next HV.out.1.chg)
  have HR := Lib.hid htr
  clear htr
  go_wp2_with fail
  clear g0 g1 p0 p1 p2 p3
  refine HR.out.mono ?_
  rintro e U ⟨a1, z1, rfl, h1, h2, hU⟩
  have HU := Lib.hid (And.intro (HV.out.1.kept hU) h1)
  clear hU h1 h2
  by_cases hz1 : z1 = 0
  case neg =>
    have e1 : (z1 != 0) = true := by simpa using hz1
    clear hz1
    go_wp2_with (go_at_call 25; refine (wakes13 _).mono ?_; rintro e V2 ⟨rfl, hV2⟩; have HV2 := Lib.hid hV2; clear hV2)
    go_ret
    exact ⟨rfl, HU.out.1.chg.trans HV2.out⟩
  case pos =>
  subst hz1
  have hsub : SubOk g t := (HU.out.2.1 rfl).2.2
  have HSub := Lib.hid hsub
  clear hsub
  obtain ⟨g0, g1⟩ := cell2 HU.out.1.g
  obtain ⟨p0, p1, p2, p3⟩ := blk4 HU.out.1.t
  have hwl := wall_any g j HW.out.2.2.2.2.2 Ag cg t A c root ss B d U (HW.out.2.2.1.kept HU.out.1.chg) (HW.out.2.2.2.1.next HU.out.1.chg) (HW.out.2.2.2.2.1.next HU.out.1.chg) hl
  have HL := Lib.hid hwl
  clear hwl
  go_wp2_with fail
  clear g0 g1 p0 p1 p2 p3
  refine HL.out.mono ?_
  rintro e U2 ⟨rfl, hU2⟩
  obtain ⟨a2, ha2⟩ : ∃ a, a = (withinAll j root t ss).1 := ⟨_, rfl⟩
  obtain ⟨z2, hz2⟩ : ∃ a, a = (withinAll j root t ss).2 := ⟨_, rfl⟩
  rw [← ha2, ← hz2]
  have HU2 := Lib.hid (And.intro (HU.out.1.kept hU2) (And.intro ha2 hz2))
  clear ha2 hz2 hU2
  by_cases hz0 : z2 = 0
  case neg =>
    have e1 : (z2 != 0) = true := by simpa using hz0
    clear hz0
    go_wp2_with (go_at_call 25; refine (wakes13 _).mono ?_; rintro e V2 ⟨rfl, hV2⟩; have HV2 := Lib.hid hV2; clear hV2)
    go_ret
    exact ⟨rfl, HU2.out.1.chg.trans HV2.out⟩
  case pos =>
  subst hz0
  have hlaw := within_alone HW.out.2.2.2.2.2 HSub.out.nodup HU2.out.2.2.symm
  rw [← HU2.out.2.1] at hlaw
  have HLw := Lib.hid hlaw
  have hsl : ss.length ≤ 70 := HSn.out.1
  have ha : (a2 : Int) = (ss.length : Int) := by rw [hlaw.1]
  obtain ⟨g0, g1⟩ := cell2 HU2.out.1.g
  obtain ⟨p0, p1, p2, p3⟩ := blk4 HU2.out.1.t
  have hap := rapply11_any g j HW.out.2.2.2.2.2 Ag cg t A c ss B d U2 (HW.out.2.2.1.kept HU2.out.1.chg) (HW.out.2.2.2.1.next HU2.out.1.chg) (HW.out.2.2.2.2.1.next HU2.out.1.chg) hl (by have := HTn.out; omega)
  have HA := Lib.hid (And.intro hap ha)
  clear hap hlaw ha
  go_wp2_with fail
  clear g0 g1 p0 p1 p2 p3
  refine HA.out.1.mono ?_
  obtain ⟨ra, hra⟩ : ∃ r, r = applyL j t ss := ⟨_, rfl⟩
  rw [← hra]
  have hlaw := HLw.out.2
  rw [← hra] at hlaw
  have hxn : ra.1.nodes ≤ 100000 := by rw [hra]; exact applyL_nodes (by have := HTn.out; omega) (by omega)
  obtain ⟨xa, na, ea⟩ := ra
  simp only [] at hlaw hxn
  obtain ⟨hea, hbl⟩ := hlaw
  subst hea
  rintro e X2 ⟨A2, c2, rfl, hT2, hX2⟩
  simp only [] at hT2
  obtain ⟨Y2, hY2⟩ : ∃ Y2, Y2 = X2.alloc (.cells #[.int .i64 (Tr.id xa), .int .i64 (Tr.kind xa), .string (Tr.text xa), .slice A2 (Tr.kids xa).length c2] 24) := ⟨_, rfl⟩
  have hn2 : NBox xa A2 c2 X2.heap.size Y2 := by rw [hY2]; exact NBox.new hT2
  have hc2 : Chg [] U2 Y2 := by rw [hY2]; exact hX2.alloc _
  have H2 := Lib.hid (And.intro hY2 (And.intro hn2 (And.intro (HU2.out.1.kept hc2) (And.intro hbl hxn))))
  have hb : ((a2 : Int) == (ss.length : Int)) = true := by rw [HA.out.2]; simp
  clear hra hT2 hX2 hY2 hn2 hc2 hbl hxn
  go_wp2_with (skip; fail)
  rw [← H2.out.1]
  refine wp_region_M (fun W => W.rangeAt X2.heap.size 0 [.int .i64 (Tr.id xa), .int .i64 (Tr.kind xa), .string (Tr.text xa), .slice A2 (Tr.kids xa).length c2]) (fun k => [11, 14, 15, 18].contains k) (fun k => [18].contains k) (by kernel_rfl) ?_
  obtain ⟨Q, hQ⟩ : ∃ Q, Q = Y2.drew := ⟨_, rfl⟩
  rw [← hQ]
  have hYQ : Chg [] Y2 Q := by rw [hQ]; exact (Chg.refl _ _).drew
  clear hQ
  have hBQ := H2.out.2.2.1.kept hYQ
  have hnQ := H2.out.2.1.kept hYQ
  have hS : Q.rangeAt X2.heap.size 0 [.int .i64 (Tr.id xa), .int .i64 (Tr.kind xa), .string (Tr.text xa), .slice A2 (Tr.kids xa).length c2] := range_all hnQ.blk
  have hc1 := blank_any root t A c Q ((HW.out.2.2.2.1.kept hBQ.chg (by simp)).weak (fun _ _ _ => trivial)) (by have := HTn.out; omega)
  have HQ := Lib.hid (And.intro hBQ (And.intro hnQ (And.intro hc1 (range_all hBQ.t : Q.rangeAt (w.heap.size + 1) 0 [.int .i64 (Tr.id t), .int .i64 (Tr.kind t), .string (Tr.text t), .slice A (Tr.kids t).length c]))))
  have wi0 : (0 : Int) ≤ (ss.length : Int) := by omega
  clear hYQ hBQ hnQ hc1
  ((try dsimp only); (try simp only [Act.put, List.setIfInBounds_toArray, List.set_cons_zero, List.set_cons_succ]))
  refine M_pure (i := 0) (v := ?_) rfl (by kernel_rfl) (by kernel_rfl) (by kernel_rfl) (fun _ _ _ h => h) (by rfl) ?hy ?_; (case hy => (intro w; go_simp; with_reducible rfl)); ((try dsimp only); (try simp only [Act.put, List.setIfInBounds_toArray, List.set_cons_zero, List.set_cons_succ]))
  refine M_pure (i := 1) (v := ?_) rfl (by kernel_rfl) (by kernel_rfl) (by kernel_rfl) (fun _ _ _ h => h) (by rfl) ?hy ?_; (case hy => (intro w; go_simp; with_reducible rfl)); ((try dsimp only); (try simp only [Act.put, List.setIfInBounds_toArray, List.set_cons_zero, List.set_cons_succ]))
  refine M_pure (i := 2) (v := ?_) rfl (by kernel_rfl) (by kernel_rfl) (by kernel_rfl) (fun _ _ _ h => h) (by rfl) ?hy ?_; (case hy => (intro w; go_simp; with_reducible rfl)); ((try dsimp only); (try simp only [Act.put, List.setIfInBounds_toArray, List.set_cons_zero, List.set_cons_succ]))
  refine M_pure (i := 3) (v := ?_) rfl (by kernel_rfl) (by kernel_rfl) (by kernel_rfl) (fun _ _ _ h => h) (by rfl) ?hy ?_; (case hy => (intro w; go_simp; with_reducible rfl)); ((try dsimp only); (try simp only [Act.put, List.setIfInBounds_toArray, List.set_cons_zero, List.set_cons_succ]))
  refine M_pure (i := 4) (v := ?_) rfl (by kernel_rfl) (by kernel_rfl) (by kernel_rfl) (fun _ _ _ h => h) (by rfl) ?hy ?_; (case hy => (intro w; go_simp; with_reducible rfl)); ((try dsimp only); (try simp only [Act.put, List.setIfInBounds_toArray, List.set_cons_zero, List.set_cons_succ]))
  refine M_pure (i := 5) (v := ?_) rfl (by kernel_rfl) (by kernel_rfl) (by kernel_rfl) (fun _ _ _ h => h) (by rfl) ?hy ?_; (case hy => (intro w; go_simp; with_reducible rfl)); ((try dsimp only); (try simp only [Act.put, List.setIfInBounds_toArray, List.set_cons_zero, List.set_cons_succ]))
  refine M_pure (i := 6) (v := ?_) rfl (by kernel_rfl) (by kernel_rfl) (by kernel_rfl) (fun _ _ _ h => h) (by rfl) ?hy ?_; (case hy => (intro w; go_simp; with_reducible rfl)); ((try dsimp only); (try simp only [Act.put, List.setIfInBounds_toArray, List.set_cons_zero, List.set_cons_succ]))
  refine M_pure (i := 7) (v := ?_) rfl (by kernel_rfl) (by kernel_rfl) (by kernel_rfl) (fun _ _ _ h => h) (by rfl) ?hy ?_; (case hy => (intro w; go_simp; with_reducible rfl)); ((try dsimp only); (try simp only [Act.put, List.setIfInBounds_toArray, List.set_cons_zero, List.set_cons_succ]))
  refine M_pure (i := 8) (v := ?_) rfl (by kernel_rfl) (by kernel_rfl) (by kernel_rfl) (fun _ _ _ h => h) (by rfl) ?hy ?_; (case hy => (intro w; go_simp; with_reducible rfl)); ((try dsimp only); (try simp only [Act.put, List.setIfInBounds_toArray, List.set_cons_zero, List.set_cons_succ]))
  refine M_take (i := 9) rfl (by kernel_rfl) (by kernel_rfl) (by kernel_rfl) (by kernel_rfl) (fun _ _ _ h => h) (by rfl) (exec_load_mid 24 (.tmp 5) rfl (w.heap.size + 1) 0 rfl _ _ HQ.out.2.2.2 Try.underlying24 rfl szNode) ?_; ((try dsimp only); (try simp only [Act.put, List.setIfInBounds_toArray, List.set_cons_zero, List.set_cons_succ]))
  refine M_pure (i := 10) (v := ?_) rfl (by kernel_rfl) (by kernel_rfl) (by kernel_rfl) (fun _ _ _ h => h) (by rfl) ?hy ?_; (case hy => (intro w; go_simp; with_reducible rfl)); ((try dsimp only); (try simp only [Act.put, List.setIfInBounds_toArray, List.set_cons_zero, List.set_cons_succ]))
  refine M_semi (i := 12) rfl (by kernel_rfl) (by kernel_rfl) (by kernel_rfl) (by kernel_rfl) (fun _ _ _ h => h) (by rfl) hS (fun W hS => exec_load_mid 24 (.tmp 13) rfl X2.heap.size 0 rfl _ _ hS Try.underlying24 rfl szNode) ?_; ((try dsimp only); (try simp only [Act.put, List.setIfInBounds_toArray, List.set_cons_zero, List.set_cons_succ]))
  refine M_pure (i := 13) (v := ?_) rfl (by kernel_rfl) (by kernel_rfl) (by kernel_rfl) (fun _ _ _ h => h) (by rfl) ?hy ?_; (case hy => (intro w; go_simp; with_reducible rfl)); ((try dsimp only); (try simp only [Act.put, List.setIfInBounds_toArray, List.set_cons_zero, List.set_cons_succ]))
  refine M_eff (i := 11) rfl (by kernel_rfl) (by rfl) ?_
  go_wp2_with fail
  refine HQ.out.2.2.1.mono ?_
  rintro e X3 ⟨A3, c3, rfl, hV3, hX3⟩
  have hn3 := HQ.out.2.1.kept hX3
  have hS3 : X3.rangeAt X2.heap.size 0 [.int .i64 (Tr.id xa), .int .i64 (Tr.kind xa), .string (Tr.text xa), .slice A2 (Tr.kids xa).length c2] := range_all hn3.blk
  have hc2 := blank_any root xa A2 c2 X3 (hn3.ok.weak (fun _ _ _ => trivial)) H2.out.2.2.2.2
  have H3 := Lib.hid (And.intro (HQ.out.1.kept hX3) (And.intro hn3 (And.intro hV3 hc2)))
  clear hX3 hn3 hV3 hc2 hS
  go_wp2_with fail
  refine ⟨hS3, ?_⟩
  clear hS3
  ((try dsimp only); (try simp only [Act.put, List.setIfInBounds_toArray, List.set_cons_zero, List.set_cons_succ]))
  refine M_eff (i := 14) rfl (by kernel_rfl) (by rfl) ?_
  go_wp2_with fail
  refine H3.out.2.2.2.mono ?_
  rw [H2.out.2.2.2.1]
  obtain ⟨r, hr⟩ : ∃ r, r = blankT root t := ⟨_, rfl⟩
  have hV3 := H3.out.2.2.1
  rw [← hr] at hV3 ⊢
  rintro e X4 ⟨A4, c4, rfl, hV4, hX4⟩
  have hn4 := H3.out.2.1.kept hX4
  have hS4 : X4.rangeAt X2.heap.size 0 [.int .i64 (Tr.id xa), .int .i64 (Tr.kind xa), .string (Tr.text xa), .slice A2 (Tr.kids xa).length c2] := range_all hn4.blk
  have hsm := same_any r r A3 c3 A4 c4 X4 ((hV3.toC.kept hX4 (by simp)).weak (fun _ _ _ => trivial)) (hV4.toC.weak (fun _ _ _ => trivial))
  have H4 := Lib.hid (And.intro (H3.out.1.kept hX4) (And.intro hn4 hsm))
  clear hV3 hV4 hX4 hn4 hsm hr
  go_wp2_with fail
  refine ⟨hS4, ?_⟩
  ((try dsimp only); (try simp only [Act.put, List.setIfInBounds_toArray, List.set_cons_zero, List.set_cons_succ]))
  refine M_eff (i := 15) rfl (by kernel_rfl) (by rfl) ?_
  go_wp2_with fail
  refine H4.out.2.2.mono ?_
  rintro e X5 ⟨b5, rfl, hb5, hX5⟩
  obtain rfl : b5 = true := hb5.2 rfl
  have hn5 := H4.out.2.1.kept hX5
  have hS5 : X5.rangeAt X2.heap.size 0 [.int .i64 (Tr.id xa), .int .i64 (Tr.kind xa), .string (Tr.text xa), .slice A2 (Tr.kids xa).length c2] := range_all hn5.blk
  have H5 := Lib.hid (H4.out.1.kept hX5).chg
  clear hb5 hX5 hn5 hS4
  go_wp2_with fail
  refine ⟨hS5, ?_⟩
  clear hS5
  ((try dsimp only); (try simp only [Act.put, List.setIfInBounds_toArray, List.set_cons_zero, List.set_cons_succ]))
  refine M_pure (i := 16) (v := ?_) rfl (by kernel_rfl) (by kernel_rfl) (by kernel_rfl) (fun _ _ _ h => h) (by rfl) ?hy ?_; (case hy => (intro w; go_simp; with_reducible rfl)); ((try dsimp only); (try simp only [Act.put, List.setIfInBounds_toArray, List.set_cons_zero, List.set_cons_succ]))
  refine M_pure (i := 17) (v := ?_) rfl (by kernel_rfl) (by kernel_rfl) (by kernel_rfl) (fun _ _ _ h => h) (by rfl) ?hy ?_; (case hy => (intro w; go_simp; with_reducible rfl)); ((try dsimp only); (try simp only [Act.put, List.setIfInBounds_toArray, List.set_cons_zero, List.set_cons_succ]))
  refine M_brk (i := 18) rfl (by kernel_rfl) (by rfl) (by rfl) ?_
  go_wp2_with fail
  refine (wakes13 X5).mono ?_
  rintro e V2 ⟨rfl, hV2⟩
  have HV2 := Lib.hid hV2
  clear hV2
  go_wp2_with fail
  ((try dsimp only [EffQ]); (try simp only [Act.put, List.setIfInBounds_toArray, List.set_cons_zero, List.set_cons_succ]))
  refine M_pure (i := 19) (v := ?_) rfl (by kernel_rfl) (by kernel_rfl) (by kernel_rfl) (fun _ _ _ h => h) (by rfl) ?hy ?_; (case hy => (intro w; go_simp; with_reducible rfl)); ((try dsimp only); (try simp only [Act.put, List.setIfInBounds_toArray, List.set_cons_zero, List.set_cons_succ]))
  refine M_pure (i := 20) (v := ?_) rfl (by kernel_rfl) (by kernel_rfl) (by kernel_rfl) (fun _ _ _ h => h) (by rfl) ?hy ?_; (case hy => (intro w; go_simp; with_reducible rfl)); ((try dsimp only); (try simp only [Act.put, List.setIfInBounds_toArray, List.set_cons_zero, List.set_cons_succ]))
  refine M_done (by kernel_rfl) ?_ _
  go_wp2_with (skip; fail)
  go_ret
  exact ⟨rfl, H5.out.trans HV2.out⟩
end Go.Proofs.Ytofjocjljbkjgaa
