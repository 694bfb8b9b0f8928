import Derived.Test.YtipijkpjmpejlaaPgN
/- The contract of pages.Open. -/
set_option linter.unusedVariables false
set_option linter.unusedSimpArgs false
namespace Go.Proofs.Ytipijkpjmpejlaa
open Go.RowKit
def Img.next (x : Img) : Img := { x with boot := wrap64 (x.boot + 1) }
def Img.first (x : Img) : List Int := bytes0 x.gen x.half x.boot
/-- What Open makes of a disk. -/
def openOf (D : DS) : DS × Option PS × Int :=
  let t := imageOf D
  if t.2.2 ≠ 0 then (D, none, t.2.2)
  else if t.1.gen = 0 then (D, some ⟨t.1, t.2.1, false⟩, 0)
  else if D.err 0 t.1.next.first = 0 then (D.write 0 t.1.next.first, some ⟨t.1.next, t.2.1, false⟩, 0)
  else (D.write 0 t.1.next.first, none, D.err 0 t.1.next.first)
def OpenPost (w0 : World) (p : Nat) (t : DS × Option PS × Int) (w : World) (e : Ending) (w' : World) : Prop :=
  DiskI w0 w' p t.1 ∧ ChgT w0 TD w w' ∧ match t.2.1 with
    | none => e = .returned (.tuple #[.pointer none, .int .i64 t.2.2])
    | some P => ∃ q, e = .returned (.tuple #[.pointer (some ⟨q, 0, none⟩), .int .i64 t.2.2]) ∧ PagesI w0 w' q p P ∧ w.heap.size ≤ q
theorem pg_one (p : Nat) (a b c : Int) (A : Option Addr) (n d : Nat) (u : Int) (dd : Bool) : (#[.pointer (some ⟨p, 0, none⟩), .int .i64 a, .int .i64 b, .int .i64 c, .slice A n d, .int .i64 u, .bool dd] : Array Value).all (·.oneCell') = true := by
  rw [Array.all_eq_true_iff_forall_mem]
  intro v hv
  simp only [List.mem_toArray, List.mem_cons, List.not_mem_nil, or_false] at hv
  rcases hv with rfl | rfl | rfl | rfl | rfl | rfl | rfl <;> rfl
theorem buildPG (p : Nat) (a b c : Int) (A : Option Addr) (n d : Nat) (u : Int) (w : World) : (Instr.build 152 #[(0, .pointer (some ⟨p, 0, none⟩)), (1, .agg #[.int .i64 a, .int .i64 b, .int .i64 c, .slice A n d]), (2, .int .i64 u)]).run Try.prog w = .ok (.agg #[.pointer (some ⟨p, 0, none⟩), .int .i64 a, .int .i64 b, .int .i64 c, .slice A n d, .int .i64 u, .bool false]) w := by kernel_rfl
theorem open_nil (w : World) : Calls Try.prog 57 #[.pointer none] w fun e w' => e = .returned (.tuple #[.pointer none, .int .i64 1]) ∧ Chg [] w w' := by
  go_enter Try.func57, Try.ntmps57
  go_wp2_with fail
  refine (image_nil w).mono ?_
  rintro e Y ⟨v, rfl, hr, hc⟩
  obtain ⟨Av, cv, rfl⟩ := hr.slice
  have HY := Lib.hid hc
  clear hc hr
  go_wp2_with (first
    | (refine wpList_alloc rfl 98 rfl _ zeroImg ?_
       refine wpList_world (fun Z => Z.heap[Y.heap.size]? = some (.cells #[.int .i64 0, .int .i64 0, .int .i64 0, .slice none 0 0] 98 (0, 0)) ∧ Chg [] Y Z) ⟨heap_new _ _ rfl, (by with_reducible repeat (first | exact Chg.refl _ _ | apply Chg.alloc | apply Chg.drew | apply Chg.drewN | (refine Chg.setCell ?_ _ _ (by simp))))⟩ ?_
       rintro Z ⟨hb, hZ⟩
       refine wpList_store_row rfl 98 (.tmp 4) (.tmp 12) rfl Y.heap.size (by kernel_rfl) #[.int .i64 0, .int .i64 0, .int .i64 0, .slice Av Img.zero.recs.length cv] (by kernel_rfl) _ _ hb infoImg rfl (img_one _ _ _ _ rfl) ?_
       refine wpList_world (fun U => Chg [] Y U) (hZ.andThen (setRow_chg _ _ _) (by simp)) ?_
       rintro U hU
       have HU := Lib.hid hU
       clear hb hZ hU
       ((try dsimp only); (try simp only [Act.put, List.setIfInBounds_toArray, List.set_cons_zero, List.set_cons_succ])))
    | (skip; fail))
  go_ret2
  exact ⟨rfl, HY.out.trans HU.out⟩
set_option maxHeartbeats 4000000 in
set_option maxRecDepth 100000 in
theorem open_any (w0 w : World) (p : Nat) (D : DS) (hD : DiskI w0 w p D) (hr : D.Room 1) : Calls Try.prog 57 #[.pointer (some ⟨p, 0, none⟩)] w (OpenPost w0 p (openOf D) w) := by
  have hw0 : w0.heap.size ≤ w.heap.size := by obtain ⟨bm, v, hA, h1, _⟩ := hD; have := lt_of_block hA.blk; omega
  have HI := Lib.hid (image_any w0 w p D hD)
  have HD := Lib.hid (And.intro hD hr)
  clear hD hr
  obtain ⟨t, ht⟩ : ∃ t, t = imageOf D := ⟨_, rfl⟩
  have hop : openOf D = if t.2.2 ≠ 0 then (D, none, t.2.2) else if t.1.gen = 0 then (D, some ⟨t.1, t.2.1, false⟩, 0) else if D.err 0 t.1.next.first = 0 then (D.write 0 t.1.next.first, some ⟨t.1.next, t.2.1, false⟩, 0) else (D.write 0 t.1.next.first, none, D.err 0 t.1.next.first) := by rw [ht]; rfl
  rw [hop]
  rw [← ht] at HI
  clear ht hop
  obtain ⟨⟨gen, half, boot, rs⟩, used, err⟩ := t
  dsimp only at *
  by_cases he : err = 0
  · subst he
    rw [if_neg (by simp)]
    by_cases hg : gen = 0
    · subst hg
      rw [if_pos rfl]
      go_enter Try.func57, Try.ntmps57
      go_wp2_with fail
      refine HI.out.mono ?_
      rintro e Y ⟨v, rfl, hr, hc⟩
      obtain ⟨Av, cv, rfl⟩ := hr.slice
      have HY := Lib.hid (And.intro hr hc)
      clear hc hr
      go_wp2_with (first
        | (refine wpList_alloc rfl 98 rfl _ zeroImg ?_
           refine wpList_world (fun Z => Z.heap[Y.heap.size]? = some (.cells #[.int .i64 0, .int .i64 0, .int .i64 0, .slice none 0 0] 98 (0, 0)) ∧ Chg [] Y Z) ⟨heap_new _ _ rfl, (by with_reducible repeat (first | exact Chg.refl _ _ | apply Chg.alloc | apply Chg.drew | apply Chg.drewN | (refine Chg.setCell ?_ _ _ (by simp))))⟩ ?_
           rintro Z ⟨hb, hZ⟩
           refine wpList_store_row rfl 98 (.tmp 4) (.tmp 12) rfl Y.heap.size (by kernel_rfl) #[.int .i64 0, .int .i64 half, .int .i64 boot, .slice Av rs.length cv] (by kernel_rfl) _ _ hb infoImg rfl (img_one _ _ _ _ rfl) ?_
           refine wpList_world (fun U => U.heap[Y.heap.size]? = some (.cells #[.int .i64 0, .int .i64 half, .int .i64 boot, .slice Av rs.length cv] 98 (0, 0)) ∧ Chg [] Y U) ⟨setRow_heap _ _ _ _ _ _ hb, hZ.andThen (setRow_chg _ _ _) (by simp)⟩ ?_
           rintro U ⟨hu, hU⟩
           have HU := Lib.hid (And.intro hu hU)
           clear hb hZ hu hU
           ((try dsimp only); (try simp only [Act.put, List.setIfInBounds_toArray, List.set_cons_zero, List.set_cons_succ])))
        | (refine wpList_load_mid rfl 98 (.tmp 4) rfl Y.heap.size 0 (by kernel_rfl) _ _ (range_all (cs := [_, _, _, _]) HU.out.1) Try.underlying98 rfl infoImg ?_
           ((try dsimp only); (try simp only [Act.put, List.setIfInBounds_toArray, List.set_cons_zero, List.set_cons_succ])))
        | (refine wpList_build rfl 152 #[(0, .tmp 18), (1, .tmp 19), (2, .tmp 20)] rfl #[(0, .pointer (some ⟨p, 0, none⟩)), (1, .agg #[.int .i64 0, .int .i64 half, .int .i64 boot, .slice Av rs.length cv]), (2, .int .i64 used)] (by kernel_rfl) _ (buildPG p 0 half boot Av rs.length cv used) ?_
           ((try dsimp only); (try simp only [Act.put, List.setIfInBounds_toArray, List.set_cons_zero, List.set_cons_succ])))
        | (refine wpList_box rfl 152 (.tmp 21) rfl (.agg #[.pointer (some ⟨p, 0, none⟩), .int .i64 0, .int .i64 half, .int .i64 boot, .slice Av rs.length cv, .int .i64 used, .bool false]) (by kernel_rfl) ?_
           refine wpList_world (fun V => V.heap[U.heap.size]? = some (.cells #[.pointer (some ⟨p, 0, none⟩), .int .i64 0, .int .i64 half, .int .i64 boot, .slice Av rs.length cv, .int .i64 used, .bool false] 152 (0, 0)) ∧ Chg [] U V) ⟨heap_new _ _ rfl, (by with_reducible repeat (first | exact Chg.refl _ _ | apply Chg.alloc | apply Chg.drew | apply Chg.drewN | (refine Chg.setCell ?_ _ _ (by simp))))⟩ ?_
           rintro V ⟨hv, hV⟩
           have HV := Lib.hid (And.intro hv ((HY.out.2.trans HU.out.2).trans hV))
           have hpi : PagesI w0 V U.heap.size p ⟨⟨0, half, boot, rs⟩, used, false⟩ := ⟨_, hv, ((HY.out.1.kept0 HU.out.2).kept0 hV).base hw0, by have h1 := HY.out.2.size; have h2 := HU.out.2.size; omega⟩
           have HP := Lib.hid (And.intro hpi (show w.heap.size ≤ U.heap.size by have h1 := HY.out.2.size; have h2 := HU.out.2.size; omega))
           clear hv hV hpi
           ((try dsimp only); (try simp only [Act.put, List.setIfInBounds_toArray, List.set_cons_zero, List.set_cons_succ])))
        | (go_at_call 58; refine (blank_any w0 V U.heap.size p _ HP.out.1).mono ?_; rintro e w' ⟨rfl, rfl⟩)
        | (skip; fail))
      go_ret2
      exact ⟨HD.out.1.kept0 HV.out.2, ChgT.of_nil HV.out.2, _, rfl, HP.out.1, HP.out.2⟩
    · have e1 : (gen == 0) = false := by simpa using hg
      rw [if_neg hg]
      clear hg
      have hgn : (Img.mk gen half boot rs).next.first = bytes0 gen half (wrap64 (boot + 1)) := rfl
      have hgx : (Img.mk gen half boot rs).next = ⟨gen, half, wrap64 (boot + 1), rs⟩ := rfl
      rw [hgn, hgx]
      clear hgn hgx
      obtain ⟨er, her⟩ : ∃ er, er = D.err 0 (bytes0 gen half (wrap64 (boot + 1))) := ⟨_, rfl⟩
      rw [← her]
      have HER := Lib.hid her
      clear her
      by_cases hez : er = 0
      · subst hez
        rw [if_pos rfl]
        go_enter Try.func57, Try.ntmps57
        go_wp2_with fail
        refine HI.out.mono ?_
        rintro e Y ⟨v, rfl, hr, hc⟩
        obtain ⟨Av, cv, rfl⟩ := hr.slice
        have HY := Lib.hid (And.intro hr hc)
        clear hc hr
        go_wp2_with (first
          | (refine wpList_alloc rfl 98 rfl _ zeroImg ?_
             refine wpList_world (fun Z => Z.heap[Y.heap.size]? = some (.cells #[.int .i64 0, .int .i64 0, .int .i64 0, .slice none 0 0] 98 (0, 0)) ∧ Chg [] Y Z) ⟨heap_new _ _ rfl, (by with_reducible repeat (first | exact Chg.refl _ _ | apply Chg.alloc | apply Chg.drew | apply Chg.drewN | (refine Chg.setCell ?_ _ _ (by simp))))⟩ ?_
             rintro Z ⟨hb, hZ⟩
             refine wpList_store_row rfl 98 (.tmp 4) (.tmp 12) rfl Y.heap.size (by kernel_rfl) #[.int .i64 gen, .int .i64 half, .int .i64 boot, .slice Av rs.length cv] (by kernel_rfl) _ _ hb infoImg rfl (img_one _ _ _ _ rfl) ?_
             refine wpList_world (fun U => U.heap[Y.heap.size]? = some (.cells #[.int .i64 gen, .int .i64 half, .int .i64 boot, .slice Av rs.length cv] 98 (0, 0)) ∧ Chg [] Y U) ⟨setRow_heap _ _ _ _ _ _ hb, hZ.andThen (setRow_chg _ _ _) (by simp)⟩ ?_
             rintro U ⟨hu, hU⟩
             have HU := Lib.hid (And.intro hu hU)
             clear hb hZ hu hU
             ((try dsimp only); (try simp only [Act.put, List.setIfInBounds_toArray, List.set_cons_zero, List.set_cons_succ])))
          | (refine wpList_load_mid rfl 98 (.tmp 4) rfl Y.heap.size 0 (by kernel_rfl) _ _ (range_all (cs := [_, _, _, _]) HU.out.1) Try.underlying98 rfl infoImg ?_
             ((try dsimp only); (try simp only [Act.put, List.setIfInBounds_toArray, List.set_cons_zero, List.set_cons_succ])))
          | (refine wpList_build rfl 152 #[(0, .tmp 18), (1, .tmp 19), (2, .tmp 20)] rfl #[(0, .pointer (some ⟨p, 0, none⟩)), (1, .agg #[.int .i64 gen, .int .i64 half, .int .i64 boot, .slice Av rs.length cv]), (2, .int .i64 used)] (by kernel_rfl) _ (buildPG p gen half boot Av rs.length cv used) ?_
             ((try dsimp only); (try simp only [Act.put, List.setIfInBounds_toArray, List.set_cons_zero, List.set_cons_succ])))
          | (refine wpList_box rfl 152 (.tmp 21) rfl (.agg #[.pointer (some ⟨p, 0, none⟩), .int .i64 gen, .int .i64 half, .int .i64 boot, .slice Av rs.length cv, .int .i64 used, .bool false]) (by kernel_rfl) ?_
             refine wpList_world (fun V => V.heap[U.heap.size]? = some (.cells #[.pointer (some ⟨p, 0, none⟩), .int .i64 gen, .int .i64 half, .int .i64 boot, .slice Av rs.length cv, .int .i64 used, .bool false] 152 (0, 0)) ∧ Chg [] U V) ⟨heap_new _ _ rfl, (by with_reducible repeat (first | exact Chg.refl _ _ | apply Chg.alloc | apply Chg.drew | apply Chg.drewN | (refine Chg.setCell ?_ _ _ (by simp))))⟩ ?_
             rintro V ⟨hv, hV⟩
             have HV := Lib.hid (And.intro hv ((HY.out.2.trans HU.out.2).trans hV))
             have hpi : PagesI w0 V U.heap.size p ⟨⟨gen, half, boot, rs⟩, used, false⟩ := ⟨_, hv, ((HY.out.1.kept0 HU.out.2).kept0 hV).base hw0, by have h1 := HY.out.2.size; have h2 := HU.out.2.size; omega⟩
             have HP := Lib.hid (And.intro hpi (show w.heap.size ≤ U.heap.size by have h1 := HY.out.2.size; have h2 := HU.out.2.size; omega))
             obtain ⟨_, _, _, c3, _, _, _, cf⟩ := cell7 hv
             have cf3 := cf 3
             clear hv hV hpi cf
             ((try dsimp only); (try simp only [Act.put, List.setIfInBounds_toArray, List.set_cons_zero, List.set_cons_succ])))
          | (go_at_call 58; refine (blank_any w0 V U.heap.size p _ HP.out.1).mono ?_; rintro e w' ⟨rfl, rfl⟩)
          | (refine wpList_load_mid rfl 98 (.tmp 38) rfl U.heap.size 1 (by kernel_rfl) [.int .i64 gen, .int .i64 half, .int .i64 (wrap64 (boot + 1)), .slice Av rs.length cv] _ (range_of_block (cs := [.pointer (some ⟨p, 0, none⟩), .int .i64 gen, .int .i64 half, .int .i64 (wrap64 (boot + 1)), .slice Av rs.length cv, .int .i64 used, .bool false]) (heap_setCell_same V U.heap.size 3 _ _ (.int .i64 (wrap64 (boot + 1))) HV.out.1) 1 4) Try.underlying98 rfl infoImg ?_
             ((try dsimp only); (try simp only [Act.put, List.setIfInBounds_toArray, List.set_cons_zero, List.set_cons_succ])))
          | (skip; fail))
        have hlt : p < U.heap.size := by obtain ⟨_, _, hA, _⟩ := HD.out.1; have h0 := lt_of_block hA.blk; have h1 := HY.out.2.size; have h2 := HU.out.2.size; omega
        have hb3 : (V.setCell ⟨U.heap.size, 3, none⟩ (.int .i64 (wrap64 (boot + 1)))).heap[U.heap.size]? = some (.cells #[.pointer (some ⟨p, 0, none⟩), .int .i64 gen, .int .i64 half, .int .i64 (wrap64 (boot + 1)), .slice Av rs.length cv, .int .i64 used, .bool false] 152 (0, 0)) := heap_setCell_same V U.heap.size 3 _ _ (.int .i64 (wrap64 (boot + 1))) HV.out.1
        have hc3 : Chg [U.heap.size] V (V.setCell ⟨U.heap.size, 3, none⟩ (.int .i64 (wrap64 (boot + 1)))) := (Chg.refl _ _).setCell _ _ (by simp)
        have ht3 : ChgT w0 [some 152] V (V.setCell ⟨U.heap.size, 3, none⟩ (.int .i64 (wrap64 (boot + 1)))) := ChgT.of_chg hc3 (fun k hk _ => by simp at hk; subst hk; exact ⟨by have h1 := HP.out.2; omega, fun o ho => by rw [HV.out.1] at ho; cases ho; simp [okind]⟩)
        have hd3 : DiskI w0 (V.setCell ⟨U.heap.size, 3, none⟩ (.int .i64 (wrap64 (boot + 1)))) p D := (HD.out.1.kept0 HV.out.2).kept ht3 (by decide) (by decide) (by decide)
        obtain ⟨vv, hvb, hvr, hvq⟩ := HP.out.1
        have hve : vv = .slice Av rs.length cv := by rw [HV.out.1] at hvb; injection hvb with hvb; injection hvb with h1; simp at h1; exact h1.symm
        rw [hve] at hvr
        have hp3 : PagesI w0 (V.setCell ⟨U.heap.size, 3, none⟩ (.int .i64 (wrap64 (boot + 1)))) U.heap.size p ⟨⟨gen, half, wrap64 (boot + 1), rs⟩, used, false⟩ := ⟨_, hb3, hvr.kept ht3 (by decide) (by decide), hvq⟩
        have hcw3 : Chg [] w (V.setCell ⟨U.heap.size, 3, none⟩ (.int .i64 (wrap64 (boot + 1)))) := HV.out.2.andThen hc3 (fun k hk => by simp at hk; subst hk; exact .inr HP.out.2)
        have H3 := Lib.hid (And.intro hp3 (And.intro hcw3 HP.out.2))
        have hfa := first_any w0 p D gen half (wrap64 (boot + 1)) (.slice Av rs.length cv) _ hd3 HD.out.2
        rw [← HER.out] at hfa
        have HF := Lib.hid hfa
        clear hfa
        clear hb3 hc3 ht3 hd3 hvb hvr hve hp3 hcw3 c3 cf3
        refine HF.out.mono ?_
        rintro e Z ⟨rfl, hz1, hz2⟩
        have HZ := Lib.hid (And.intro hz1 hz2)
        clear hz1 hz2
        go_wp2_with fail
        go_ret2
        exact ⟨HZ.out.1, (ChgT.of_nil H3.out.2.1).trans HZ.out.2, _, rfl, H3.out.1.kept HZ.out.2 (by decide) (by decide) (by decide), H3.out.2.2⟩
      · have e2 : (er != 0) = true := by simpa using hez
        have e3 : (er == 0) = false := by simpa using hez
        rw [if_neg hez]
        clear hez
        go_enter Try.func57, Try.ntmps57
        go_wp2_with fail
        refine HI.out.mono ?_
        rintro e Y ⟨v, rfl, hr, hc⟩
        obtain ⟨Av, cv, rfl⟩ := hr.slice
        have HY := Lib.hid (And.intro hr hc)
        clear hc hr
        go_wp2_with (first
          | (refine wpList_alloc rfl 98 rfl _ zeroImg ?_
             refine wpList_world (fun Z => Z.heap[Y.heap.size]? = some (.cells #[.int .i64 0, .int .i64 0, .int .i64 0, .slice none 0 0] 98 (0, 0)) ∧ Chg [] Y Z) ⟨heap_new _ _ rfl, (by with_reducible repeat (first | exact Chg.refl _ _ | apply Chg.alloc | apply Chg.drew | apply Chg.drewN | (refine Chg.setCell ?_ _ _ (by simp))))⟩ ?_
             rintro Z ⟨hb, hZ⟩
             refine wpList_store_row rfl 98 (.tmp 4) (.tmp 12) rfl Y.heap.size (by kernel_rfl) #[.int .i64 gen, .int .i64 half, .int .i64 boot, .slice Av rs.length cv] (by kernel_rfl) _ _ hb infoImg rfl (img_one _ _ _ _ rfl) ?_
             refine wpList_world (fun U => U.heap[Y.heap.size]? = some (.cells #[.int .i64 gen, .int .i64 half, .int .i64 boot, .slice Av rs.length cv] 98 (0, 0)) ∧ Chg [] Y U) ⟨setRow_heap _ _ _ _ _ _ hb, hZ.andThen (setRow_chg _ _ _) (by simp)⟩ ?_
             rintro U ⟨hu, hU⟩
             have HU := Lib.hid (And.intro hu hU)
             clear hb hZ hu hU
             ((try dsimp only); (try simp only [Act.put, List.setIfInBounds_toArray, List.set_cons_zero, List.set_cons_succ])))
          | (refine wpList_load_mid rfl 98 (.tmp 4) rfl Y.heap.size 0 (by kernel_rfl) _ _ (range_all (cs := [_, _, _, _]) HU.out.1) Try.underlying98 rfl infoImg ?_
             ((try dsimp only); (try simp only [Act.put, List.setIfInBounds_toArray, List.set_cons_zero, List.set_cons_succ])))
          | (refine wpList_build rfl 152 #[(0, .tmp 18), (1, .tmp 19), (2, .tmp 20)] rfl #[(0, .pointer (some ⟨p, 0, none⟩)), (1, .agg #[.int .i64 gen, .int .i64 half, .int .i64 boot, .slice Av rs.length cv]), (2, .int .i64 used)] (by kernel_rfl) _ (buildPG p gen half boot Av rs.length cv used) ?_
             ((try dsimp only); (try simp only [Act.put, List.setIfInBounds_toArray, List.set_cons_zero, List.set_cons_succ])))
          | (refine wpList_box rfl 152 (.tmp 21) rfl (.agg #[.pointer (some ⟨p, 0, none⟩), .int .i64 gen, .int .i64 half, .int .i64 boot, .slice Av rs.length cv, .int .i64 used, .bool false]) (by kernel_rfl) ?_
             refine wpList_world (fun V => V.heap[U.heap.size]? = some (.cells #[.pointer (some ⟨p, 0, none⟩), .int .i64 gen, .int .i64 half, .int .i64 boot, .slice Av rs.length cv, .int .i64 used, .bool false] 152 (0, 0)) ∧ Chg [] U V) ⟨heap_new _ _ rfl, (by with_reducible repeat (first | exact Chg.refl _ _ | apply Chg.alloc | apply Chg.drew | apply Chg.drewN | (refine Chg.setCell ?_ _ _ (by simp))))⟩ ?_
             rintro V ⟨hv, hV⟩
             have HV := Lib.hid (And.intro hv ((HY.out.2.trans HU.out.2).trans hV))
             have hpi : PagesI w0 V U.heap.size p ⟨⟨gen, half, boot, rs⟩, used, false⟩ := ⟨_, hv, ((HY.out.1.kept0 HU.out.2).kept0 hV).base hw0, by have h1 := HY.out.2.size; have h2 := HU.out.2.size; omega⟩
             have HP := Lib.hid (And.intro hpi (show w.heap.size ≤ U.heap.size by have h1 := HY.out.2.size; have h2 := HU.out.2.size; omega))
             obtain ⟨_, _, _, c3, _, _, _, cf⟩ := cell7 hv
             have cf3 := cf 3
             clear hv hV hpi cf
             ((try dsimp only); (try simp only [Act.put, List.setIfInBounds_toArray, List.set_cons_zero, List.set_cons_succ])))
          | (go_at_call 58; refine (blank_any w0 V U.heap.size p _ HP.out.1).mono ?_; rintro e w' ⟨rfl, rfl⟩)
          | (refine wpList_load_mid rfl 98 (.tmp 38) rfl U.heap.size 1 (by kernel_rfl) [.int .i64 gen, .int .i64 half, .int .i64 (wrap64 (boot + 1)), .slice Av rs.length cv] _ (range_of_block (cs := [.pointer (some ⟨p, 0, none⟩), .int .i64 gen, .int .i64 half, .int .i64 (wrap64 (boot + 1)), .slice Av rs.length cv, .int .i64 used, .bool false]) (heap_setCell_same V U.heap.size 3 _ _ (.int .i64 (wrap64 (boot + 1))) HV.out.1) 1 4) Try.underlying98 rfl infoImg ?_
             ((try dsimp only); (try simp only [Act.put, List.setIfInBounds_toArray, List.set_cons_zero, List.set_cons_succ])))
          | (skip; fail))
        have hlt : p < U.heap.size := by obtain ⟨_, _, hA, _⟩ := HD.out.1; have h0 := lt_of_block hA.blk; have h1 := HY.out.2.size; have h2 := HU.out.2.size; omega
        have hb3 : (V.setCell ⟨U.heap.size, 3, none⟩ (.int .i64 (wrap64 (boot + 1)))).heap[U.heap.size]? = some (.cells #[.pointer (some ⟨p, 0, none⟩), .int .i64 gen, .int .i64 half, .int .i64 (wrap64 (boot + 1)), .slice Av rs.length cv, .int .i64 used, .bool false] 152 (0, 0)) := heap_setCell_same V U.heap.size 3 _ _ (.int .i64 (wrap64 (boot + 1))) HV.out.1
        have hc3 : Chg [U.heap.size] V (V.setCell ⟨U.heap.size, 3, none⟩ (.int .i64 (wrap64 (boot + 1)))) := (Chg.refl _ _).setCell _ _ (by simp)
        have ht3 : ChgT w0 [some 152] V (V.setCell ⟨U.heap.size, 3, none⟩ (.int .i64 (wrap64 (boot + 1)))) := ChgT.of_chg hc3 (fun k hk _ => by simp at hk; subst hk; exact ⟨by have h1 := HP.out.2; omega, fun o ho => by rw [HV.out.1] at ho; cases ho; simp [okind]⟩)
        have hd3 : DiskI w0 (V.setCell ⟨U.heap.size, 3, none⟩ (.int .i64 (wrap64 (boot + 1)))) p D := (HD.out.1.kept0 HV.out.2).kept ht3 (by decide) (by decide) (by decide)
        obtain ⟨vv, hvb, hvr, hvq⟩ := HP.out.1
        have hve : vv = .slice Av rs.length cv := by rw [HV.out.1] at hvb; injection hvb with hvb; injection hvb with h1; simp at h1; exact h1.symm
        rw [hve] at hvr
        have hp3 : PagesI w0 (V.setCell ⟨U.heap.size, 3, none⟩ (.int .i64 (wrap64 (boot + 1)))) U.heap.size p ⟨⟨gen, half, wrap64 (boot + 1), rs⟩, used, false⟩ := ⟨_, hb3, hvr.kept ht3 (by decide) (by decide), hvq⟩
        have hcw3 : Chg [] w (V.setCell ⟨U.heap.size, 3, none⟩ (.int .i64 (wrap64 (boot + 1)))) := HV.out.2.andThen hc3 (fun k hk => by simp at hk; subst hk; exact .inr HP.out.2)
        have H3 := Lib.hid (And.intro hp3 (And.intro hcw3 HP.out.2))
        have hfa := first_any w0 p D gen half (wrap64 (boot + 1)) (.slice Av rs.length cv) _ hd3 HD.out.2
        rw [← HER.out] at hfa
        have HF := Lib.hid hfa
        clear hfa
        clear hb3 hc3 ht3 hd3 hvb hvr hve hp3 hcw3 c3 cf3
        refine HF.out.mono ?_
        rintro e Z ⟨rfl, hz1, hz2⟩
        have HZ := Lib.hid (And.intro hz1 hz2)
        clear hz1 hz2
        go_wp2_with fail
        go_ret2
        exact ⟨HZ.out.1, (ChgT.of_nil H3.out.2.1).trans HZ.out.2, rfl⟩
  · have e1 : (err != 0) = true := by simpa using he
    have e3 : (err == 0) = false := by simpa using he
    rw [if_pos he]
    clear he
    go_enter Try.func57, Try.ntmps57
    go_wp2_with fail
    refine HI.out.mono ?_
    rintro e Y ⟨v, rfl, hr, hc⟩
    obtain ⟨Av, cv, rfl⟩ := hr.slice
    have HY := Lib.hid hc
    clear hc hr
    go_wp2_with (first
      | (refine wpList_alloc rfl 98 rfl _ zeroImg ?_
         refine wpList_world (fun Z => Z.heap[Y.heap.size]? = some (.cells #[.int .i64 0, .int .i64 0, .int .i64 0, .slice none 0 0] 98 (0, 0)) ∧ Chg [] Y Z) ⟨heap_new _ _ rfl, (by with_reducible repeat (first | exact Chg.refl _ _ | apply Chg.alloc | apply Chg.drew | apply Chg.drewN | (refine Chg.setCell ?_ _ _ (by simp))))⟩ ?_
         rintro Z ⟨hb, hZ⟩
         refine wpList_store_row rfl 98 (.tmp 4) (.tmp 12) rfl Y.heap.size (by kernel_rfl) #[.int .i64 gen, .int .i64 half, .int .i64 boot, .slice Av rs.length cv] (by kernel_rfl) _ _ hb infoImg rfl (img_one _ _ _ _ rfl) ?_
         refine wpList_world (fun U => Chg [] Y U) (hZ.andThen (setRow_chg _ _ _) (by simp)) ?_
         rintro U hU
         have HU := Lib.hid hU
         clear hb hZ hU
         ((try dsimp only); (try simp only [Act.put, List.setIfInBounds_toArray, List.set_cons_zero, List.set_cons_succ])))
      | (skip; fail))
    go_ret2
    exact ⟨HD.out.1.kept0 (HY.out.trans HU.out), ChgT.of_nil (HY.out.trans HU.out), rfl⟩
end Go.Proofs.Ytipijkpjmpejlaa
