import Derived.Test.YtipijkpjmpejlaaDisk9
/- The walk of the law DiskCuts: a cut of a cut is the lesser one, a cut of all is the disk, cutting changes nothing. -/
set_option linter.unusedVariables false
set_option linter.unusedSimpArgs false
namespace Go.Proofs.Ytipijkpjmpejlaa
open Go.RowKit
theorem cutN_take {α : Type} (L : List α) (n m : Int) : (L.take (cutN n L.length)).take (cutN m (L.take (cutN n L.length)).length) = L.take (cutN (min (max n 0) (max m 0)) L.length) := by
  rw [List.take_take, List.length_take]
  congr 1
  unfold cutN
  omega
theorem cutN_all {α : Type} (L : List α) : L.take (cutN (L.length : Int) L.length) = L := by
  rw [List.take_of_length_le]; unfold cutN; omega
/-- What a read of a disk tells: bytes and an error. -/
def readE (n : Int) : Int := if n < 0 ∨ 2049 ≤ n then 2 else 0
def readB (L : List (Int × List Int)) (n : Int) : List Int := if n < 0 ∨ 2049 ≤ n then [] else secOf L n
theorem read_up (p bm : Nat) (v : Value) (L : List (Int × List Int)) (armed : Bool) (left n : Int) (w : World) (hD : DiskA w p bm v L false armed left) :
    Calls Try.prog 30 #[.pointer (some ⟨p, 0, none⟩), .int .i64 n] w fun e w' => ∃ A c, e = .returned (.tuple #[.slice A (readB L n).length c, .int .i64 (readE n)]) ∧ (∀ W l, Chg l w' W → (∀ i, i ∈ l → i < w.heap.size) → (convert 49 9 (.slice A (readB L n).length c)).run Try.prog W = .ok (.string (strOfNums (readB L n))) W) ∧ Chg [] w w' := by
  by_cases h : n < 0 ∨ 2049 ≤ n
  · refine (read_arg p bm v L armed left n w hD h).mono ?_
    rintro e w' ⟨rfl, rfl⟩
    unfold readB readE
    rw [if_pos h, if_pos h]
    exact ⟨none, 0, rfl, fun W _ _ _ => run_convert_bytes_nil W 49 5 Try.underlying49 Try.underlying5 0 0 9 Try.underlying9, Chg.refl _ _⟩
  · refine (read_ok p bm v L armed left n w hD (by omega) (by omega)).mono ?_
    rintro e w' ⟨A, c, rfl, hO, hC⟩
    have hl := secOf_len L n hD.len
    unfold readB readE
    rw [if_neg h, if_neg h, hl]
    refine ⟨A, c, rfl, fun W l hW hl' => ?_, hC⟩
    obtain ⟨g, rfl, hg, _, _, r⟩ := own_row hO (by omega)
    have := conv_str W g c (secOf L n) (fun j u hu => hW.cell (r j u hu) (fun hm => by have := hl' g hm; omega))
    rwa [hl] at this
theorem wpList_max2 {P : Program} {ops : Array Oper} {rest : List Oper} {o : Oper} {a : Act} {w : World} {Q : Exit → Act → World → Prop} (hgd : o.guard = none) (x y : Operand) (t u : TypeId) (ho : o.op = .call { callee := .builtin .max, args := #[x, y], argTypes := #[t, u] }) (p q : Int) (hx : a.eval x = .int .i64 p) (hy : a.eval y = .int .i64 q)
    (k : ∀ r, Hid (r = max p q) → wpList P ops Q rest (a.put o.dst (.int .i64 r)) w) : wpList P ops Q (o :: rest) a w := by
  refine wpList_runv hgd (w' := w) ?_ (k _ rfl)
  have e : (if q > p then q else p) = max p q := by split <;> omega
  simp [execOp, ho, resolve, invoke, builtin, hx, hy, run_max_int2, Result.andThen]
  omega
theorem wpList_min2 {P : Program} {ops : Array Oper} {rest : List Oper} {o : Oper} {a : Act} {w : World} {Q : Exit → Act → World → Prop} (hgd : o.guard = none) (x y : Operand) (t u : TypeId) (ho : o.op = .call { callee := .builtin .min, args := #[x, y], argTypes := #[t, u] }) (p q : Int) (hx : a.eval x = .int .i64 p) (hy : a.eval y = .int .i64 q)
    (k : ∀ r, Hid (r = min p q) → wpList P ops Q rest (a.put o.dst (.int .i64 r)) w) : wpList P ops Q (o :: rest) a w := by
  refine wpList_runv hgd (w' := w) ?_ (k _ rfl)
  simp [execOp, ho, resolve, invoke, builtin, hx, hy, run_min_int2, Result.andThen]
  omega
set_option maxHeartbeats 8000000 in
set_option maxRecDepth 100000 in
theorem diskCuts_walk (A : Option Addr) (acts : List Act') (c : Nat) (n m sector : Int) (w : World) (hA : ActsAt w A acts) (hm : acts.length ≤ 9223372036854775807) :
    Calls Try.prog 4 #[.slice A acts.length c, .int .i64 n, .int .i64 m, .int .i64 sector] w fun e w' => e = .returned (.bool true) ∧ Chg [] w w' := by
  have HG := Lib.hid (great_any A acts c w hA hm)
  have HA := Lib.hid hA
  clear hA
  go_enter Try.func4, Try.ntmps4
  go_wp2_with fail
  refine HG.out.mono ?_
  rintro e W ⟨b, rfl, hb, rfl⟩
  cases b with
  | true =>
    clear hb
    go_wp2_with (go_at_call 27; refine (dwakes_any _).mono ?_; rintro e W ⟨rfl, hC⟩; have HC := Lib.hid hC; clear hC)
    go_ret
    exact ⟨rfl, HC.out⟩
  | false =>
    have h200 := hb rfl
    clear hb HG
    go_wp2_with (go_at_call 28; refine (new_any w).mono ?_; rintro e W1 ⟨rfl, hD1, hC1, hZ1⟩; have HM := Lib.hid (Mine.mk (w0 := w) hD1 ⟨by omega, by omega, fun k hk => by cases hk⟩ hC1); clear hD1 hC1 hZ1)
    go_loopw [33] (fun i wr => ∃ (k : Nat) (v : Value) (L : List (Int × List Int)), k ≤ acts.length ∧ i = .int .i64 k ∧ L.length ≤ k ∧ Hid (Mine w wr (w.heap.size + 1) w.heap.size v L (-(L.length : Int)))) (fun i _ => acts.length - (intOf i).toNat)
    case atStart => exact ⟨0, _, [], Nat.zero_le _, rfl, Nat.zero_le _, HM.out⟩
    case round =>
      obtain ⟨k, v, L, hk, rfl, hLk, HMr⟩ := hrel
      by_cases hlt : k < acts.length
      · obtain ⟨x, hx⟩ : ∃ x, acts[k]? = some x := ⟨acts[k], List.getElem?_eq_getElem hlt⟩
        obtain ⟨g, o, Ab, cb, rfl, hgw, hr, hB, hbl⟩ := HA.out k x hx
        have hr' := HMr.out.chg.range hr (by simp)
        have HR := Lib.hid hr'
        have HB := Lib.hid hB
        clear hr hr' hB hx
        by_cases hval : x.n < 0 ∨ 2049 ≤ x.n ∨ 64 < x.b.length
        · go_wp2_with (first
            | (refine wpList_load_mid rfl 51 (.tmp 35) rfl g (o + k * 3) rfl _ _ HR.out Try.underlying51 rfl (by kernel_rfl) ?_)
            | (go_at_call 29; refine (write_arg _ _ _ _ _ _ _ _ _ _ _ (HMr.out.disk.kept (l := []) (by with_reducible repeat (first | exact Chg.refl _ _ | apply Chg.alloc | apply Chg.drew | apply Chg.drewN | (refine Chg.setCell ?_ _ _ (by simp)))) (by simp) (by simp) (by simp)) hval).mono ?_; rintro e X ⟨rfl, rfl⟩))
          go_roundw
          case rel => exact ⟨k + 1, v, L, by omega, by go_num, by omega, HMr.out.kept (by with_reducible repeat (first | exact Chg.refl _ _ | apply Chg.alloc | apply Chg.drew | apply Chg.drewN | (refine Chg.setCell ?_ _ _ (by simp))))⟩
          case measure => simp [intOf]; omega
        · go_wp2_with (refine wpList_load_mid rfl 51 (.tmp 35) rfl g (o + k * 3) rfl _ _ HR.out Try.underlying51 rfl (by kernel_rfl) ?_)
          have hMa : Mine w (wr.alloc (.cells #[.int .i64 x.kind, .int .i64 x.n, .slice Ab x.b.length cb] 51)) _ _ _ _ _ := HMr.out.kept (by with_reducible repeat (first | exact Chg.refl _ _ | apply Chg.alloc | apply Chg.drew | apply Chg.drewN | (refine Chg.setCell ?_ _ _ (by simp))))
          refine (mine_write w _ _ _ _ _ x.n Ab x.b cb _ hMa (by omega) (by omega) (by omega) (by omega) (by omega) HB.out (by omega)).mono ?_
          rintro e X ⟨rfl, v', hMX, hCX⟩
          have hleft : (-(L.length : Int) - 1) = -(((L ++ [(x.n, padB x.b)]).length : Nat) : Int) := by simp; omega
          rw [hleft] at hMX
          have HX := Lib.hid hMX
          clear hMa hCX hleft hMX
          go_wp2_with fail
          go_roundw
          case rel => exact ⟨k + 1, v', _, by omega, by go_num, by simp; omega, HX.out⟩
          case measure => simp [intOf]; omega
      · have hLL : L.length < 1048576 := by omega
        go_wp2_with fail
        refine (read_up _ _ _ _ _ _ sector _ HMr.out.disk).mono ?_
        rintro e W1 ⟨A1, c1, rfl, hv1, hC1⟩
        have H1 := Lib.hid (And.intro hv1 (HMr.out.kept hC1))
        clear hv1 hC1
        go_wp2_with fail
        refine (cut_any _ _ _ _ _ _ _ n _ H1.out.2.disk hLL).mono ?_
        rintro e W2 ⟨rfl, ⟨v2, hD2, ho2⟩, hC2⟩
        have H2 := Lib.hid (And.intro hD2 (And.intro hC2 (H1.out.2.kept hC2)))
        have z2 : W1.heap.size ≤ W2.heap.size := hC2.size
        clear hD2 hC2 ho2
        go_wp2_with fail
        refine (cut_any _ _ _ _ _ _ _ m _ H2.out.1 (by simp; omega)).mono ?_
        rintro e W3 ⟨rfl, ⟨v3, hD3, ho3⟩, hC3⟩
        rw [cutN_take] at hD3
        have H3 := Lib.hid (And.intro hD3 (And.intro hC3 (H2.out.2.2.kept hC3)))
        clear hD3 hC3 ho3
        go_wp2_with (first
          | (refine wpList_max2 rfl (.tmp 56) (.const (.int .i64 0)) 3 3 rfl n 0 rfl rfl ?_; intro mx hmx)
          | (refine wpList_max2 rfl (.tmp 58) (.const (.int .i64 0)) 3 3 rfl m 0 rfl rfl ?_; intro my hmy)
          | (refine wpList_min2 rfl (.tmp 57) (.tmp 59) 3 3 rfl mx my rfl rfl ?_; intro mz hmz)
          | (go_at_call 31; refine (cut_any _ _ _ _ _ _ _ mz _ H3.out.2.2.disk hLL).mono ?_; rintro e W4 ⟨rfl, ⟨v4, hD4, ho4⟩, hC4⟩
             rw [show mz = min (max n 0) (max m 0) from by rw [hmz.out, hmx.out, hmy.out]] at hD4
             have H4 := Lib.hid (And.intro hD4 (And.intro (H3.out.1.kept hC4 (by simp) (by simp) (by simp)) (And.intro hC4 (H3.out.2.2.kept hC4))))
             clear hD4 hC4 ho4)
          | fail)
        refine (writes_any _ _ _ _ _ _ _ _ H4.out.2.2.2.disk).mono ?_
        rintro e W ⟨rfl, rfl⟩
        go_wp2_with fail
        refine (cut_any _ _ _ _ _ _ _ (L.length : Int) _ H4.out.2.2.2.disk hLL).mono ?_
        rintro e W5 ⟨rfl, ⟨v5, hD5, ho5⟩, hC5⟩
        rw [cutN_all] at hD5
        have H5 := Lib.hid (And.intro hD5 (And.intro (H4.out.1.kept hC5 (by simp) (by simp) (by simp)) (And.intro (H4.out.2.1.kept hC5 (by simp) (by simp) (by simp)) (And.intro hC5 (H4.out.2.2.2.kept hC5)))))
        clear hD5 hC5 ho5
        have hL4 : (L.take (cutN (min (max n 0) (max m 0)) L.length)).length < 1048576 := by simp; omega
        generalize L.take (cutN (min (max n 0) (max m 0)) L.length) = L4 at H3 H4 H5 hL4
        go_wp2_with fail
        refine (writes_any _ _ _ _ _ _ _ _ H5.out.2.2.1).mono ?_
        rintro e W ⟨rfl, rfl⟩
        go_wp2_with fail
        refine (writes_any _ _ _ _ _ _ _ _ H5.out.2.1).mono ?_
        rintro e W ⟨rfl, rfl⟩
        go_wp2_with fail
        refine (writes_any _ _ _ _ _ _ _ _ H5.out.1).mono ?_
        rintro e W ⟨rfl, rfl⟩
        go_wp2_with fail
        refine (writes_any _ _ _ _ _ _ _ _ H5.out.2.2.2.2.disk).mono ?_
        rintro e W ⟨rfl, rfl⟩
        go_wp2_with fail
        refine (read_up _ _ _ _ _ _ sector _ H5.out.2.2.1).mono ?_
        rintro e W6 ⟨A6, c6, rfl, hv6, hC6⟩
        have H6 := Lib.hid (And.intro hv6 hC6)
        clear hv6 hC6
        go_wp2_with fail
        refine (read_up _ _ _ _ _ _ sector _ (H5.out.2.1.kept H6.out.2 (by simp) (by simp) (by simp))).mono ?_
        rintro e W7 ⟨A7, c7, rfl, hv7, hC7⟩
        have H7 := Lib.hid (And.intro hv7 hC7)
        clear hv7 hC7
        go_wp2_with fail
        refine (read_up _ _ _ _ _ _ sector _ ((H5.out.1.kept H6.out.2 (by simp) (by simp) (by simp)).kept H7.out.2 (by simp) (by simp) (by simp))).mono ?_
        rintro e W8 ⟨A8, c8, rfl, hv8, hC8⟩
        have H8 := Lib.hid (And.intro hv8 hC8)
        clear hv8 hC8
        go_wp2_with fail
        refine (read_up _ _ _ _ _ _ sector _ (((H5.out.2.2.2.2.kept H6.out.2).kept H7.out.2).kept H8.out.2).disk).mono ?_
        rintro e W9 ⟨A9, c9, rfl, hv9, hC9⟩
        have hf : Chg [] W1 W9 := (((((((H2.out.2.1.trans H3.out.2.1).trans H4.out.2.2.1).trans H5.out.2.2.2.1).trans H6.out.2).trans H7.out.2).trans H8.out.2)).trans hC9
        have q1 := H1.out.1 W9 [] hf (by simp)
        have q6 := H6.out.1 W9 [] ((H7.out.2.trans H8.out.2).trans hC9) (by simp)
        have q7 := H7.out.1 W9 [] (H8.out.2.trans hC9) (by simp)
        have q8 := H8.out.1 W9 [] hC9 (by simp)
        have q9 := hv9 W9 [] (Chg.refl _ _) (by simp)
        have HF := Lib.hid (H1.out.2.chg.trans hf)
        clear hv9 hC9 hf H1 H2 H3 H4 H5 H6 H7 H8
        generalize strOfNums (readB L sector) = s1 at q1 q8 q9
        generalize strOfNums (readB L4 sector) = s2 at q6 q7
        generalize readE sector = re
        generalize (readB L sector).length = n1 at q1 q8 q9 ⊢
        generalize (readB L4 sector).length = n2 at q6 q7 ⊢
        go_wp2_with fail
        refine (dwakes_any _).mono ?_
        rintro e W10 ⟨rfl, hC10⟩
        go_wp2
        go_ret
        exact ⟨rfl, HF.out.trans hC10⟩
end Go.Proofs.Ytipijkpjmpejlaa
