/- The walk of the law LinkDoor: it returns true, whatever messages came in, and changes nothing that was there. -/
import Derived.Test.YtipijkpjmpejlaaLink2
import Derived.Test.YtipijkpjmpejlaaLink3
namespace Go.Proofs.Ytipijkpjmpejlaa
open Go.RowKit
theorem fieldM4 (x0 x1 x2 x3 x4 x5 x6 x7 x8 x9 x10 x11 x12 x13 x14 x15 : Value) (w : World) : (Instr.field 39 (.agg #[x0, x1, x2, x3, x4, x5, x6, x7, x8, x9, x10, x11, x12, x13, x14, x15]) 4).run Try.prog w = .ok x4 w := by kernel_rfl
set_option maxHeartbeats 1000000 in
set_option maxRecDepth 100000 in
theorem wakes_any (w : World) : Calls Try.prog 15 #[] w fun e w' => e = .returned (.bool true) ∧ Chg [] w w' := by
  have hf4 := fieldM4
  go_enter Try.func15, Try.ntmps15
  go_wp2_with (go_at_call 16; refine (newDoor_yes 5 _ (by omega) (by omega)).mono ?_; rintro e W1 ⟨rfl, hD1, hC1, hZ1⟩)
  go_wp2_with fail
  refine (take_new (w.heap.size + 1) w.heap.size 5 _ _ _ _ _ _ _ _ _ _ _ _ _ _ _ _ _ _ hD1 (by omega) (by omega) (by omega) (by omega)).mono ?_
  rintro e W2 ⟨rfl, hD2, hC2⟩
  go_wp2_with fail
  refine (take_new (w.heap.size + 1) w.heap.size 5 _ _ _ _ _ _ _ _ _ _ _ _ _ _ _ _ _ _ hD2 (by omega) (by omega) (by omega) (by simp)).mono ?_
  rintro e W3 ⟨rfl, hD3, hC3⟩
  go_wp2_with fail
  refine (take_new (w.heap.size + 1) w.heap.size 5 _ _ _ _ _ _ _ _ _ _ _ _ _ _ _ _ _ _ hD3 (by omega) (by omega) (by omega) (by simp)).mono ?_
  rintro e W4 ⟨rfl, hD4, hC4⟩
  go_wp2_with fail
  refine (take_old (w.heap.size + 1) w.heap.size 5 _ _ _ _ _ _ _ _ _ _ _ _ _ _ _ _ _ _ hD4 (by omega) (by omega) (by omega) (by simp)).mono ?_
  rintro e W5 ⟨rfl, hC5⟩
  have hD5 := hD4.kept hC5 (by simp) (by simp)
  go_wp2_with fail
  refine (hello_any (w.heap.size + 1) w.heap.size 5 _ _ _ hD5).mono ?_
  rintro e W6 ⟨rfl, hC6⟩
  go_wp2
  go_ret
  refine ⟨rfl, ?_⟩
  have h2 : Chg [] w W2 := hC1.andThen hC2 (by simp)
  have h3 : Chg [] w W3 := h2.andThen hC3 (by simp)
  have h4 : Chg [] w W4 := h3.andThen hC4 (by simp)
  exact (h4.trans hC5).trans hC6

/-! ### What becomes of a message, both doors alike -/
def takeF (boot : Int) (c : Int → Int) (fr b s : Int) : Bool × Bool × (Int → Int) :=
  if fr < 1 ∨ 8 < fr ∨ b < 1 ∨ b < c fr then (false, false, c) else (s == boot, s != boot, fun n => if n = fr then b else c n)
def Zero (c : Int → Int) : Prop := ∀ n, n < 1 ∨ 8 < n → c n = 0
theorem takeF_zero {boot : Int} {c : Int → Int} {fr b s : Int} {r1 r2 : Bool} {c' : Int → Int} (h : takeF boot c fr b s = (r1, r2, c')) (hz : Zero c) : Zero c' := by
  unfold takeF at h
  split at h
  · injection h with _ h; injection h with _ h; subst h; exact hz
  · rename_i hn
    injection h with _ h; injection h with _ h; subst h
    intro n hn'
    show (if n = fr then b else c n) = 0
    rw [if_neg (by omega)]; exact hz n hn'
theorem take_any (d bm : Nat) (boot : Int) (c : Int → Int) (k fr t b s nu no le ep ve ee i1 k1 : Int) (S T X : Value) (r1 r2 : Bool) (c' : Int → Int) (w : World) (hD : DoorA w d bm boot c) (hF : takeF boot c fr b s = (r1, r2, c')) :
    Calls Try.prog 18 #[.pointer (some ⟨d, 0, none⟩), .agg #[.int .i8 k, .int .i64 fr, .int .i64 t, .int .i64 b, .int .i64 s, .int .i64 nu, .int .i64 no, .int .i64 le, .int .i64 ep, .int .i64 ve, .int .i64 ee, S, .int .i64 i1, .int .i64 k1, T, X]] w fun e w' => e = .returned (.tuple #[.bool r1, .bool r2]) ∧ DoorA w' d bm boot c' ∧ Chg [bm] w w' := by
  unfold takeF at hF
  split at hF
  · rename_i hc
    injection hF with h1 h; injection h with h2 h3; subst h1 h2 h3
    by_cases ho : fr < 1 ∨ 8 < fr ∨ b < 1
    · refine (take_out d bm boot c _ _ _ _ _ _ _ _ _ _ _ _ _ _ _ _ w hD ho).mono ?_
      rintro e w' ⟨rfl, hC⟩
      exact ⟨rfl, hD.kept hC (by simp) (by simp), hC.mono (by simp)⟩
    · refine (take_old d bm boot c _ _ _ _ _ _ _ _ _ _ _ _ _ _ _ _ w hD (by omega) (by omega) (by omega) (by omega)).mono ?_
      rintro e w' ⟨rfl, hC⟩
      exact ⟨rfl, hD.kept hC (by simp) (by simp), hC.mono (by simp)⟩
  · rename_i hc
    injection hF with h1 h; injection h with h2 h3; subst h1 h2 h3
    exact take_new d bm boot c _ _ _ _ _ _ _ _ _ _ _ _ _ _ _ _ w hD (by omega) (by omega) (by omega) (by omega)
theorem rtake_any (r : Nat) (boot : Int) (c : Int → Int) (k fr t b s nu no le ep ve ee i1 k1 : Int) (S T X : Value) (r1 r2 : Bool) (c' : Int → Int) (w : World) (hD : RDoor w r boot c) (hF : takeF boot c fr b s = (r1, r2, c')) :
    Calls Try.prog 23 #[.pointer (some ⟨r, 0, none⟩), .agg #[.int .i8 k, .int .i64 fr, .int .i64 t, .int .i64 b, .int .i64 s, .int .i64 nu, .int .i64 no, .int .i64 le, .int .i64 ep, .int .i64 ve, .int .i64 ee, S, .int .i64 i1, .int .i64 k1, T, X]] w fun e w' => e = .returned (.tuple #[.bool r1, .bool r2]) ∧ RDoor w' r boot c' ∧ Chg [r] w w' := by
  unfold takeF at hF
  split at hF
  · rename_i hc
    injection hF with h1 h; injection h with h2 h3; subst h1 h2 h3
    by_cases ho : fr < 1 ∨ 8 < fr ∨ b < 1
    · refine (rtake_out r boot c _ _ _ _ _ _ _ _ _ _ _ _ _ _ _ _ w hD ho).mono ?_
      rintro e w' ⟨rfl, hC⟩
      exact ⟨rfl, hD.kept hC (by simp), hC.mono (by simp)⟩
    · refine (rtake_old r boot c _ _ _ _ _ _ _ _ _ _ _ _ _ _ _ _ w hD (by omega) (by omega) (by omega) (by omega)).mono ?_
      rintro e w' ⟨rfl, hC⟩
      exact ⟨rfl, hD.kept hC (by simp), hC.mono (by simp)⟩
  · rename_i hc
    injection hF with h1 h; injection h with h2 h3; subst h1 h2 h3
    exact rtake_new r boot c _ _ _ _ _ _ _ _ _ _ _ _ _ _ _ _ w hD (by omega) (by omega) (by omega) (by omega)

/-! ### The law -/
/-- The messages that came in, by their cells. -/
def MsgsAt (w : World) (A : Option Addr) (n : Nat) : Prop :=
  ∀ i, i < n → ∃ B o, A = some ⟨B, o, none⟩ ∧ ∃ (k fr t b s nu no le ep ve ee i1 k1 : Int) (S T X : Value), w.rangeAt B (o + i * 16) [.int .i8 k, .int .i64 fr, .int .i64 t, .int .i64 b, .int .i64 s, .int .i64 nu, .int .i64 no, .int .i64 le, .int .i64 ep, .int .i64 ve, .int .i64 ee, S, .int .i64 i1, .int .i64 k1, T, X]
theorem law_no (boot client : Int) (A : Option Addr) (n c : Nat) (w : World) (h : boot < 1 ∨ 1125899906842624 < boot) (hn : n ≤ 100) :
    Calls Try.prog 3 #[.int .i64 boot, .slice A n c, .int .i64 client] w fun e w' => e = .returned (.bool true) ∧ Chg [] w w' := by
  go_enter Try.func3, Try.ntmps3
  go_wp2_with (first
    | (go_at_call 16; refine (newDoor_no _ _ h).mono ?_; rintro e w' ⟨rfl, rfl⟩)
    | (go_at_call 17; refine (rnewDoor_no _ _ h).mono ?_; rintro e w' ⟨rfl, rfl⟩))
  refine (take_nil _ _ _ _ _ _ _ _ _ _ _ _ _ _ _ _ _).mono ?_
  rintro e W2 ⟨rfl, hC2⟩
  go_wp2_with fail
  refine (hello_nil _ _).mono ?_
  rintro e W3 ⟨rfl, hC3⟩
  go_wp2_with fail
  refine (head_same _ _ _ _ _ _ _ _ _ _ _ _ _ _ _ _ _ _ _ _ _ _).mono ?_
  rintro e W4 ⟨rfl, hC4⟩
  go_wp2_with fail
  refine (boot_nil _ _).mono ?_
  rintro e W5 ⟨rfl, rfl⟩
  go_wp2_with fail
  refine (wakes_any _).mono ?_
  rintro e W6 ⟨rfl, hC6⟩
  go_wp2
  go_ret
  exact ⟨rfl, ((hC2.trans hC3).trans hC4).trans hC6⟩
theorem law_great (boot client : Int) (A : Option Addr) (n c : Nat) (w : World) (hn : 100 < n) (hm : n ≤ 9223372036854775807) :
    Calls Try.prog 3 #[.int .i64 boot, .slice A n c, .int .i64 client] w fun e w' => e = .returned (.bool true) ∧ Chg [] w w' := by
  go_enter Try.func3, Try.ntmps3
  go_wp2_with fail
  refine (wakes_any _).mono ?_
  rintro e W6 ⟨rfl, hC6⟩
  go_wp2
  go_ret
  exact ⟨rfl, hC6⟩
set_option maxHeartbeats 4000000 in
set_option maxRecDepth 100000 in
theorem law_yes (boot client : Int) (A : Option Addr) (n c : Nat) (w : World) (hM : MsgsAt w A n) (hb1 : 1 ≤ boot) (hb2 : boot ≤ 1125899906842624) (hn : n ≤ 100) :
    Calls Try.prog 3 #[.int .i64 boot, .slice A n c, .int .i64 client] w fun e w' => e = .returned (.bool true) ∧ Chg [] w w' := by
  have HM := Lib.hid hM
  clear hM
  go_enter Try.func3, Try.ntmps3
  go_wp2_with fail
  refine (newDoor_yes _ _ hb1 hb2).mono ?_
  rintro e W1 ⟨rfl, hD1, hC1, hZ1⟩
  go_wp2_with fail
  refine (rnewDoor_yes _ _ hb1 hb2).mono ?_
  rintro e W2 ⟨rfl, hR2, hC2, hZ2⟩
  have hD2 := hD1.kept hC2 (by simp) (by simp)
  rw [hZ1] at hR2
  have hC := hC1.trans hC2
  clear hD1 hC1 hC2
  have HD := Lib.hid hD2
  have HR := Lib.hid hR2
  have HC := Lib.hid hC
  have HZ := Lib.hid hZ2
  rw [hZ1] at HZ
  have HZ1 := Lib.hid hZ1
  clear hD2 hR2 hC hZ2 hZ1
  simp only [HZ1.out]
  go_wp2_with fail
  go_loopw [74] (fun i wr => ∃ (k : Nat) (c : Int → Int), k ≤ n ∧ i = .int .i64 k ∧ Hid (Zero c) ∧ Hid (DoorA wr (w.heap.size + 1) w.heap.size boot c) ∧ Hid (RDoor wr (w.heap.size + 2) boot c) ∧ Hid (Chg [] w wr)) (fun i _ => n - (intOf i).toNat)
  case atStart => exact ⟨0, fun _ => 0, Nat.zero_le _, rfl, fun _ _ => rfl, HD, HR, HC⟩
  case round =>
    obtain ⟨k, cc, hk, rfl, HZc, HD, HR, HC⟩ := hrel
    by_cases hlt : k < n
    · obtain ⟨B, o, rfl, mk, fr, t, b, ms, nu, no, le, ep, ve, ee, i1, k1, S, T, X, hrange0⟩ := HM.out k hlt
      have HG := Lib.hid (HC.out.range hrange0 (by simp))
      have hrange0 := Lib.hid hrange0
      obtain ⟨r1, r2, c', hF⟩ : ∃ r1 r2 c', takeF boot cc fr b ms = (r1, r2, c') := ⟨_, _, _, rfl⟩
      have HF := Lib.hid hF
      clear hF
      go_wp2_with (refine wpList_load_mid rfl 39 (.tmp 81) rfl B (o + k * 16) rfl _ _ HG.out Try.underlying39 rfl szM ?_)
      refine (bare_any _ _ _ _ _ _ _ _ _ _ _ _ _ _ _ _ _).mono ?_
      rintro e W1 ⟨rfl, hc1⟩
      go_wp2_with fail
      refine (take_any _ _ _ _ _ _ _ _ _ _ _ _ _ _ _ _ _ _ _ _ r1 r2 c' _ (HD.out.kept hc1 (by simp) (by simp)) HF.out).mono ?_
      rintro e W2 ⟨rfl, hD2, hc2⟩
      have HD2 := Lib.hid hD2
      have HR2 := Lib.hid ((HR.out.kept hc1 (by simp)).kept hc2 (by simp))
      have HC2 := Lib.hid ((HC.out.trans hc1).andThen hc2 (by simp))
      clear hD2 hc1 hc2
      have HG2 := Lib.hid (HC2.out.range hrange0.out (by simp))
      go_wp2_with (refine wpList_load_mid rfl 39 (.tmp 91) rfl B (o + k * 16) rfl _ _ HG2.out Try.underlying39 rfl szM ?_)
      refine (bare_any _ _ _ _ _ _ _ _ _ _ _ _ _ _ _ _ _).mono ?_
      rintro e W3 ⟨rfl, hc3⟩
      go_wp2_with fail
      refine (rtake_any _ _ _ _ _ _ _ _ _ _ _ _ _ _ _ _ _ _ _ r1 r2 c' _ (HR2.out.kept hc3 (by simp)) HF.out).mono ?_
      rintro e W4 ⟨rfl, hR4, hc4⟩
      have HR4 := Lib.hid hR4
      have HD4 := Lib.hid ((HD2.out.kept hc3 (by simp) (by simp)).kept hc4 (by simp) (by simp))
      have HC4 := Lib.hid ((HC2.out.trans hc3).andThen hc4 (by simp))
      clear hR4 hc3 hc4
      have HZ4 := Lib.hid (takeF_zero HF.out HZc.out)
      go_wp2_with fail
      refine (boot_any _ _ _ _ _ _ HD4.out).mono ?_
      rintro e W5 ⟨rfl, rfl⟩
      go_wp2_with fail
      refine (rof_any _ _ _ _ _ HR4.out HZ4.out).mono ?_
      rintro e W5 ⟨rfl, rfl⟩
      go_wp2_with fail
      refine (hello_any _ _ _ _ _ _ HD4.out).mono ?_
      rintro e W5 ⟨rfl, hc5⟩
      go_wp2_with fail
      refine (rhello_any _ _ _ _ _ (HR4.out.kept hc5 (by simp))).mono ?_
      rintro e W6 ⟨rfl, hc6⟩
      go_wp2_with fail
      refine (head_same _ _ _ _ _ _ _ _ _ _ _ _ _ _ _ _ _ _ _ _ _ _).mono ?_
      rintro e W7 ⟨rfl, hc7⟩
      have hc := (hc5.trans hc6).trans hc7
      have HD7 := Lib.hid (HD4.out.kept hc (by simp) (by simp))
      have HR7 := Lib.hid (HR4.out.kept hc (by simp))
      have HC7 := Lib.hid (HC4.out.trans hc)
      clear hc5 hc6 hc7 hc
      go_wp2_with fail
      go_roundw
      case rel => exact ⟨k + 1, c', by omega, by go_num, HZ4, HD7, HR7, HC7⟩
      case measure => simp [intOf]; omega
    · go_wp2_with fail
      refine (wakes_any _).mono ?_
      rintro e W1 ⟨rfl, hc1⟩
      go_wp2
      go_ret
      exact ⟨rfl, HC.out.trans hc1⟩
theorem law_any (boot client : Int) (A : Option Addr) (n c : Nat) (w : World) (hM : MsgsAt w A n) (hm : n ≤ 9223372036854775807) :
    Calls Try.prog 3 #[.int .i64 boot, .slice A n c, .int .i64 client] w fun e w' => e = .returned (.bool true) ∧ Chg [] w w' := by
  by_cases hn : 100 < n
  · exact law_great boot client A n c w hn hm
  · by_cases hb : boot < 1 ∨ 1125899906842624 < boot
    · exact law_no boot client A n c w hb (by omega)
    · exact law_yes boot client A n c w hM (by omega) (by omega) (by omega)
end Go.Proofs.Ytipijkpjmpejlaa
