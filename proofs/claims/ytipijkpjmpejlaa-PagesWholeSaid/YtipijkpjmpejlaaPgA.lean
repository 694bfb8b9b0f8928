import Derived.Test.YtipijkpjmpejlaaDisk10
import Derived.Laws.AppendOwnNone
/- The contracts of code.own, code.number, code.Number. No condition but lengths. -/
set_option linter.unusedVariables false
set_option linter.unusedSimpArgs false
namespace Go.Proofs.Ytipijkpjmpejlaa
open Go.RowKit
/-- Bytes that are the call's own. -/
def RowB (w : World) (base : Nat) (v : Value) (bs : List Int) : Prop := w.ownsRow base 5 1 v bs.length (u8s bs)
theorem RowB.slice {w : World} {base : Nat} {v : Value} {bs : List Int} (h : RowB w base v bs) : ∃ A c, v = .slice A bs.length c := own_slice h
theorem RowB.kept {w w' : World} {base : Nat} {v : Value} {bs : List Int} {l : List Nat} (h : RowB w base v bs) (hc : Chg l w w') (hl : ∀ b, v.ownBlock = some b → b ∉ l) : RowB w' base v bs := own_kept h hc hl
theorem RowB.nil (w : World) (base : Nat) : RowB w base (.slice none 0 0) [] := World.ownsRow_nil _ _ _ _
theorem RowB.own {w : World} {base : Nat} {v : Value} {bs : List Int} (h : RowB w base v bs) : ∀ b, v.ownBlock = some b → base ≤ b ∧ b < w.heap.size := World.ownsRow.lt h
theorem RowB.at {w : World} {base n : Nat} {v : Value} {bs : List Int} (h : RowB w base v bs) (hn : bs.length = n) : w.ownsRow base 5 1 v n (u8s bs) := by subst hn; exact h
theorem RowB.mk {w : World} {base n : Nat} {v : Value} {bs : List Int} {ys : List Value} (h : w.ownsRow base 5 1 v n ys) (hn : bs.length = n) (hy : ys = u8s bs) : RowB w base v bs := by subst hn hy; exact h
theorem u8s_len (bs : List Int) : (u8s bs).length = bs.length := by simp [u8s]
theorem u8s_app (a b : List Int) : u8s (a ++ b) = u8s a ++ u8s b := by simp [u8s]
/-- Bytes that can be read: none, or anywhere. -/
theorem RowB.bytes {w : World} {base : Nat} {A : Option Addr} {n c : Nat} {bs : List Int} (h : RowB w base (.slice A n c) bs) : BytesAt w A bs := fun hp => by
  rcases h.2 with ⟨he, hz⟩ | ⟨g, c', cur, he, hb, hg, h1, h2, h3, h4⟩
  · omega
  · cases he
    refine ⟨⟨g, 0, none⟩, rfl, ?_, fun j v hv => ?_⟩
    · exact (Array.getElem?_eq_some_iff.1 hg).1
    · exact World.ownsRow.cells (g := g) h rfl j v hv
/-- A row that was made longer. -/
def Ext (base : Nat) (v : Value) (w : World) (v' : Value) (bs : List Int) (w' : World) : Prop := RowB w' base v' bs ∧ Chg v.ownBlock.toList w w' ∧ (v'.ownBlock = v.ownBlock ∨ ∃ b, v'.ownBlock = some b ∧ w.heap.size ≤ b)
theorem Ext.refl {base : Nat} {v : Value} {w : World} {bs : List Int} (h : RowB w base v bs) : Ext base v w v bs w := ⟨h, Chg.refl _ _, .inl rfl⟩
theorem Ext.trans {base : Nat} {v v' v'' : Value} {w w' w'' : World} {bs bs' : List Int} (h : Ext base v w v' bs w') (k : Ext base v' w' v'' bs' w'') : Ext base v w v'' bs' w'' := by
  refine ⟨k.1, h.2.1.andThen k.2.1 (fun i hi => ?_), ?_⟩
  · simp only [Option.mem_toList] at hi ⊢
    rcases h.2.2 with e | ⟨b, e, hb⟩
    · rw [e] at hi; exact .inl hi
    · rw [e] at hi; cases hi; exact .inr hb
  · rcases k.2.2 with e | ⟨b, e, hb⟩
    · rcases h.2.2 with e2 | ⟨b, e2, hb⟩
      · exact .inl (e.trans e2)
      · exact .inr ⟨b, e.trans e2, hb⟩
    · exact .inr ⟨b, e, Nat.le_trans h.2.1.size hb⟩
theorem Ext.new {base : Nat} {v v' : Value} {w w' : World} {bs : List Int} (h : Ext base v w v' bs w') (hv : ∀ b, v.ownBlock = some b → base ≤ b) (hw : base ≤ w.heap.size) : ∀ b, v'.ownBlock = some b → base ≤ b := fun b hb => (h.1.own b hb).1
/-- Bytes put behind a row, behind a change that leaves the row. -/
theorem Ext.push {base n : Nat} {v v' : Value} {w wa w' : World} {ys : List Value} {bs' : List Int} (hc : Chg [] w wa) (hown : w'.ownsRow base 5 1 v' n ys) (hn : bs'.length = n) (hy : ys = u8s bs') (hgr : wa.grownBy w' v.ownBlock)
    (hat : v'.ownBlock = v.ownBlock ∨ v'.ownBlock = some wa.heap.size) : Ext base v w v' bs' w' := by
  refine ⟨RowB.mk hown hn hy, ?_, ?_⟩
  · exact Chg.grown (hc.mono (by simp)) hgr (fun k hk => .inl (by rw [hk]; simp))
  · rcases hat with e | e
    · exact .inl e
    · exact .inr ⟨_, e, hc.size⟩
set_option maxHeartbeats 4000000 in
theorem own_any (A : Option Addr) (bs : List Int) (c : Nat) (w : World) (hB : BytesAt w A bs) (hc : A = none → bs = [] ∧ c = 0) (hl : bs.length ≤ 1073741824) :
    Calls Try.prog 126 #[.slice A bs.length c] w fun e w' => ∃ v', e = .returned v' ∧ RowB w' w.heap.size v' bs ∧ Chg [] w w' := by
  obtain ⟨ip, hi, hz0, hz1, hz2⟩ := info_parts infoU8
  have HI := Lib.hid (And.intro hi (And.intro hz0 (And.intro hz1 hz2)))
  clear hi hz0 hz1 hz2
  cases A with
  | none =>
    obtain ⟨rfl, rfl⟩ := hc rfl
    go_enter Try.func126, Try.ntmps126
    go_wp2_with (first
      | (refine wpList_append_own_none rfl (.const (.slice none 0 0)) (.tmp 3) 49 rfl 0 5 ip 1 Try.underlying49 HI.out.1 (.slice none 0 0) 0 [] rfl (World.ownsRow_nil _ _ _ _) rfl ?_)
      | fail)
    go_ret
    exact ⟨_, rfl, RowB.nil _ _, Chg.refl _ _⟩
  | some ad =>
    have HB := Lib.hid hB
    clear hB hc
    have hat : ∀ j u, (u8s bs)[j]? = some u → w.cell? (ad.add j) = some u := by
      rcases Nat.eq_zero_or_pos bs.length with h0 | h0
      · obtain rfl := List.length_eq_zero_iff.1 h0
        intro j u hu; simp [u8s] at hu
      · obtain ⟨ad', e, _, h⟩ := HB.out h0
        cases e; exact h
    have HA := Lib.hid hat
    clear hat HB
    go_enter Try.func126, Try.ntmps126
    go_wp2_with (first
      | (refine wpList_append_own_at _ rfl (.const (.slice none 0 0)) (.tmp 3) 49 rfl w.heap.size 5 ip _ 1 1 Try.underlying49 HI.out.1 HI.out.2.1 HI.out.2.2.1 HI.out.2.2.2 rfl (by omega) (.slice none 0 0) 0 [] rfl (World.ownsRow_nil _ _ _ _) ad bs.length c (u8s bs) rfl (by simp [u8s]) HA.out (u8s_one bs) (by unfold maxLen; omega) (by omega) (Nat.le_refl _) ?_; intro v' X hown hg _ hat; have HX := Lib.hid (Ext.push (bs' := bs) (Chg.refl [] w) hown (by simp) (by simp) hg hat); clear hown hg hat)
      | fail)
    go_ret
    exact ⟨_, rfl, HX.out.1, by simpa [Value.ownBlock] using HX.out.2.1⟩
/-- The eight bytes of a number, the highest first. -/
def be8 (n : Int) : List Int :=
  let u := IntKind.u64.wrap n
  [u / 72057594037927936 % 256, u / 281474976710656 % 256, u / 1099511627776 % 256, u / 4294967296 % 256, u / 16777216 % 256, u / 65536 % 256, u / 256 % 256, u % 256]
set_option maxHeartbeats 8000000 in
set_option maxRecDepth 100000 in
theorem number_any (n : Int) (base : Nat) (v : Value) (bs : List Int) (w : World) (hR : RowB w base v bs) (hb : base ≤ w.heap.size) (hl : bs.length ≤ 1000000) :
    Calls Try.prog 129 #[v, .int .i64 n] w fun e w' => ∃ v', e = .returned v' ∧ Ext base v w v' (bs ++ be8 n) w' := by
  obtain ⟨ip, hi, hz0, hz1, hz2⟩ := info_parts infoU8
  have HI := Lib.hid (And.intro hi (And.intro hz0 (And.intro hz1 hz2)))
  have HR := Lib.hid (And.intro hR (And.intro hb hl))
  clear hi hz0 hz1 hz2 hR hb hl
  go_enter Try.func129, Try.ntmps129
  go_wp2_with fail
  go_loopw [0, 6] (fun u iv wr => ∃ j : Nat, j ≤ 8 ∧ iv = .int .i64 j ∧ Hid (Ext base v w u (bs ++ (be8 n).take j) wr)) (fun _ iv _ => 8 - (intOf iv).toNat)
  case atStart => exact ⟨0, Nat.zero_le _, rfl, Lib.hid (by simpa using Ext.refl HR.out.1)⟩
  case round =>
    obtain ⟨j, hj, rfl, HJ⟩ := hrel
    generalize wr = wo at *
    by_cases hlt : j < 8
    · have hlj : (bs ++ (be8 n).take j).length = bs.length + j := by simp [be8]; omega
      have hro : ∀ o, (wo.alloc o).ownsRow base 5 1 u0 (bs.length + j) (u8s (bs ++ (be8 n).take j)) := fun o => (HJ.out.1.kept (Chg.alloc (Chg.refl [] wo) o) (by simp)).at hlj
      have HL := Lib.hid (And.intro hro (Nat.le_trans HR.out.2.1 HJ.out.2.1.size))
      clear hro
      clear hlj
      have : j = 0 ∨ j = 1 ∨ j = 2 ∨ j = 3 ∨ j = 4 ∨ j = 5 ∨ j = 6 ∨ j = 7 := by omega
      rcases this with rfl | rfl | rfl | rfl | rfl | rfl | rfl | rfl
      · go_wp2_with (first
          | (refine wpList_append_own_at _ rfl (.tmp 9) (.tmp 17) 49 rfl base 5 ip _ 1 1 Try.underlying49 HI.out.1 HI.out.2.1 HI.out.2.2.1 HI.out.2.2.2 rfl (by omega) u0 (bs.length + 0) _ rfl (HL.out.1 _) ⟨wo.heap.size, 0, none⟩ 1 1 [.int .u8 (IntKind.u64.wrap n / 72057594037927936 % 256)] (by rfl) rfl (cell_one_new _ _ _) (by simp [Value.oneCell']) (by have := HR.out.2.2; unfold maxLen; omega) (by have := HR.out.2.2; omega) (by have := HL.out.2; simp; omega) ?_
             intro v' W3 hown hgr _ hat
             have H3 := Lib.hid (HJ.out.trans (Ext.push (bs' := bs ++ (be8 n).take 1) (Chg.alloc (Chg.refl [] wo) _) hown (by simp [be8]) (by simp [be8, u8s]) hgr hat))
             clear hown hgr hat)
          | fail)
        go_roundw
        case rel => exact ⟨1, by omega, by go_num, H3⟩
        case measure => simp [intOf]
      · go_wp2_with (first
          | (refine wpList_append_own_at _ rfl (.tmp 9) (.tmp 17) 49 rfl base 5 ip _ 1 1 Try.underlying49 HI.out.1 HI.out.2.1 HI.out.2.2.1 HI.out.2.2.2 rfl (by omega) u0 (bs.length + 1) _ rfl (HL.out.1 _) ⟨wo.heap.size, 0, none⟩ 1 1 [.int .u8 (IntKind.u64.wrap n / 281474976710656 % 256)] (by rfl) rfl (cell_one_new _ _ _) (by simp [Value.oneCell']) (by have := HR.out.2.2; unfold maxLen; omega) (by have := HR.out.2.2; omega) (by have := HL.out.2; simp; omega) ?_
             intro v' W3 hown hgr _ hat
             have H3 := Lib.hid (HJ.out.trans (Ext.push (bs' := bs ++ (be8 n).take 2) (Chg.alloc (Chg.refl [] wo) _) hown (by simp [be8]) (by simp [be8, u8s]) hgr hat))
             clear hown hgr hat)
          | fail)
        go_roundw
        case rel => exact ⟨2, by omega, by go_num, H3⟩
        case measure => simp [intOf]
      · go_wp2_with (first
          | (refine wpList_append_own_at _ rfl (.tmp 9) (.tmp 17) 49 rfl base 5 ip _ 1 1 Try.underlying49 HI.out.1 HI.out.2.1 HI.out.2.2.1 HI.out.2.2.2 rfl (by omega) u0 (bs.length + 2) _ rfl (HL.out.1 _) ⟨wo.heap.size, 0, none⟩ 1 1 [.int .u8 (IntKind.u64.wrap n / 1099511627776 % 256)] (by rfl) rfl (cell_one_new _ _ _) (by simp [Value.oneCell']) (by have := HR.out.2.2; unfold maxLen; omega) (by have := HR.out.2.2; omega) (by have := HL.out.2; simp; omega) ?_
             intro v' W3 hown hgr _ hat
             have H3 := Lib.hid (HJ.out.trans (Ext.push (bs' := bs ++ (be8 n).take 3) (Chg.alloc (Chg.refl [] wo) _) hown (by simp [be8]) (by simp [be8, u8s]) hgr hat))
             clear hown hgr hat)
          | fail)
        go_roundw
        case rel => exact ⟨3, by omega, by go_num, H3⟩
        case measure => simp [intOf]
      · go_wp2_with (first
          | (refine wpList_append_own_at _ rfl (.tmp 9) (.tmp 17) 49 rfl base 5 ip _ 1 1 Try.underlying49 HI.out.1 HI.out.2.1 HI.out.2.2.1 HI.out.2.2.2 rfl (by omega) u0 (bs.length + 3) _ rfl (HL.out.1 _) ⟨wo.heap.size, 0, none⟩ 1 1 [.int .u8 (IntKind.u64.wrap n / 4294967296 % 256)] (by rfl) rfl (cell_one_new _ _ _) (by simp [Value.oneCell']) (by have := HR.out.2.2; unfold maxLen; omega) (by have := HR.out.2.2; omega) (by have := HL.out.2; simp; omega) ?_
             intro v' W3 hown hgr _ hat
             have H3 := Lib.hid (HJ.out.trans (Ext.push (bs' := bs ++ (be8 n).take 4) (Chg.alloc (Chg.refl [] wo) _) hown (by simp [be8]) (by simp [be8, u8s]) hgr hat))
             clear hown hgr hat)
          | fail)
        go_roundw
        case rel => exact ⟨4, by omega, by go_num, H3⟩
        case measure => simp [intOf]
      · go_wp2_with (first
          | (refine wpList_append_own_at _ rfl (.tmp 9) (.tmp 17) 49 rfl base 5 ip _ 1 1 Try.underlying49 HI.out.1 HI.out.2.1 HI.out.2.2.1 HI.out.2.2.2 rfl (by omega) u0 (bs.length + 4) _ rfl (HL.out.1 _) ⟨wo.heap.size, 0, none⟩ 1 1 [.int .u8 (IntKind.u64.wrap n / 16777216 % 256)] (by rfl) rfl (cell_one_new _ _ _) (by simp [Value.oneCell']) (by have := HR.out.2.2; unfold maxLen; omega) (by have := HR.out.2.2; omega) (by have := HL.out.2; simp; omega) ?_
             intro v' W3 hown hgr _ hat
             have H3 := Lib.hid (HJ.out.trans (Ext.push (bs' := bs ++ (be8 n).take 5) (Chg.alloc (Chg.refl [] wo) _) hown (by simp [be8]) (by simp [be8, u8s]) hgr hat))
             clear hown hgr hat)
          | fail)
        go_roundw
        case rel => exact ⟨5, by omega, by go_num, H3⟩
        case measure => simp [intOf]
      · go_wp2_with (first
          | (refine wpList_append_own_at _ rfl (.tmp 9) (.tmp 17) 49 rfl base 5 ip _ 1 1 Try.underlying49 HI.out.1 HI.out.2.1 HI.out.2.2.1 HI.out.2.2.2 rfl (by omega) u0 (bs.length + 5) _ rfl (HL.out.1 _) ⟨wo.heap.size, 0, none⟩ 1 1 [.int .u8 (IntKind.u64.wrap n / 65536 % 256)] (by rfl) rfl (cell_one_new _ _ _) (by simp [Value.oneCell']) (by have := HR.out.2.2; unfold maxLen; omega) (by have := HR.out.2.2; omega) (by have := HL.out.2; simp; omega) ?_
             intro v' W3 hown hgr _ hat
             have H3 := Lib.hid (HJ.out.trans (Ext.push (bs' := bs ++ (be8 n).take 6) (Chg.alloc (Chg.refl [] wo) _) hown (by simp [be8]) (by simp [be8, u8s]) hgr hat))
             clear hown hgr hat)
          | fail)
        go_roundw
        case rel => exact ⟨6, by omega, by go_num, H3⟩
        case measure => simp [intOf]
      · go_wp2_with (first
          | (refine wpList_append_own_at _ rfl (.tmp 9) (.tmp 17) 49 rfl base 5 ip _ 1 1 Try.underlying49 HI.out.1 HI.out.2.1 HI.out.2.2.1 HI.out.2.2.2 rfl (by omega) u0 (bs.length + 6) _ rfl (HL.out.1 _) ⟨wo.heap.size, 0, none⟩ 1 1 [.int .u8 (IntKind.u64.wrap n / 256 % 256)] (by rfl) rfl (cell_one_new _ _ _) (by simp [Value.oneCell']) (by have := HR.out.2.2; unfold maxLen; omega) (by have := HR.out.2.2; omega) (by have := HL.out.2; simp; omega) ?_
             intro v' W3 hown hgr _ hat
             have H3 := Lib.hid (HJ.out.trans (Ext.push (bs' := bs ++ (be8 n).take 7) (Chg.alloc (Chg.refl [] wo) _) hown (by simp [be8]) (by simp [be8, u8s]) hgr hat))
             clear hown hgr hat)
          | fail)
        go_roundw
        case rel => exact ⟨7, by omega, by go_num, H3⟩
        case measure => simp [intOf]
      · go_wp2_with (first
          | (refine wpList_append_own_at _ rfl (.tmp 9) (.tmp 17) 49 rfl base 5 ip _ 1 1 Try.underlying49 HI.out.1 HI.out.2.1 HI.out.2.2.1 HI.out.2.2.2 rfl (by omega) u0 (bs.length + 7) _ rfl (HL.out.1 _) ⟨wo.heap.size, 0, none⟩ 1 1 [.int .u8 (IntKind.u64.wrap n % 256)] (by rfl) rfl (cell_one_new _ _ _) (by simp [Value.oneCell']) (by have := HR.out.2.2; unfold maxLen; omega) (by have := HR.out.2.2; omega) (by have := HL.out.2; simp; omega) ?_
             intro v' W3 hown hgr _ hat
             have H3 := Lib.hid (HJ.out.trans (Ext.push (bs' := bs ++ (be8 n).take 8) (Chg.alloc (Chg.refl [] wo) _) hown (by simp [be8]) (by simp [be8, u8s]) hgr hat))
             clear hown hgr hat)
          | fail)
        go_roundw
        case rel => exact ⟨8, by omega, by go_num, H3⟩
        case measure => simp [intOf]
    · obtain rfl : j = 8 := by omega
      go_wp2
      go_ret
      refine ⟨_, rfl, ?_⟩
      have h8 : (be8 n).take 8 = be8 n := List.take_of_length_le (by simp [be8])
      have := HJ.out
      rwa [h8] at this
theorem be8_len (n : Int) : (be8 n).length = 8 := rfl
set_option maxHeartbeats 4000000 in
theorem numberB_any (n : Int) (A : Option Addr) (bs : List Int) (c : Nat) (w : World) (hB : BytesAt w A bs) (hc : A = none → bs = [] ∧ c = 0) (hl : bs.length ≤ 1000000) :
    Calls Try.prog 114 #[.slice A bs.length c, .int .i64 n] w fun e w' => ∃ v', e = .returned v' ∧ RowB w' w.heap.size v' (bs ++ be8 n) ∧ Chg [] w w' := by
  have h1 := own_any A bs c w hB hc (by omega)
  have H := Lib.hid (And.intro h1 hl)
  clear h1 hB hc hl
  go_enter Try.func114, Try.ntmps114
  go_wp2_with (go_at_call 126; refine H.out.1.mono ?_; rintro e W1 ⟨v1, rfl, hr1, hc1⟩; have H1 := Lib.hid (And.intro hr1 hc1); have H2 := Lib.hid (number_any n w.heap.size v1 bs W1 hr1 hc1.size H.out.2); clear hr1 hc1)
  refine H2.out.mono ?_
  rintro e W2 ⟨v2, rfl, hE⟩
  have H3 := Lib.hid hE
  clear hE
  go_wp2_with fail
  go_ret
  exact ⟨v2, rfl, H3.out.1, H1.out.2.andThen H3.out.2.1 (fun i hi => .inr (H1.out.1.own i (by simpa using hi)).1)⟩
end Go.Proofs.Ytipijkpjmpejlaa
