import Derived.Test.YtipijkpjmpejlaaPgF
/- The contracts of a part's bytes and of pages.first. -/
set_option linter.unusedVariables false
set_option linter.unusedSimpArgs false
namespace Go.Proofs.Ytipijkpjmpejlaa
open Go.RowKit
/-- The four bytes of a number, the highest first. -/
def be4 (n : Int) : List Int := [n / 16777216, n / 65536 % 256, n / 256 % 256, n % 256]
def b20 (a b c d e : Int) : List Int := be4 a ++ be4 b ++ be4 c ++ be4 d ++ be4 e
theorem cells_new (w : World) (cs : List Value) (T : TypeId) : ∀ j u, cs[j]? = some u → (w.alloc (.cells cs.toArray T)).cell? ((⟨w.heap.size, 0, none⟩ : Addr).add j) = some u := fun j u hu => by
  rw [Addr.add_mid]; exact range_all (heap_new w _ rfl) j u hu
theorem wpList_index {P : Program} {ops : Array Oper} {rest : List Oper} {o : Oper} {a : Act} {w : World} {Q : Exit → Act → World → Prop} (hgd : o.guard = none) (T : TypeId) (x y : Operand) (ho : o.op = .index T x y) (arr v : Value) (i : Int) (hx : a.eval x = arr) (hy : a.eval y = .int .i64 i)
    (hrun : ∀ w, (Instr.index T arr (.int .i64 i)).run P w = .ok v w) (k : wpList P ops Q rest (a.put o.dst v) w) : wpList P ops Q (o :: rest) a w := by
  refine wpList_runv hgd (w' := w) ?_ k
  simp [execOp, ho, hx, hy, hrun, Result.andThen]
set_option maxHeartbeats 8000000 in
set_option maxRecDepth 100000 in
theorem bytes_any (a b c d e : Int) (ld : List Int) (q : Nat) (w : World) (hq : w.heap[q]? = some (.cells (partC [a, b, c, d, e] ld).toArray 174 (0, 0))) (hl : ld.length = 44)
    (ha : 0 ≤ a ∧ a < 4294967296) (hb : 0 ≤ b ∧ b < 4294967296) (hc : 0 ≤ c ∧ c < 4294967296) (hd : 0 ≤ d ∧ d < 4294967296) (he : 0 ≤ e ∧ e < 4294967296) :
    Calls Try.prog 116 #[.pointer (some ⟨q, 0, none⟩)] w fun e' w' => ∃ v', e' = .returned v' ∧ RowB w' w.heap.size v' (b20 a b c d e ++ ld) ∧ Chg [] w w' := by
  obtain ⟨ip, hi, hz0, hz1, hz2⟩ := info_parts infoU8
  have HI := Lib.hid (And.intro hi (And.intro hz0 (And.intro hz1 hz2)))
  have hr5 : w.rangeAt q 0 [.int .u32 a, .int .u32 b, .int .u32 c, .int .u32 d, .int .u32 e] := range_of_block hq 0 5
  have HQ := Lib.hid (And.intro hr5 (And.intro hq hl))
  clear hi hz0 hz1 hz2 hq hl hr5
  obtain ⟨ha1, ha2⟩ := ha
  obtain ⟨hb1, hb2⟩ := hb
  obtain ⟨hc1, hc2⟩ := hc
  obtain ⟨hd1, hd2⟩ := hd
  obtain ⟨he1, he2⟩ := he
  go_enter Try.func116, Try.ntmps116
  go_wp2_with (first
    | (refine wpList_load_mid rfl 171 (.tmp 8) rfl q 0 rfl _ _ HQ.out.1 Try.underlying171 rfl (by kernel_rfl) ?_)
    | fail)
  go_loopw [3, 10] (fun u iv wr => ∃ j : Nat, j ≤ 5 ∧ iv = .int .i64 j ∧ Hid (Ext w.heap.size (.slice none 0 0) w u ((b20 a b c d e).take (4 * j)) wr)) (fun _ iv _ => 5 - (intOf iv).toNat)
  case atStart => exact ⟨0, Nat.zero_le _, rfl, Lib.hid (Ext.refl (RowB.nil _ _))⟩
  case round =>
    obtain ⟨j, hj, rfl, HJ⟩ := hrel
    generalize wr = wo at *
    by_cases hlt : j < 5
    · have hlj : ((b20 a b c d e).take (4 * j)).length = 4 * j := by simp [b20, be4]; omega
      have hro : ∀ o, (wo.alloc o).ownsRow w.heap.size 5 1 u3 (4 * j) (u8s ((b20 a b c d e).take (4 * j))) := fun o => (HJ.out.1.kept (Chg.alloc (Chg.refl [] wo) o) (by simp)).at hlj
      have HL := Lib.hid (And.intro hro HJ.out.2.1.size)
      clear hro hlj
      have : j = 0 ∨ j = 1 ∨ j = 2 ∨ j = 3 ∨ j = 4 := by omega
      rcases this with rfl | rfl | rfl | rfl | rfl
      · have hix : ∀ w, (Instr.index 171 (.agg #[.int .u32 a, .int .u32 b, .int .u32 c, .int .u32 d, .int .u32 e]) (.int .i64 ((0 : Nat) : Int))).run Try.prog w = .ok (.int .u32 a) w := fun _ => by kernel_rfl
        have hix' := Lib.hid hix
        clear hix
        go_wp2_with (first
          | (refine wpList_index rfl 171 (.tmp 9) (.tmp 10) rfl _ _ _ rfl rfl hix'.out ?_)
          | (refine wpList_append_own_at _ rfl (.tmp 13) (.tmp 25) 49 rfl w.heap.size 5 ip _ 1 1 Try.underlying49 HI.out.1 HI.out.2.1 HI.out.2.2.1 HI.out.2.2.2 rfl (by omega) u3 (4 * 0) _ rfl (HL.out.1 _) ⟨wo.heap.size, 0, none⟩ 4 4 (u8s (be4 a)) (by rfl) rfl (cells_new _ _ _) (u8s_one _) (by unfold maxLen; omega) (by omega) (by have := HL.out.2; simp; omega) ?_
             intro v' W3 hown hgr _ hat
             have H3 := Lib.hid (HJ.out.trans (Ext.push (bs' := (b20 a b c d e).take (4 * 1)) (Chg.alloc (Chg.refl [] wo) _) hown (by simp [b20, be4]) (by simp [b20, be4, u8s]) hgr hat))
             clear hown hgr hat)
          | fail)
        go_roundw
        case rel => exact ⟨1, by omega, by go_num, H3⟩
        case measure => simp [intOf]
      · have hix : ∀ w, (Instr.index 171 (.agg #[.int .u32 a, .int .u32 b, .int .u32 c, .int .u32 d, .int .u32 e]) (.int .i64 ((1 : Nat) : Int))).run Try.prog w = .ok (.int .u32 b) w := fun _ => by kernel_rfl
        have hix' := Lib.hid hix
        clear hix
        go_wp2_with (first
          | (refine wpList_index rfl 171 (.tmp 9) (.tmp 10) rfl _ _ _ rfl rfl hix'.out ?_)
          | (refine wpList_append_own_at _ rfl (.tmp 13) (.tmp 25) 49 rfl w.heap.size 5 ip _ 1 1 Try.underlying49 HI.out.1 HI.out.2.1 HI.out.2.2.1 HI.out.2.2.2 rfl (by omega) u3 (4 * 1) _ rfl (HL.out.1 _) ⟨wo.heap.size, 0, none⟩ 4 4 (u8s (be4 b)) (by rfl) rfl (cells_new _ _ _) (u8s_one _) (by unfold maxLen; omega) (by omega) (by have := HL.out.2; simp; omega) ?_
             intro v' W3 hown hgr _ hat
             have H3 := Lib.hid (HJ.out.trans (Ext.push (bs' := (b20 a b c d e).take (4 * 2)) (Chg.alloc (Chg.refl [] wo) _) hown (by simp [b20, be4]) (by simp [b20, be4, u8s]) hgr hat))
             clear hown hgr hat)
          | fail)
        go_roundw
        case rel => exact ⟨2, by omega, by go_num, H3⟩
        case measure => simp [intOf]
      · have hix : ∀ w, (Instr.index 171 (.agg #[.int .u32 a, .int .u32 b, .int .u32 c, .int .u32 d, .int .u32 e]) (.int .i64 ((2 : Nat) : Int))).run Try.prog w = .ok (.int .u32 c) w := fun _ => by kernel_rfl
        have hix' := Lib.hid hix
        clear hix
        go_wp2_with (first
          | (refine wpList_index rfl 171 (.tmp 9) (.tmp 10) rfl _ _ _ rfl rfl hix'.out ?_)
          | (refine wpList_append_own_at _ rfl (.tmp 13) (.tmp 25) 49 rfl w.heap.size 5 ip _ 1 1 Try.underlying49 HI.out.1 HI.out.2.1 HI.out.2.2.1 HI.out.2.2.2 rfl (by omega) u3 (4 * 2) _ rfl (HL.out.1 _) ⟨wo.heap.size, 0, none⟩ 4 4 (u8s (be4 c)) (by rfl) rfl (cells_new _ _ _) (u8s_one _) (by unfold maxLen; omega) (by omega) (by have := HL.out.2; simp; omega) ?_
             intro v' W3 hown hgr _ hat
             have H3 := Lib.hid (HJ.out.trans (Ext.push (bs' := (b20 a b c d e).take (4 * 3)) (Chg.alloc (Chg.refl [] wo) _) hown (by simp [b20, be4]) (by simp [b20, be4, u8s]) hgr hat))
             clear hown hgr hat)
          | fail)
        go_roundw
        case rel => exact ⟨3, by omega, by go_num, H3⟩
        case measure => simp [intOf]
      · have hix : ∀ w, (Instr.index 171 (.agg #[.int .u32 a, .int .u32 b, .int .u32 c, .int .u32 d, .int .u32 e]) (.int .i64 ((3 : Nat) : Int))).run Try.prog w = .ok (.int .u32 d) w := fun _ => by kernel_rfl
        have hix' := Lib.hid hix
        clear hix
        go_wp2_with (first
          | (refine wpList_index rfl 171 (.tmp 9) (.tmp 10) rfl _ _ _ rfl rfl hix'.out ?_)
          | (refine wpList_append_own_at _ rfl (.tmp 13) (.tmp 25) 49 rfl w.heap.size 5 ip _ 1 1 Try.underlying49 HI.out.1 HI.out.2.1 HI.out.2.2.1 HI.out.2.2.2 rfl (by omega) u3 (4 * 3) _ rfl (HL.out.1 _) ⟨wo.heap.size, 0, none⟩ 4 4 (u8s (be4 d)) (by rfl) rfl (cells_new _ _ _) (u8s_one _) (by unfold maxLen; omega) (by omega) (by have := HL.out.2; simp; omega) ?_
             intro v' W3 hown hgr _ hat
             have H3 := Lib.hid (HJ.out.trans (Ext.push (bs' := (b20 a b c d e).take (4 * 4)) (Chg.alloc (Chg.refl [] wo) _) hown (by simp [b20, be4]) (by simp [b20, be4, u8s]) hgr hat))
             clear hown hgr hat)
          | fail)
        go_roundw
        case rel => exact ⟨4, by omega, by go_num, H3⟩
        case measure => simp [intOf]
      · have hix : ∀ w, (Instr.index 171 (.agg #[.int .u32 a, .int .u32 b, .int .u32 c, .int .u32 d, .int .u32 e]) (.int .i64 ((4 : Nat) : Int))).run Try.prog w = .ok (.int .u32 e) w := fun _ => by kernel_rfl
        have hix' := Lib.hid hix
        clear hix
        go_wp2_with (first
          | (refine wpList_index rfl 171 (.tmp 9) (.tmp 10) rfl _ _ _ rfl rfl hix'.out ?_)
          | (refine wpList_append_own_at _ rfl (.tmp 13) (.tmp 25) 49 rfl w.heap.size 5 ip _ 1 1 Try.underlying49 HI.out.1 HI.out.2.1 HI.out.2.2.1 HI.out.2.2.2 rfl (by omega) u3 (4 * 4) _ rfl (HL.out.1 _) ⟨wo.heap.size, 0, none⟩ 4 4 (u8s (be4 e)) (by rfl) rfl (cells_new _ _ _) (u8s_one _) (by unfold maxLen; omega) (by omega) (by have := HL.out.2; simp; omega) ?_
             intro v' W3 hown hgr _ hat
             have H3 := Lib.hid (HJ.out.trans (Ext.push (bs' := (b20 a b c d e).take (4 * 5)) (Chg.alloc (Chg.refl [] wo) _) hown (by simp [b20, be4]) (by simp [b20, be4, u8s]) hgr hat))
             clear hown hgr hat)
          | fail)
        go_roundw
        case rel => exact ⟨5, by omega, by go_num, H3⟩
        case measure => simp [intOf]
    · obtain rfl : j = 5 := by omega
      have hb5 : (b20 a b c d e).take (4 * 5) = b20 a b c d e := List.take_of_length_le (by simp [b20, be4])
      rw [hb5] at HJ
      have hro : wo.ownsRow w.heap.size 5 1 u3 20 (u8s (b20 a b c d e)) := HJ.out.1.at (by simp [b20, be4])
      have hqo : ∀ j u, (u8s ld)[j]? = some u → wo.cell? ((⟨q, 5, none⟩ : Addr).add j) = some u := fun j u hu => by
        rw [Addr.add_mid]
        have h1 : wo.heap[q]? = some (.cells (partC [a, b, c, d, e] ld).toArray 174 (0, 0)) := HJ.out.2.1.at HQ.out.2.1 (by simp [Value.ownBlock])
        have h2 := range_of_block h1 5 44 j u
        refine h2 ?_
        have h3 : (partC [a, b, c, d, e] ld).drop 5 = u8s ld := by simp [partC, u32s]
        rw [h3, List.take_of_length_le (by have := HQ.out.2.2; simp [u8s, this])]
        exact hu
      have HL := Lib.hid (And.intro hro (And.intro hqo HJ.out.2.1.size))
      clear hro hqo hb5
      go_wp2_with (first
        | (refine wpList_append_own_at _ rfl (.tmp 28) (.tmp 32) 49 rfl w.heap.size 5 ip _ 1 1 Try.underlying49 HI.out.1 HI.out.2.1 HI.out.2.2.1 HI.out.2.2.2 rfl (by omega) u3 20 _ rfl HL.out.1 ⟨q, 5, none⟩ 44 44 (u8s ld) rfl (by have := HQ.out.2.2; simp [u8s, this]) HL.out.2.1 (u8s_one _) (by unfold maxLen; omega) (by omega) HL.out.2.2 ?_
           intro v' W3 hown hgr _ hat
           have H3 := Lib.hid (HJ.out.trans (Ext.push (bs' := b20 a b c d e ++ ld) (Chg.refl [] wo) hown (by have := HQ.out.2.2; simp [b20, be4, this]) (by simp [u8s]) hgr hat))
           clear hown hgr hat)
        | fail)
      go_ret
      exact ⟨_, rfl, H3.out.1, by simpa [Value.ownBlock] using H3.out.2.1⟩
/-- Sector 0's bytes. -/
def bytes0 (g h b : Int) : List Int := be8 g ++ be8 h ++ be8 b
end Go.Proofs.Ytipijkpjmpejlaa
