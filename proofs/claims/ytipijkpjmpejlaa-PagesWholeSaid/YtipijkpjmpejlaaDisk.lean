import Derived.Test.YtipijkpjmpejlaaProg
import Derived.Test.YtipijkpjmpejlaaAgg
/- The contracts of the program's disk: what each call answers and leaves, for disks of any log below 2^20 writes. -/
set_option linter.unusedVariables false
set_option linter.unusedSimpArgs false
namespace Go.Proofs.Ytipijkpjmpejlaa
open Go.RowKit
/-! ### Plain: a disk is its log -/
def u8s (l : List Int) : List Value := l.map (.int .u8)
def zeros : List Int := List.replicate 64 0
/-- What a sector tells: the last write to it. -/
def secOf : List (Int × List Int) → Int → List Int
  | [], _ => zeros
  | x :: l, n => if l.any (fun y => y.1 == n) then secOf l n else if x.1 = n then x.2 else zeros
theorem secOf_snoc (n : Int) (b : List Int) : ∀ (l : List (Int × List Int)) (k : Int), secOf (l ++ [(n, b)]) k = if k = n then b else secOf l k
  | [], k => by
    simp only [List.nil_append, secOf, List.any_nil, Bool.false_eq_true, if_false]
    by_cases h : k = n
    · subst h; simp
    · rw [if_neg (fun e => h e.symm), if_neg h]
  | x :: l, k => by
    simp only [List.cons_append, secOf, secOf_snoc n b l k, List.any_append, List.any_cons, List.any_nil, Bool.or_false]
    by_cases h : k = n
    · subst h; simp
    · have h' : (n == k) = false := by simp; exact fun e => h e.symm
      simp only [h', Bool.or_false, if_neg h]
def logCells (L : List (Int × List Int)) : List Value := L.flatMap fun x => .int .i64 x.1 :: u8s x.2
theorem logCells_length (L : List (Int × List Int)) (h : ∀ x ∈ L, x.2.length = 64) : (logCells L).length = L.length * 65 := by
  induction L with
  | nil => rfl
  | cons x L ih =>
    rw [logCells, List.flatMap_cons, List.length_append, ← logCells, ih (fun y hy => h y (by simp [hy]))]
    simp [u8s, h x (by simp)]; omega
theorem logCells_snoc (L : List (Int × List Int)) (n : Int) (b : List Int) : logCells (L ++ [(n, b)]) = logCells L ++ (.int .i64 n :: u8s b) := by simp [logCells]

/-! ### A disk in memory -/
structure DiskA (w : World) (p bm : Nat) (v : Value) (L : List (Int × List Int)) (down armed : Bool) (left : Int) : Prop where
  blk : w.heap[p]? = some (.cells #[.map (some bm), v, .bool down, .bool armed, .int .i64 left] 126 (0, 0))
  map : ∃ m, MapI w bm m ∧ ∀ n, (m n).getD (.agg (u8s zeros).toArray) = .agg (u8s (secOf L n)).toArray
  log : w.ownsRow 0 130 65 v L.length (logCells L)
  len : ∀ x ∈ L, x.2.length = 64
theorem DiskA.kept {w w' : World} {p bm : Nat} {v : Value} {L : List (Int × List Int)} {down armed : Bool} {left : Int} (h : DiskA w p bm v L down armed left) {l : List Nat} (hc : Chg l w w') (h1 : p ∉ l) (h2 : bm ∉ l) (h3 : ∀ k, v.ownBlock = some k → k ∉ l) : DiskA w' p bm v L down armed left := by
  obtain ⟨hb, ⟨m, hm, h⟩, hl, hn⟩ := h
  refine ⟨hc.at hb h1, ⟨m, hm.kept hc h2, h⟩, ⟨hl.1, ?_⟩, hn⟩
  rcases hl.2 with h0 | ⟨g, cap, cur, rfl, hg, hh, r⟩
  · exact .inl h0
  · exact .inr ⟨g, cap, cur, rfl, hg, hc.at hh (h3 g rfl), r⟩
theorem DiskA.apart {w : World} {p bm : Nat} {v : Value} {L : List (Int × List Int)} {down armed : Bool} {left : Int} (h : DiskA w p bm v L down armed left) : p ≠ bm ∧ (∀ k, v.ownBlock = some k → k ≠ p ∧ k ≠ bm ∧ k < w.heap.size) := by
  obtain ⟨hb, ⟨m, ⟨es, cl, hm, _⟩, _⟩, hl, _⟩ := h
  refine ⟨(fun e => by subst e; rw [hm] at hb; cases hb), fun k hk => ?_⟩
  rcases hl.2 with ⟨rfl, _⟩ | ⟨g, cap, cur, rfl, _, hh, _⟩
  · cases hk
  · cases hk
    refine ⟨fun e => ?_, fun e => ?_, lt_of_block hh⟩
    · subst e
      rw [hb] at hh
      injection hh with hh
      injection hh with _ ht
      exact absurd ht (by decide)
    · subst e; rw [hm] at hh; cases hh
theorem zero64 (w : World) : (zeroValue 128).run Try.prog w = .ok (.agg (u8s zeros).toArray) w := by kernel_rfl
theorem zero65 (w : World) : (zeroValue 130).run Try.prog w = .ok (.agg (.int .i64 0 :: u8s zeros).toArray) w := by kernel_rfl
theorem build65 (n : Int) (w : World) : (Instr.build 130 #[(0, .int .i64 n)]).run Try.prog w = .ok (.agg (.int .i64 n :: u8s zeros).toArray) w := by kernel_rfl
theorem build64 (w : World) : (Instr.build 128 #[]).run Try.prog w = .ok (.agg (u8s zeros).toArray) w := by kernel_rfl

theorem new_any (w : World) : Calls Try.prog 28 #[] w fun e w' => e = .returned (.pointer (some ⟨w.heap.size + 1, 0, none⟩)) ∧ DiskA w' (w.heap.size + 1) w.heap.size (.slice none 0 0) [] false false 0 ∧ Chg [] w w' ∧ w'.heap.size = w.heap.size + 2 := by
  have hmm := @run_makeMap Try.prog
  go_enter Try.func28, Try.ntmps28
  go_wp2
  go_ret
  refine ⟨rfl, ⟨heap_new _ _ (by simp), ⟨fun _ => none, (MapI.made w).kept (l := []) ((Chg.refl _ _).alloc _) (by simp), fun _ => rfl⟩, ⟨rfl, .inl ⟨rfl, rfl⟩⟩, by simp⟩, (by with_reducible repeat (first | exact Chg.refl _ _ | apply Chg.alloc | apply Chg.drew | apply Chg.drewN | (refine Chg.setCell ?_ _ _ (by simp)))), by simp⟩

theorem infoPut : (Try.prog.info? 130).map (fun i => (i.zero, i.size, i.bytes)) = some (some (.agg (.int .i64 0 :: u8s zeros).toArray), 65, 72) := by kernel_rfl
theorem szPut : (Try.prog.info? 130).map (·.size) = some 65 := by kernel_rfl
theorem szSec : (Try.prog.info? 128).map (·.size) = some 64 := by kernel_rfl
theorem u8s_one (l : List Int) : ∀ u ∈ u8s l, u.oneCell' = true := by intro u hu; obtain ⟨x, _, rfl⟩ := List.mem_map.1 hu; rfl
set_option maxHeartbeats 8000000 in
set_option maxRecDepth 100000 in
theorem puts_any (p bm : Nat) (v : Value) (L : List (Int × List Int)) (down armed : Bool) (left n : Int) (bs : List Int) (w : World) (hD : DiskA w p bm v L down armed left) (hbs : bs.length = 64) (hL : L.length < 1048576) :
    Calls Try.prog 76 #[.pointer (some ⟨p, 0, none⟩), .agg (.int .i64 n :: u8s bs).toArray] w fun e w' => e = .returned (.tuple #[]) ∧ ∃ v', DiskA w' p bm v' (L ++ [(n, bs)]) down armed left ∧ Chg (p :: bm :: v.ownBlock.toList) w w' ∧ (v'.ownBlock = v.ownBlock ∨ ∃ b, v'.ownBlock = some b ∧ w.heap.size ≤ b) := by
  obtain ⟨ip, hi, hz0, hz1, hz2⟩ := info_parts infoPut
  have hp := lt_of_block hD.blk
  have hzs : (Value.agg (.int .i64 0 :: u8s zeros).toArray).cells.size = ip.size := by rw [hz1]; kernel_rfl
  have hpos : 0 < ip.size := by rw [hz1]; omega
  have hle : ip.size ≤ 16777216 := by rw [hz1]; omega
  obtain ⟨hpm, hap⟩ := hD.apart
  have HD := Lib.hid hD
  clear hD
  have hsz : (.int .i64 n :: u8s bs).length = 65 := by simp [u8s, hbs]
  have HA := Lib.hid hsz
  have hvs : (Value.agg (.int .i64 n :: u8s bs).toArray).cells.size = ip.size := by rw [hz1]; simpa [Value.cells] using hsz
  clear hsz
  have HI := Lib.hid (And.intro hi (And.intro hz0 (And.intro hzs (And.intro hpos (And.intro hle hvs)))))
  clear hi hz0 hzs hpos hle hvs
  have c1 : w.cell? ⟨p, 1, none⟩ = some v := by simp [World.cell?, HD.out.blk]
  go_enter Try.func76, Try.ntmps76
  go_wp2_with (refine wpList_box rfl _ _ rfl _ rfl ?_)
  refine wp_world (fun W => W.heap[w.heap.size]? = some (.cells (.int .i64 n :: u8s bs).toArray 130 (0, 0)) ∧ Chg [] w W ∧ W.heap.size = w.heap.size + 1) ⟨heap_new _ _ rfl, (by with_reducible repeat (first | exact Chg.refl _ _ | apply Chg.alloc | apply Chg.drew | apply Chg.drewN | (refine Chg.setCell ?_ _ _ (by simp)))), by simp⟩ ?_
  rintro W ⟨hb, hC, hZ⟩
  have c2 : W.cell? ⟨p, 1, none⟩ = some v := hC.cell c1 (by simp)
  refine wp_region_M (fun W => W.cell? ⟨p, 1, none⟩ = some v) (fun k => [6, 7, 10].contains k) (fun k => k == 10) (by kernel_rfl) ?_
  refine M_pure (i := 0) (v := ?_) rfl (by kernel_rfl) (by kernel_rfl) (by kernel_rfl) (fun _ _ _ h => h) (by rfl) ?hy ?_; case hy => (intro w; go_simp; with_reducible rfl); ((try dsimp only); (try simp only [Act.put, List.setIfInBounds_toArray, List.set_cons_zero, List.set_cons_succ]))
  refine M_pure (i := 1) (v := ?_) rfl (by kernel_rfl) (by kernel_rfl) (by kernel_rfl) (fun _ _ _ h => h) (by rfl) ?hy ?_; case hy => (intro w; go_simp; with_reducible rfl); ((try dsimp only); (try simp only [Act.put, List.setIfInBounds_toArray, List.set_cons_zero, List.set_cons_succ]))
  refine M_pure (i := 2) (v := ?_) rfl (by kernel_rfl) (by kernel_rfl) (by kernel_rfl) (fun _ _ _ h => h) (by rfl) ?hy ?_; case hy => (intro w; go_simp; with_reducible rfl); ((try dsimp only); (try simp only [Act.put, List.setIfInBounds_toArray, List.set_cons_zero, List.set_cons_succ]))
  refine M_pure (i := 3) (v := ?_) rfl (by kernel_rfl) (by kernel_rfl) (by kernel_rfl) (fun _ _ _ h => h) (by rfl) ?hy ?_; case hy => (intro w; go_simp; with_reducible rfl); ((try dsimp only); (try simp only [Act.put, List.setIfInBounds_toArray, List.set_cons_zero, List.set_cons_succ]))
  refine M_semi (i := 4) (v := ?_) rfl (by kernel_rfl) (by kernel_rfl) (by kernel_rfl) (by kernel_rfl) (fun _ _ _ h => h) (by rfl) c2 ?hy ?_; case hy => (intro w hS; go_simp; with_reducible rfl); ((try dsimp only); (try simp only [Act.put, List.setIfInBounds_toArray, List.set_cons_zero, List.set_cons_succ]))
  refine M_take (i := 5) rfl (by kernel_rfl) (by kernel_rfl) (by kernel_rfl) (by kernel_rfl) (fun _ _ _ h => h) (by rfl) (exec_load_mid 130 (.tmp 3) rfl w.heap.size 0 rfl _ _ (range_all (w := W.drew) hb) Try.underlying130 rfl (by rw [HA.out]; exact szPut)) ?_
  ((try dsimp only); (try simp only [Act.put, List.setIfInBounds_toArray, List.set_cons_zero, List.set_cons_succ]))
  refine M_eff (i := 6) rfl (by kernel_rfl) (by rfl) ?_
  refine wpList_slice_one rfl 124 130 (.tmp 9) rfl Try.underlying124 ip _ HI.out.1 HI.out.2.1 HI.out.2.2.1 HI.out.2.2.2.1 HI.out.2.2.2.2.1 _ rfl HI.out.2.2.2.2.2 ?_
  refine wpList_nil ⟨by go_simp, ?_⟩
  refine M_eff (i := 7) rfl (by kernel_rfl) (by rfl) ?_
  refine wpList_append_own_at _ rfl (.tmp 8) (.tmp 10) 124 rfl 0 130 ip _ 65 72 Try.underlying124 HI.out.1 HI.out.2.1 hz1 hz2 (by rw [← hz1]; exact HI.out.2.2.1) (by omega) v L.length _ rfl
    (((HD.out.kept hC (by simp) (by simp) (by simp)).log.drew).alloc _) ⟨W.heap.size, 0, none⟩ 1 1 (.int .i64 n :: u8s bs) rfl (by rw [HA.out]) (fun j u hu => by rw [Addr.add_mid]; exact range_all (heap_new W.drew _ rfl) j u hu) (fun u hu => ?c1) (by unfold maxLen; omega) (by omega) (Nat.zero_le _) ?_
  case c1 => exact (by rcases List.mem_cons.1 hu with rfl | hu <;> first | rfl | exact u8s_one bs u hu)
  intro v' W1 hown' hg _ hat
  have hC1 : Chg v.ownBlock.toList W W1 := Chg.grown (Chg.alloc (Chg.drew (Chg.refl _ _)) _) hg (by intro k hk; rw [hk]; simp)
  clear hg
  have c3 : W1.cell? ⟨p, 1, none⟩ = some v := hC1.cell c2 (by intro hm; exact (hap p (by simpa using hm)).1 rfl)
  refine wpList_nil ⟨c3, ?_⟩
  ((try dsimp only); (try simp only [Act.put, List.setIfInBounds_toArray, List.set_cons_zero, List.set_cons_succ]))
  refine M_pure (i := 8) (v := ?_) rfl (by kernel_rfl) (by kernel_rfl) (by kernel_rfl) (fun _ _ _ h => h) (by rfl) ?hy ?_; case hy => (intro w; go_simp; with_reducible rfl); ((try dsimp only); (try simp only [Act.put, List.setIfInBounds_toArray, List.set_cons_zero, List.set_cons_succ]))
  refine M_pure (i := 9) (v := ?_) rfl (by kernel_rfl) (by kernel_rfl) (by kernel_rfl) (fun _ _ _ h => h) (by rfl) ?hy ?_; case hy => (intro w; go_simp; with_reducible rfl); ((try dsimp only); (try simp only [Act.put, List.setIfInBounds_toArray, List.set_cons_zero, List.set_cons_succ]))
  have hblk1 : W1.heap[p]? = _ := hC1.at (hC.at HD.out.blk (by simp)) (fun hm => (hap p (by simpa using hm)).1 rfl)
  have f3 : W1.frozen? ⟨p, 1, none⟩ = false := by simp [World.frozen?, hblk1]
  have HB1 := Lib.hid hblk1
  clear hblk1
  obtain ⟨A', c', rfl⟩ := own_slice hown'
  have hpo : ∀ k, (Value.slice A' (L.length + 1) c').ownBlock = some k → k ≠ p := by
    intro k hk e
    subst e
    rcases hat with h | h
    · rw [h] at hk; exact (hap k hk).1 rfl
    · rw [h] at hk; simp at hk; have := hC.size; omega
  refine M_brk (i := 10) rfl (by kernel_rfl) (by rfl) (by rfl) ?_
  go_wp2
  refine M_done (by kernel_rfl) ?_ _
  have hblk2 : (W1.setCell ⟨p, 1, none⟩ (.slice A' (L.length + 1) c')).heap[p]? = some (.cells #[.map (some bm), .slice A' (L.length + 1) c', .bool down, .bool armed, .int .i64 left] 126 (0, 0)) := heap_setCell_same W1 p 1 _ _ _ HB1.out
  have hC2 : Chg (p :: v.ownBlock.toList) W (W1.setCell ⟨p, 1, none⟩ (.slice A' (L.length + 1) c')) := (hC1.mono (by simp; intro i h; exact .inl (.inr h))).setCell _ _ (by simp)
  have hX3 : (W1.setCell ⟨p, 1, none⟩ (.slice A' (L.length + 1) c')).ownsRow 0 130 65 (.slice A' (L.length + 1) c') (L.length + 1) (logCells L ++ (.int .i64 n :: u8s bs)) := own_kept (l := [p]) hown' ((Chg.refl _ _).setCell _ _ (by simp)) (by simpa using hpo)
  clear hown' HB1 c3 f3 hC1
  generalize W1.setCell ⟨p, 1, none⟩ (Value.slice A' (L.length + 1) c') = X at hblk2 hC2 hX3 ⊢
  have hXB : X.heap[w.heap.size]? = some (.cells (.int .i64 n :: u8s bs).toArray 130 (0, 0)) := hC2.at hb (by
    simp only [List.mem_cons, Option.mem_toList, not_or]
    exact ⟨by omega, fun h => by have := (hap _ h).2.2; omega⟩)
  have H2 := Lib.hid (And.intro hblk2 (And.intro hC2 hX3))
  have HXB := Lib.hid hXB
  clear hblk2 hC2 hX3 hXB hb c2 c1
  have hr1 : X.rangeAt w.heap.size 1 (u8s bs) := by
    have h := range_of_block HXB.out 1 64
    rwa [List.drop_succ_cons, List.drop_zero, List.take_of_length_le (by simp [u8s, hbs])] at h
  have HR := Lib.hid hr1
  have hsu : (u8s bs).length = 64 := by simp [u8s, hbs]
  have HSU := Lib.hid hsu
  clear hr1 hsu
  have hmapd := HD.out.map
  obtain ⟨m, hm, hmv⟩ := hmapd
  have hbl := hm.lt
  have hmX : MapI X bm m := (hm.kept hC (by simp)).kept H2.out.2.1 (by
    simp only [List.mem_cons, Option.mem_toList, not_or]
    exact ⟨fun e => hpm e.symm, fun h => (hap _ h).2.1 rfl⟩)
  have hpb : ∀ k, (Value.slice A' (L.length + 1) c').ownBlock = some k → k ≠ bm := by
    intro k hk e
    subst e
    rcases hat with h | h
    · rw [h] at hk; exact (hap k hk).2.1 rfl
    · rw [h] at hk; simp at hk; have := hC.size; omega
  have hat' : (Value.slice A' (L.length + 1) c').ownBlock = v.ownBlock ∨ ∃ b, (Value.slice A' (L.length + 1) c').ownBlock = some b ∧ w.heap.size ≤ b := by
    rcases hat with h | h
    · exact .inl h
    · exact .inr ⟨_, h, by simp; have := hC.size; omega⟩
  have hdone : ∀ (Y : World) (m' : Int → Option Value), MapI Y bm m' → Chg [bm] X Y → (∀ k, (m' k).getD (.agg (u8s zeros).toArray) = .agg (u8s (if k = n then bs else secOf L k)).toArray) →
      ∃ v', DiskA Y p bm v' (L ++ [(n, bs)]) down armed left ∧ Chg (p :: bm :: v.ownBlock.toList) w Y ∧ (v'.ownBlock = v.ownBlock ∨ ∃ b, v'.ownBlock = some b ∧ w.heap.size ≤ b) := by
    intro Y m' hmY hcY hv
    refine ⟨_, ⟨hcY.at H2.out.1 (by simpa using hpm), ⟨m', hmY, fun k => ?_⟩, ?_, ?_⟩, ?_, hat'⟩
    · rw [secOf_snoc]; exact hv k
    · rw [logCells_snoc, List.length_append, List.length_singleton]
      exact own_kept H2.out.2.2 hcY (fun k hk => by simpa using hpb k hk)
    · intro x hx
      rcases List.mem_append.1 hx with h | h
      · exact HD.out.len x h
      · simp at h; subst h; exact hbs
    · exact ((hC.mono (by simp)).andThen (H2.out.2.1) (by simp; intro i h; exact .inl (.inr (.inr h)))).andThen hcY (by simp)
  have HDONE := Lib.hid hdone
  clear hdone hpb hat' hat hpo
  have HM := Lib.hid hmX
  have HV := Lib.hid hmv
  clear hmX hm hmv
  go_wp2_with (first
    | (refine wpList_load_mid rfl 128 (.tmp 14) rfl w.heap.size 1 rfl _ _ HR.out Try.underlying128 rfl (by rw [HSU.out]; exact szSec) ?_)
    | (refine wpList_build rfl 128 #[] rfl #[] rfl _ build64 ?_)
    | (refine wpList_eql_ints rfl 128 128 5 (.tmp 15) (.tmp 16) rfl .u8 64 Try.underlying128 Try.underlying5 (fun _ => by kernel_rfl) (by kernel_rfl) bs zeros rfl rfl hbs rfl ?_))
  · have hz : (bs == zeros) = true := by assumption
    have c2 : X.cell? ⟨p, 0, none⟩ = some (.map (some bm)) := by simp [World.cell?, H2.out.1]
    have c3 : X.cell? ⟨w.heap.size, 0, none⟩ = some (.int .i64 n) := by simp [World.cell?, HXB.out]
    refine wp_region_M (fun _ => True) (fun k => k == 6) (fun k => k == 6) (by kernel_rfl) ?_
    ((try dsimp only); (try simp only [Act.put, List.setIfInBounds_toArray, List.set_cons_zero, List.set_cons_succ]))
    refine M_pure (i := 0) (v := ?_) rfl (by kernel_rfl) (by kernel_rfl) (by kernel_rfl) (fun _ _ _ h => h) (by rfl) ?hy ?_; case hy => (intro w; go_simp; with_reducible rfl); ((try dsimp only); (try simp only [Act.put, List.setIfInBounds_toArray, List.set_cons_zero, List.set_cons_succ]))
    refine M_pure (i := 1) (v := ?_) rfl (by kernel_rfl) (by kernel_rfl) (by kernel_rfl) (fun _ _ _ h => h) (by rfl) ?hy ?_; case hy => (intro w; go_simp; with_reducible rfl); ((try dsimp only); (try simp only [Act.put, List.setIfInBounds_toArray, List.set_cons_zero, List.set_cons_succ]))
    refine M_pure (i := 2) (v := ?_) rfl (by kernel_rfl) (by kernel_rfl) (by kernel_rfl) (fun _ _ _ h => h) (by rfl) ?hy ?_; case hy => (intro w; go_simp; with_reducible rfl); ((try dsimp only); (try simp only [Act.put, List.setIfInBounds_toArray, List.set_cons_zero, List.set_cons_succ]))
    refine M_take (i := 3) (v := ?_) rfl (by kernel_rfl) (by kernel_rfl) (by kernel_rfl) (by kernel_rfl) (fun _ _ _ h => h) (by rfl) ?hy ?_; case hy => (go_simp; with_reducible rfl); ((try dsimp only); (try simp only [Act.put, List.setIfInBounds_toArray, List.set_cons_zero, List.set_cons_succ]))
    refine M_pure (i := 4) (v := ?_) rfl (by kernel_rfl) (by kernel_rfl) (by kernel_rfl) (fun _ _ _ h => h) (by rfl) ?hy ?_; case hy => (intro w; go_simp; with_reducible rfl); ((try dsimp only); (try simp only [Act.put, List.setIfInBounds_toArray, List.set_cons_zero, List.set_cons_succ]))
    refine M_take (i := 5) (v := ?_) rfl (by kernel_rfl) (by kernel_rfl) (by kernel_rfl) (by kernel_rfl) (fun _ _ _ h => h) (by rfl) ?hy ?_; case hy => (go_simp; with_reducible rfl); ((try dsimp only); (try simp only [Act.put, List.setIfInBounds_toArray, List.set_cons_zero, List.set_cons_succ]))
    refine M_brk (i := 6) rfl (by kernel_rfl) (by rfl) (by rfl) ?_
    refine wpList_delete_I (T := 123) rfl (.tmp 21) (.tmp 23) rfl Try.underlying123 Try.underlying3 (w := X.drew) HM.out n rfl rfl ?_
    intro Y hmY hcY hzY
    refine wpList_nil ?_
    refine M_done (by kernel_rfl) ?_ _
    go_wp2_with fail
    refine bodyPost_ret (results_none rfl _ _ _) rfl ⟨rfl, HDONE.out Y _ hmY (Chg.trans (Chg.drew (Chg.refl _ _)) hcY) (fun k => ?_)⟩
    by_cases hk : k = n
    · subst hk; rw [updI_same, if_pos rfl, eq_of_beq hz]; rfl
    · rw [updI_other _ _ hk, if_neg hk]; exact HV.out k
  · have hz : (bs == zeros) = false := by assumption
    have c2 : X.cell? ⟨p, 0, none⟩ = some (.map (some bm)) := by simp [World.cell?, H2.out.1]
    have c3 : X.cell? ⟨w.heap.size, 0, none⟩ = some (.int .i64 n) := by simp [World.cell?, HXB.out]
    refine wp_region_M (fun _ => True) (fun k => k == 8) (fun k => k == 8) (by kernel_rfl) ?_
    ((try dsimp only); (try simp only [Act.put, List.setIfInBounds_toArray, List.set_cons_zero, List.set_cons_succ]))
    refine M_pure (i := 0) (v := ?_) rfl (by kernel_rfl) (by kernel_rfl) (by kernel_rfl) (fun _ _ _ h => h) (by rfl) ?hy ?_; case hy => (intro w; go_simp; with_reducible rfl); ((try dsimp only); (try simp only [Act.put, List.setIfInBounds_toArray, List.set_cons_zero, List.set_cons_succ]))
    refine M_pure (i := 1) (v := ?_) rfl (by kernel_rfl) (by kernel_rfl) (by kernel_rfl) (fun _ _ _ h => h) (by rfl) ?hy ?_; case hy => (intro w; go_simp; with_reducible rfl); ((try dsimp only); (try simp only [Act.put, List.setIfInBounds_toArray, List.set_cons_zero, List.set_cons_succ]))
    refine M_pure (i := 2) (v := ?_) rfl (by kernel_rfl) (by kernel_rfl) (by kernel_rfl) (fun _ _ _ h => h) (by rfl) ?hy ?_; case hy => (intro w; go_simp; with_reducible rfl); ((try dsimp only); (try simp only [Act.put, List.setIfInBounds_toArray, List.set_cons_zero, List.set_cons_succ]))
    refine M_take (i := 3) (v := ?_) rfl (by kernel_rfl) (by kernel_rfl) (by kernel_rfl) (by kernel_rfl) (fun _ _ _ h => h) (by rfl) ?hy ?_; case hy => (go_simp; with_reducible rfl); ((try dsimp only); (try simp only [Act.put, List.setIfInBounds_toArray, List.set_cons_zero, List.set_cons_succ]))
    refine M_pure (i := 4) (v := ?_) rfl (by kernel_rfl) (by kernel_rfl) (by kernel_rfl) (fun _ _ _ h => h) (by rfl) ?hy ?_; case hy => (intro w; go_simp; with_reducible rfl); ((try dsimp only); (try simp only [Act.put, List.setIfInBounds_toArray, List.set_cons_zero, List.set_cons_succ]))
    refine M_take (i := 5) (v := ?_) rfl (by kernel_rfl) (by kernel_rfl) (by kernel_rfl) (by kernel_rfl) (fun _ _ _ h => h) (by rfl) ?hy ?_; case hy => (go_simp; with_reducible rfl); ((try dsimp only); (try simp only [Act.put, List.setIfInBounds_toArray, List.set_cons_zero, List.set_cons_succ]))
    refine M_pure (i := 6) (v := ?_) rfl (by kernel_rfl) (by kernel_rfl) (by kernel_rfl) (fun _ _ _ h => h) (by rfl) ?hy ?_; case hy => (intro w; go_simp; with_reducible rfl); ((try dsimp only); (try simp only [Act.put, List.setIfInBounds_toArray, List.set_cons_zero, List.set_cons_succ]))
    refine M_take (i := 7) rfl (by kernel_rfl) (by kernel_rfl) (by kernel_rfl) (by kernel_rfl) (fun _ _ _ h => h) (by rfl) (exec_load_mid 128 (.tmp 30) rfl w.heap.size 1 rfl _ _ (w := X.drew) HR.out Try.underlying128 rfl (by rw [HSU.out]; exact szSec)) ?_
    ((try dsimp only); (try simp only [Act.put, List.setIfInBounds_toArray, List.set_cons_zero, List.set_cons_succ]))
    refine M_brk (i := 8) rfl (by kernel_rfl) (by rfl) (by rfl) ?_
    refine wpList_update_I (T := 123) rfl (.tmp 27) (.tmp 29) (.tmp 31) rfl Try.underlying123 Try.underlying3 (w := X.drew) HM.out n _ rfl rfl rfl ?_
    intro Y hmY hcY hzY
    refine wpList_nil ?_
    refine M_done (by kernel_rfl) ?_ _
    go_wp2_with fail
    refine bodyPost_end (results_none rfl _ _ _) rfl ⟨rfl, HDONE.out Y _ hmY (Chg.trans (Chg.drew (Chg.refl _ _)) hcY) (fun k => ?_)⟩
    by_cases hk : k = n
    · subst hk; rw [updI_same, if_pos rfl]; rfl
    · rw [updI_other _ _ hk, if_neg hk]; exact HV.out k
end Go.Proofs.Ytipijkpjmpejlaa
