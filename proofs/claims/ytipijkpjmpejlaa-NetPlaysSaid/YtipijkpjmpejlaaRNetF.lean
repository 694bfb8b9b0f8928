import Derived.Test.YtipijkpjmpejlaaRNetE
/- The contract of the reference's Clear. -/
set_option linter.unusedVariables false
set_option linter.unusedSimpArgs false
namespace Go.Proofs.Ytipijkpjmpejlaa
open Go.RowKit
theorem RNetPost.join {w w1 w2 : World} {r : Nat} {L : List (Msg × Bool)} {M M' : Nat → Prop} {cl : List Nat} (hM : ∀ b, M' b → M b ∨ w.heap.size ≤ b) (hc : Chg cl w w1) (hcl : ∀ b ∈ cl, M b) (h : RNetPost r L M' w1 w2) : RNetPost r L M w w2 := by
  obtain ⟨M'', cl', h1, h2, h3, h4⟩ := h
  refine ⟨M'', cl ++ cl'.filter (fun b => decide (b < w.heap.size)), h1, fun b hb => ?_, (hc.mono (fun i hi => .inl (by simp [hi]))).andThen h3 (fun i hi => ?_), fun b hb => ?_⟩
  · rcases h2 b hb with h | h
    · exact hM b h
    · exact .inr (Nat.le_trans hc.size h)
  · rcases Nat.lt_or_ge i w.heap.size with h | h
    · exact .inl (by simp; exact .inr ⟨hi, h⟩)
    · exact .inr h
  · rcases List.mem_append.1 hb with hb | hb
    · exact hcl b hb
    · rw [List.mem_filter] at hb
      rcases hM b (h4 b hb.1) with h | h
      · exact h
      · have := hb.2; simp at this; omega
/-- p of them are seen. -/
def seen (ad : Int) (l : List (Msg × Bool)) (p : Nat) : List (Msg × Bool) := keepM ad (l.take p) ++ l.drop p
theorem keepM_le (ad : Int) (l : List (Msg × Bool)) : (keepM ad l).length ≤ l.length := List.length_filter_le _ _
theorem seen_len (ad : Int) (l : List (Msg × Bool)) (p : Nat) (hp : p ≤ l.length) : (seen ad l p).length = (keepM ad (l.take p)).length + (l.length - p) := by simp [seen]
theorem seen_at (ad : Int) (l : List (Msg × Bool)) (p : Nat) (x : Msg × Bool) (h : l[p]? = some x) : (seen ad l p)[(keepM ad (l.take p)).length]? = some x := by
  unfold seen
  rw [List.getElem?_append_right (Nat.le_refl _), Nat.sub_self, List.getElem?_drop]
  simpa using h
theorem keepM_next (ad : Int) (l : List (Msg × Bool)) (p : Nat) (x : Msg × Bool) (h : l[p]? = some x) : keepM ad (l.take (p + 1)) = keepM ad (l.take p) ++ if x.1.to = ad then [] else [x] := by
  obtain ⟨hp, rfl⟩ := List.getElem?_eq_some_iff.1 h
  unfold keepM
  rw [List.take_succ_eq_append_getElem hp, List.filter_append]
  by_cases e : (l[p]).1.to = ad <;> simp [e]
theorem seen_next_no (ad : Int) (l : List (Msg × Bool)) (p : Nat) (x : Msg × Bool) (h : l[p]? = some x) (hx : x.1.to ≠ ad) : seen ad l (p + 1) = seen ad l p := by
  obtain ⟨hp, rfl⟩ := List.getElem?_eq_some_iff.1 h
  unfold seen
  rw [keepM_next ad l p _ h, if_neg hx, List.append_assoc, List.drop_eq_getElem_cons hp]
  rfl
theorem seen_next_yes (ad : Int) (l : List (Msg × Bool)) (p : Nat) (x : Msg × Bool) (h : l[p]? = some x) (hx : x.1.to = ad) : seen ad l (p + 1) = (seen ad l p).eraseIdx (keepM ad (l.take p)).length := by
  obtain ⟨hp, rfl⟩ := List.getElem?_eq_some_iff.1 h
  unfold seen
  rw [keepM_next ad l p _ h, if_pos hx, List.append_nil, List.eraseIdx_append_of_length_le (Nat.le_refl _), Nat.sub_self, List.drop_eq_getElem_cons hp]
  rfl
set_option maxHeartbeats 4000000 in
set_option maxRecDepth 100000 in
theorem rclear_any (w : World) (r : Nat) (l : List (Msg × Bool)) (M : Nat → Prop) (h : RNetV w r l M) (ad : Int) : Calls Try.prog 94 #[.pointer (some ⟨r, 0, none⟩), .int .i64 ad] w fun e w' => e = .returned (.int .i64 (l.length - (keepM ad l).length : Nat)) ∧ RNetPost r (keepM ad l) M w w' := by
  have hl1024 : l.length ≤ 1024 := by obtain ⟨_, _, _, h⟩ := h; exact h.most
  have HV := Lib.hid h
  clear h
  go_enter Try.func94, Try.ntmps94
  go_wp2
  go_loopw [5, 6] (fun n i wr => ∃ p : Nat, p ≤ l.length ∧ i = .int .i64 (keepM ad (l.take p)).length ∧ n = .int .i64 (p - (keepM ad (l.take p)).length : Nat) ∧ Hid (RNetPost r (seen ad l p) M w wr)) (fun n i _ => l.length - ((intOf i).toNat + (intOf n).toNat))
  case atStart => exact ⟨0, Nat.zero_le _, rfl, rfl, Lib.hid (by simpa [seen, keepM] using RNetPost.same HV.out (Chg.refl _ _))⟩
  case round =>
    obtain ⟨p, hp, rfl, rfl, HP⟩ := hrel
    have hkl := keepM_le ad (l.take p)
    have htl : (l.take p).length = p := by rw [List.length_take]; omega
    rw [htl] at hkl
    clear htl
    obtain ⟨M', cl, hR, hM1, hM2, hM3⟩ := HP.out
    obtain ⟨vL, vH, css, hN⟩ := hR
    have hsl := seen_len ad l p hp
    obtain ⟨Al, c, rfl⟩ := hN.sliceL
    have c0 := (cells2 hN.box).1
    rw [hsl] at c0
    by_cases hlt : p < l.length
    · obtain ⟨x, hx⟩ : ∃ x, l[p]? = some x := ⟨_, List.getElem?_eq_getElem hlt⟩
      have hxs := seen_at ad l p x hx
      have hil : (keepM ad (l.take p)).length < css.length := by rw [hN.len, hsl]; omega
      obtain ⟨b, cb, C, hv, _, hb, hj1, hj2, hj3, hj4, hrg⟩ := hN.row.block (by omega)
      clear hj1 hj2 hj3 hj4
      rw [hN.len, hsl] at hv
      injection hv with hv1 hv2 hv3
      clear hv2
      subst hv1 hv3
      obtain ⟨A2, c2, B2, d2, hcs, hM'⟩ := hN.has _ _ _ hxs (List.getElem?_eq_getElem hil)
      have hr := hrg _ hil
      rw [hcs] at hr
      have ch := hr 2 _ rfl
      have hkn := keepM_next ad l p x hx
      generalize hq : (keepM ad (l.take p)).length = q at *
      have hto := rtake_any wr r (seen ad l p) M' ⟨_, _, css, hN⟩ q
      have HX := Lib.hid (And.intro hx (And.intro hto (And.intro hM1 (And.intro hM2 (And.intro hM3 (And.intro hxs (And.intro hsl (And.intro hkn hq))))))))
      clear hx hto hM1 hM2 hM3 hxs hsl hkn hq hN hcs hM' hr hrg hb
      have hlq : (q : Int) < ((q + (l.length - p) : Nat) : Int) := by omega
      by_cases hta : x.1.to = ad
      · have hte : (x.1.to == ad) = true := by simpa using hta
        have HT := Lib.hid hta
        clear hta
        go_wp2_with fail
        refine HX.out.2.1.mono ?_
        rintro e W2 (⟨h1, _⟩ | ⟨y, A3, c3, B3, d3, -, hy, rfl, -, hPo⟩)
        · exact absurd ⟨by omega, by rw [HX.out.2.2.2.2.2.2.1]; omega⟩ h1
        · rw [Int.toNat_natCast] at hPo
          have hse := seen_next_yes ad l p x HX.out.1 HT.out
          rw [HX.out.2.2.2.2.2.2.2.2] at hse
          rw [← hse] at hPo
          have hlen : (keepM ad (l.take (p + 1))).length = q := by rw [HX.out.2.2.2.2.2.2.2.1, if_pos HT.out]; simpa using HX.out.2.2.2.2.2.2.2.2
          have HPo := Lib.hid (And.intro (RNetPost.join HX.out.2.2.1 HX.out.2.2.2.1 HX.out.2.2.2.2.1 hPo) hlen)
          clear hPo hy hse hlen
          go_wp2_with fail
          go_roundw
          case rel => exact ⟨p + 1, by omega, by rw [HPo.out.2], by rw [HPo.out.2]; congr 1; omega, Lib.hid HPo.out.1⟩
          case measure => simp [intOf]; omega
      · have hte : (x.1.to == ad) = false := by simpa using hta
        have hlen : (keepM ad (l.take (p + 1))).length = q + 1 := by rw [HX.out.2.2.2.2.2.2.2.1, if_neg hta, List.length_append, HX.out.2.2.2.2.2.2.2.2]; rfl
        have hse := seen_next_no ad l p x HX.out.1 hta
        have HT := Lib.hid (And.intro hlen hse)
        clear hta hlen hse
        go_wp2_with fail
        go_roundw
        case rel => exact ⟨p + 1, by omega, by rw [HT.out.1]; go_num, by rw [HT.out.1]; congr 1; omega, by rw [HT.out.2]; exact HP⟩
        case measure => simp [intOf]; omega
    · obtain rfl : p = l.length := by omega
      have e1 : seen ad l l.length = keepM ad l := by simp [seen]
      have HE := Lib.hid e1
      rw [Nat.sub_self, Nat.add_zero] at c0
      rw [List.take_length] at c0 hkl ⊢
      clear hsl hN hM1 hM2 hM3 e1
      go_wp2
      go_ret
      exact ⟨rfl, by have := HP.out; rwa [HE.out] at this⟩
end Go.Proofs.Ytipijkpjmpejlaa
