import Derived.Test.YtipijkpjmpejlaaRangeM
import Derived.Test.YtipijkpjmpejlaaOrd
import Derived.OrdersIn
/- A region of a round's body is walked as one outside of a round. No condition. -/
set_option linter.unusedVariables false
set_option linter.unusedSimpArgs false
namespace Go.Proofs.Ytipijkpjmpejlaa
open Go.RowKit
def isDefer (o : Oper) : Bool := match o.op with | .defer _ => true | _ => false
def noDefer (ops : Array Oper) : Bool := ops.all fun o => !isDefer o
theorem noDefer_spec {ops : Array Oper} (h : noDefer ops = true) {i : Nat} {o : Oper} (ho : ops[i]? = some o) : ∀ c, o.op ≠ .defer c := fun c e => by
  have h1 := (Array.all_eq_true_iff_forall_mem.1 h) o (Array.mem_of_getElem? ho)
  simp [isDefer, e] at h1
section
variable {P : Program} {ops : Array Oper} {o : Oper} {a : Act} {w : World} {Q : Exit → Act → World → Prop} {l n : Nat}
theorem rows_in {row : String} {args : Array Value} {R : Value → World → Prop} (h : Rows P row args w R) : RowsIn (W0.inRound l) n P row args w R :=
  fun c cs _ => let ⟨v, w', r, s⟩ := h c cs; ⟨v, w', r, stepsIn_wide.2 s⟩
theorem calls_in {f : FuncId} {args : Array Value} {R : Ending → World → Prop} (h : Calls P f args w R) : CallsIn (W0.inRound l) n P f args w R := (callsIn_wide (n := n)).2 h
theorem upon_in {next : Act → World → Prop} {r : Result Next} (h : o.upon P a next Q r) : o.uponIn (W0.inRound l) n P a next Q r := by
  cases r with
  | ok x w' =>
    cases x <;> simp only [Oper.upon, Oper.uponIn] at h ⊢ <;>
      first
        | exact h
        | exact ⟨(fun h => by cases h), calls_in h⟩
        | exact ⟨(fun h => by cases h), rows_in h⟩
  | halt x w' => cases x <;> simp only [Oper.upon, Oper.uponIn] at h ⊢ <;> exact h
theorem operIn {next : Act → World → Prop} (hd : ∀ c, o.op ≠ .defer c) (h : o.wp P a w next Q) : o.wpIn (W0.inRound l) n P a w next Q := by
  refine ⟨fun _ _ => trivial, ?_⟩
  rw [show (W0.inRound l).round = some l from rfl, Oper.semAt_some l _ _ hd]
  exact upon_in h
theorem wpOp_in (hnd : noDefer ops = true) (hQ : ¬ LetsOut Q) {i : Nat} {K : Act → World → Prop} (h : wpOp P ops Q i K a w) : wpOpIn (W0.inRound l) n P ops Q i K a w := by
  unfold wpOp at h
  unfold wpOpIn
  cases ho : ops[i]? with
  | none => simpa [ho] using h
  | some o =>
    simp only [ho] at h ⊢
    split
    · rename_i hw
      simp only [hw, if_true] at h
      exact operIn (noDefer_spec hnd ho) (h.resolve_right fun h => hQ h.2)
    · rename_i hw
      simp only [hw] at h
      exact ⟨fun _ _ => trivial, h⟩
theorem wpAny_in (hnd : noDefer ops = true) (hQ : ¬ LetsOut Q) {md : Region.Mode} : ∀ (fuel : Nat) (listed : Array Bool) (a : Act) (w : World), wpAny P md ops Q fuel listed a w → wpAnyIn (W0.inRound l) n P md ops Q fuel listed a w
  | 0, _, _, _, h => h
  | fuel + 1, _, _, _, h => ⟨h.1, fun i hi => wpOp_in hnd hQ (wpOp_mono (fun a w => wpAny_in hnd hQ fuel _ a w) (h.2 i hi))⟩
/-- A region that draws, in a round: Ord's moves. -/
theorem wpIn_region_M {id : Nat} (S : World → Prop) (eff brk : Nat → Bool) (hm : P.follows .mixedOrders = true) (hnd : noDefer ops = true) (hQ : ¬ LetsOut Q)
    (h : wpAnyM P .any ops Q S eff brk ops.size (Array.replicate ops.size false) a w.drew) : (Code.region id ops true).wpIn (W0.inRound l) n P Q a w :=
  wpIn_region_any hm (wpAny_in hnd hQ _ _ _ _ (wpAny_of_M _ _ _ _ h))
theorem wpList_in (hQ : ¬ LetsOut Q) : ∀ (rest : List Oper) (a : Act) (w : World), (∀ o ∈ rest, ∀ c, o.op ≠ .defer c) → wpList P ops Q rest a w → wpListIn (W0.inRound l) n P ops Q rest a w
  | [], _, _, _, h => h
  | o :: rest, a, w, hd, h => by
    simp only [wpList] at h
    simp only [wpListIn]
    split
    · rename_i hw
      simp only [hw, if_true] at h
      exact operIn (hd o (by simp)) (Oper.wp_mono (fun a w => wpList_in hQ rest a w (fun o ho => hd o (by simp [ho]))) (h.resolve_right fun h => hQ h.2))
    · rename_i hw
      simp only [hw] at h
      exact ⟨fun _ _ => trivial, wpList_in hQ rest _ w (fun o ho => hd o (by simp [ho])) h⟩
end
end Go.Proofs.Ytipijkpjmpejlaa
