/- Texts that GenHangs's proof rests on, part 7. -/
import Derived.Below
import Derived.ChangeOld
import Derived.OpenShut
import Derived.ProofKit
import Derived.ShutString
import Derived.SizedLaws
import Derived.WalkKit
import Derived.Test.YtmcannmjielalaaS5GenHangs
set_option linter.unusedVariables false
set_option linter.unusedSimpArgs false
namespace Go.Proofs.Ytmcannmjielalaa
namespace A
variable {P : Program}
abbrev FAll (w : World) : Nat → Prop := fun b => b < w.heap.size
/-- What the cells of a value of type t say: a thing of α (of which p holds), told as f tells it. -/
def OpC (P : Program) (t : TypeId) (n : Nat) (α : Type) (f : α → List AV) (p : α → Prop) : Prop :=
  ∀ (H : Type) (enc : TypeId × Value → H) (w : World) (sp : Nat → Bool) (held : Bool) (fuel : Nat) (cs : List Value) (x : DataW H × List MemPlace), DataW.trod enc P w 0 sp held fuel t cs = some x →
    ∃ a, p a ∧ cs.length = n ∧ (f a).length = n ∧ (∀ c ∈ cs, c.oneCell' = true) ∧ ∀ (j : Nat) av c, (f a)[j]? = some av → cs[j]? = some c → Rep (FAll w) w av c
theorem opInt {t : TypeId} {k : IntKind} (hu : P.underlying t = some (.int k)) : OpC P t 1 Int (fun n => [.v (.int k n)]) (fun n => (Lit.int k n).wf = true) := by
  intro H enc w sp held fuel cs x h
  obtain ⟨n, hcs, hx, hw⟩ := DataW.trod_int hu h
  subst hcs
  exact ⟨n, hw, rfl, rfl, fun c hc => by simp at hc; subst hc; rfl, fun j av c hj hc => by
    cases j with
    | zero => simp at hj hc; subst hj; subst hc; exact .v _
    | succ j => simp at hj⟩
theorem u8_range {n : Int} (h : (Lit.int .u8 n).wf = true) : 0 ≤ n ∧ n < 256 := by
  simp only [Lit.wf, Bool.and_eq_true, decide_eq_true_eq] at h
  have e1 : IntKind.u8.min = 0 := rfl
  have e2 : IntKind.u8.max = 255 := rfl
  omega
theorem cells_one {v : Value} (h : v.oneCell' = true) : v.cells.toList = [v] := by cases v <;> simp_all [Value.oneCell', Value.cells]
theorem argOne {H : Type} {enc : TypeId × Value → H} {w : World} {sp : Nat → Bool} {held : Bool} {t : TypeId} {α : Type} {g : α → AV} {p : α → Prop} {v : Value} {d : DataW H} {ps : List MemPlace} (o : OpC P t 1 α (fun a => [g a]) p) (hv : v.oneCell' = true) (h : DataW.Trod enc P w 0 sp held t v d ps) :
    ∃ a, p a ∧ Rep (FAll w) w (g a) v := by
  obtain ⟨fuel, hf⟩ := h
  rw [cells_one hv] at hf
  obtain ⟨a, h1, _, _, _, h5⟩ := o H enc w sp held fuel _ _ hf
  exact ⟨a, h1, h5 0 _ v rfl rfl⟩
theorem reps_nil {F : Nat → Prop} {w : World} : Reps F w [] #[] := ⟨rfl, fun i av x h => by simp at h⟩
theorem reps_cons {F : Nat → Prop} {w : World} {av : AV} {l : List AV} {v : Value} {vs : List Value} (h : Rep F w av v) (hs : Reps F w l vs.toArray) : Reps F w (av :: l) (v :: vs).toArray := by
  refine ⟨by simpa using hs.1, fun i aw x hi hx => ?_⟩
  cases i with
  | zero => simp at hi hx; subst hi; subst hx; exact h
  | succ i => exact hs.2 i aw x (by simpa using hi) (by simpa using hx)
theorem law_calls {f : FuncId} {l : List AV} {vs : Array Value} {W : World} (T : Triple P f l [] (fun r h' => r = .v (.bool true) ∧ h' = [])) (hr : Reps (FAll W) W l vs) : Calls P f vs W fun e W' => e = .returned (.bool true) ∧ Go.RowKit.Below W.heap.size W W' := by
  refine (T.2 (FAll W) W vs ⟨fun x hx => by simp at hx, by simp, fun b hb => by simp at hb, fun b hb => ⟨hb, by simp⟩⟩ hr).mono ?_
  rintro e W' ⟨r, x, h', F', rfl, ⟨rfl, rfl⟩, hrep, _, hE⟩
  cases hrep
  exact ⟨rfl, hE.os, hE.tape, hE.output, hE.size, fun k hk => hE.keep k hk (by simp)⟩
end A
end Go.Proofs.Ytmcannmjielalaa
