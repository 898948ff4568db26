/- Texts that DiskClones's proof rests on, part 13. -/
import Derived.Shelf.SlMaps.Clone
import Derived.Test.YtnabkchagjjjnaaS11DiskClones
set_option linter.unusedVariables false
set_option linter.unusedSimpArgs false
set_option linter.unusedSectionVars false
namespace Go.Proofs.Ytnabkchagjjjnaa
namespace A
open Go.Lib Go.RowKit Go.Shelf
/-- A copy of a map. -/
theorem triple_mapClone {P : Program} {ρ : Ren} {f : FuncId} (L : SlLaysW.n5 P ρ) (hf : ρ.f 5 = f) (hb : HasBody P f) (b : Nat) (kvs : List (Int × AV)) :
    Triple P f [.v (.map (some b))] [.map b kvs] (fun r h' => ∃ b', r = .v (.map (some b')) ∧ h' = [.map b' kvs, .map b kvs]) := by
  subst hf
  refine ⟨hb, fun F w vs hR hreps => ?_⟩
  obtain ⟨hv1, hv2⟩ := hreps
  obtain ⟨x, rfl⟩ : ∃ x, vs = #[x] := by
    match vs, hv1 with
    | ⟨[x]⟩, _ => exact ⟨x, rfl⟩
  have hx := hv2 0 _ x rfl rfl
  cases hx
  have hm := hR.rep _ (List.mem_singleton.2 rfl)
  obtain ⟨ents, clock, h1, h2, h3, h4⟩ := hm
  obtain ⟨hR', hE, _⟩ := hR.new (o := .map ents clock) (x := .map w.heap.size kvs) rfl ⟨ents, clock, heap_new w _, h2, fun i kv e a b => ⟨(h3 i kv e a b).1, (h3 i kv e a b).2.1.mono (fun _ h => h) (fun d hd => heap_old w _ d (hR.sep d hd).1), (h3 i kv e a b).2.2⟩, h4⟩
  refine (AnyW.maps_Clone L b ents clock w h1).mono fun e w' ⟨he, hw⟩ => ?_
  subst hw
  exact ⟨_, _, _, F, he, ⟨_, rfl, rfl⟩, .v _, hR', hE⟩
end A
end Go.Proofs.Ytnabkchagjjjnaa
