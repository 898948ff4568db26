/- Structs that are written out, element stores. Over any program. -/
import Derived.Test.YtmcannmjielalaaAbs10
set_option linter.unusedVariables false
set_option linter.unusedSimpArgs false
namespace Go.Proofs.Ytmcannmjielalaa
namespace A

variable {P : Program} {N : Nat} {env : Env} {h : List HA} {K : Cont} {X : List (Nat × Cont)} {Rt : Cont}

def placesL (P : Program) : List Field → Option (List (Nat × Nat))
  | [] => some []
  | f :: r => match tyOf P f.type, placesL P r with
    | some (n, _), some l => some ((f.offset, n) :: l)
    | _, _ => none
/-- A struct type's fields: where each begins, how many cells it has. -/
def structPlaces (P : Program) (t : TypeId) : Option (List (Nat × Nat)) :=
  match P.underlying t with
  | some (.struct fs) => placesL P fs.toList
  | _ => none
theorem structPlaces_spec {t : TypeId} {pl : List (Nat × Nat)} (hp : structPlaces P t = some pl) : ∃ fs, P.underlying t = some (.struct fs) ∧ placesL P fs.toList = some pl := by
  unfold structPlaces at hp
  split at hp
  · rename_i fs hu; exact ⟨fs, hu, hp⟩
  · simp at hp
theorem run_placesL (w : World) : ∀ (fs : List Field) (pl : List (Nat × Nat)), placesL P fs = some pl → (fs.mapM fun f => (do pure (f.offset, ← sizeOf f.type) : Sem (Nat × Nat))).run P w = .ok pl w
  | [], pl, h => by simp only [placesL, Option.some.injEq] at h; subst h; simp
  | f :: r, pl, h => by
    simp only [placesL] at h
    cases h1 : tyOf P f.type with
    | none => rw [h1] at h; simp at h
    | some x =>
      cases h2 : placesL P r with
      | none => rw [h1, h2] at h; simp at h
      | some l =>
        rw [h1, h2] at h
        simp only [Option.some.injEq] at h
        subst h
        rw [List.mapM_cons]
        simp only [Sem.run_bind, run_sizeOf h1, Result.andThen_ok, Sem.run_pure, run_placesL w r l h2]

def fillAV (pl : List (Nat × Nat)) : List AV → List (Nat × AV) → Option (List AV)
  | cs, [] => some cs
  | cs, (i, av) :: r => match pl[i]? with
    | some (off, n) => if (avCells av).length = n ∧ off + n ≤ cs.length then fillAV pl (setCells cs off (avCells av)) r else none
    | none => none

theorem foldl_splice : ∀ (ns : List Value) (cs : Array Value) (o : Nat), o + ns.length ≤ cs.size →
    ∀ s, ((ns.zipIdx s).foldl (fun cs (c, j) => cs.setIfInBounds (o + j) c) cs).size = cs.size ∧
      ∀ j, ((ns.zipIdx s).foldl (fun cs (c, j) => cs.setIfInBounds (o + j) c) cs)[j]? = if o + s ≤ j ∧ j < o + s + ns.length ∧ j < cs.size then ns[j - (o + s)]? else cs[j]? := by
  intro ns
  induction ns with
  | nil => intro cs o h s; refine ⟨rfl, fun j => ?_⟩; rw [if_neg (by simp; omega)]; rfl
  | cons n ns ih =>
    intro cs o h s
    simp only [List.zipIdx_cons, List.foldl_cons]
    obtain ⟨i1, i2⟩ := ih (cs.setIfInBounds (o + s) n) o (by simp at h ⊢; omega) (s + 1)
    refine ⟨by rw [i1]; simp, fun j => ?_⟩
    rw [i2 j]
    simp only [Array.size_setIfInBounds, List.length_cons]
    by_cases h1 : o + (s + 1) ≤ j ∧ j < o + (s + 1) + ns.length ∧ j < cs.size
    · rw [if_pos h1, if_pos (by omega)]
      have : j - (o + s) = (j - (o + (s + 1))) + 1 := by omega
      rw [this, List.getElem?_cons_succ]
    · rw [if_neg h1, Array.getElem?_setIfInBounds]
      by_cases h2 : o + s = j
      · rw [if_pos h2]
        subst h2
        by_cases h3 : o + s < cs.size
        · rw [if_pos h3, if_pos (by omega)]; simp
        · rw [if_neg h3, if_neg (by omega)]
          exact (Array.getElem?_eq_none (by omega)).symm
      · rw [if_neg h2, if_neg (by omega)]

theorem fill_rep {F : Nat → Prop} {w : World} {pl : List (Nat × Nat)} : ∀ (is : List Nat) (l : List AV) (vs : List Value) (cs : List AV) (arr : Array Value) (out : List AV), is.length = l.length → vs.length = l.length → (∀ (i : Nat) av x, l[i]? = some av → vs[i]? = some x → Rep F w av x ∧ oneOf av = true) →
    arr.size = cs.length → (∀ (j : Nat) av x, cs[j]? = some av → arr[j]? = some x → Rep F w av x) → (∀ x ∈ arr, x.oneCell' = true) → fillAV pl cs (is.zip l) = some out →
    ∃ res : Array Value, Instr.fill (fun i => pl[i]?) arr (is.zip vs) = some res ∧ res.size = out.length ∧ (∀ (j : Nat) av x, out[j]? = some av → res[j]? = some x → Rep F w av x) ∧ ∀ x ∈ res, x.oneCell' = true
  | [], [], vs, cs, arr, out, _, hv, _, hs, hr, h1, hf => by
    cases vs with
    | nil => simp only [List.zip_nil_left, fillAV, Option.some.injEq] at hf; subst hf; exact ⟨arr, by simp [Instr.fill], hs, hr, h1⟩
    | cons => simp at hv
  | i :: is, av :: l, vs, cs, arr, out, hil, hv, hl, hs, hr, h1, hf => by
    cases vs with
    | nil => simp at hv
    | cons x vs =>
      simp only [List.zip_cons_cons, fillAV] at hf
      cases hp : pl[i]? with
      | none => rw [hp] at hf; simp at hf
      | some on =>
        obtain ⟨off, n⟩ := on
        rw [hp] at hf
        simp only at hf
        split at hf
        · rename_i hc
          obtain ⟨hav, hone⟩ := hl 0 av x rfl rfl
          obtain ⟨hx1, hx2⟩ := rep_cells hav
          have hxs : x.cells.size = n := by rw [hx1, hc.1]
          have hxl : x.cells.toList.length = n := by rw [Array.length_toList, hxs]
          have s1 := (foldl_splice x.cells.toList arr off (by omega) 0).1
          have s2 : ∀ j, ((x.cells.toList.zipIdx 0).foldl (fun cs (c, j) => cs.setIfInBounds (off + j) c) arr)[j]? = if off ≤ j ∧ j < off + x.cells.toList.length ∧ j < arr.size then x.cells.toList[j - off]? else arr[j]? := (foldl_splice x.cells.toList arr off (by omega) 0).2
          obtain ⟨res, r1, r2, r3, r4⟩ := fill_rep is l vs (setCells cs off (avCells av)) ((x.cells.toList.zipIdx 0).foldl (fun cs (c, j) => cs.setIfInBounds (off + j) c) arr) out (by simpa using hil) (by simpa using hv) (fun i a b ha hb => hl (i + 1) a b (by simpa using ha) (by simpa using hb)) (by rw [s1, hs, setCells_length]) (fun j a b ha hb => by
            rw [setCells_get _ _ _ _ (by omega)] at ha
            rw [s2] at hb
            by_cases hj : off ≤ j ∧ j < off + n
            · rw [if_pos (by omega)] at ha
              rw [if_pos (by omega)] at hb
              exact hx2 _ a b ha (by simpa using hb)
            · rw [if_neg (by omega)] at ha
              rw [if_neg (by omega)] at hb
              exact hr j a b ha hb) (fun y hy => by
            obtain ⟨j, hj⟩ := Array.mem_iff_getElem?.1 hy
            rw [s2] at hj
            split at hj
            · exact rep_one hav hone y (by have := List.mem_of_getElem? hj; simpa using this)
            · exact h1 y (Array.mem_of_getElem? hj)) hf
          refine ⟨res, ?_, r2, r3, r4⟩
          rw [List.zip_cons_cons, Instr.fill]
          simp only [hp, hxs]
          rw [if_neg (by simp; omega), ← r1, ← Array.foldl_toList, Array.toList_zipIdx]
        · simp at hf
  | [], _ :: _, _, _, _, _, hil, _, _, _, _, _, _ => by simp at hil
  | _ :: _, [], _, _, _, _, hil, _, _, _, _, _, _ => by simp at hil

/-- 'T{..}' -/
theorem pBuild {o : Oper} {t : TypeId} {parts : Array (Nat × Operand)} {pl : List (Nat × Nat)} {z : Value} {l cs : List AV} (ho : o.op = .build t parts) (hp : structPlaces P t = some pl) (hz : zeroOf P t = some z) (hz1 : oneOf (.v z) = true) (hl : evs env (parts.toList.map (·.2)) = some l) (hone : l.all oneOf = true)
    (hf : fillAV pl (avCells (.v z)) ((parts.toList.map (·.1)).zip l) = some cs) : APure P N o env (.agg cs) := by
  intro F h a w s
  obtain ⟨fs, hu, hpl⟩ := structPlaces_spec hp
  obtain ⟨e1, e2⟩ := evs_get s hl
  obtain ⟨z1, z2⟩ := rep_cells (Rep.v (F := F) (w := w) z)
  have hil : (parts.toList.map (·.1)).length = l.length := by rw [List.length_map, ← e1, List.length_map]
  obtain ⟨res, r1, r2, r3, r4⟩ := fill_rep (parts.toList.map (·.1)) l ((parts.toList.map (·.2)).map a.eval) (avCells (.v z)) z.cells cs hil (by rw [List.length_map, e1]) (fun i av x hi hx => ⟨e2 i av x hi hx, List.all_eq_true.1 hone av (List.mem_of_getElem? hi)⟩) z1 z2 (rep_one (Rep.v (F := F) (w := w) z) hz1) hf
  have hzip : (parts.map fun (i, x) => (i, a.eval x)).toList = (parts.toList.map (·.1)).zip ((parts.toList.map (·.2)).map a.eval) := by
    rw [List.map_map, Array.toList_map, List.zip_map']
    rfl
  refine ⟨.agg res, .agg cs res r2 r4 r3, fun w' => ?_⟩
  have hpr : (fs.mapM fun f => (do pure (f.offset, ← sizeOf f.type) : Sem (Nat × Nat))).run P w' = .ok pl.toArray w' := by
    rw [← Array.toArray_toList (xs := fs), List.mapM_toArray]
    simp only [Sem.run_map]
    rw [run_placesL w' fs.toList pl hpl]
    rfl
  have hfun : (fun i : Nat => pl.toArray[i]?) = fun i => pl[i]? := by funext i; simp
  simp only [execOp, ho, Instr.build, hfun, Sem.run_bind, run_zero hz, Result.andThen_ok, run_underlying' hu, hpr, hzip, r1, Sem.run_pure]

end A
end Go.Proofs.Ytmcannmjielalaa
