/- A slice against nil; casts of what is owned. Over any program. -/
import Derived.Test.YtmcannmjielalaaAbs18
set_option linter.unusedVariables false
set_option linter.unusedSimpArgs false
namespace Go.Proofs.Ytmcannmjielalaa
namespace A

variable {P : Program} {N : Nat} {env : Env} {h : List HA} {K : Cont} {X : List (Nat × Cont)} {Rt : Cont}

theorem run_eqSlR (d : Nat) {t e : TypeId} (hu : P.underlying t = some (.slice e)) (p : Option Addr) (n c : Nat) (w : World) : (Op.equalIn (d + 1) t (.slice p n c) (.slice none 0 0)).run P w = .ok p.isNone w := by
  cases p <;> simp [Op.equalIn, run_underlying' hu]
/-- A slice with something in it is not nil. -/
theorem pSlNe {o : Oper} {op : BinOp} {t t' : TypeId} {xo : Operand} {sz : Nat} {es : List (List AV)} {q : Bool} (hop : o.op = .binOp op t xo (.const (.slice none 0 0)) t') (hb : op = .eql ∨ op = .neq) (hx : ev env xo = some (.sl sz es)) (ht : isSl P t = true) (hne : es ≠ []) (hv : (if op = .eql then false else true) = q) : APure P N o env (.bool q) := by
  subst hv
  obtain ⟨e, hu⟩ := isSl_spec ht
  intro F h a w st
  have hr := st.ev hx
  generalize hv : a.eval xo = x at hr
  have hc : a.eval (.const (.slice none 0 0)) = .slice none 0 0 := rfl
  cases hr with
  | sl0 => exact absurd rfl hne
  | sl _ _ b o' c X hF hcc hz hX h1 hR =>
    refine ⟨_, .v _, fun w' => ?_⟩
    have he : (Op.equal t (.slice (some ⟨b, o', none⟩) es.length c) (.slice none 0 0)).run P w' = .ok false w' := run_eqSlR 9999 hu _ _ _ w'
    rcases hb with rfl | rfl
    · simp [execOp, hop, hv, hc, eqGuard, binOp, he]
    · simp [execOp, hop, hv, hc, eqGuard, binOp, he]

/-- What an owned slice holds, said otherwise. -/
theorem weak_castSl {g : Option Nat} {c e sz : Nat} {es es' : List (List AV)} {h' : List HA} (hs : Spl h (.sl g c e sz es) h') (hl : es'.length = es.length) (hz : ∀ y ∈ es', y.length = sz) (hc : ∀ (i j : Nat) y y' a b, es[i]? = some y → es'[i]? = some y' → y[j]? = some a → y'[j]? = some b → Cast a b) : Weak N env h env (.sl g c e sz es' :: h') := by
  intro F a w s
  have r1 := s.r.perm hs.perm
  have e1 := Ext.permR hs.perm (Ext.refl F h w)
  refine ⟨F, ⟨⟨fun x hx => ?_, ?_, ?_, ?_⟩, s.size, s.env⟩, ⟨e1.os, e1.output, e1.tape, e1.size, e1.keep, ?_, e1.mono, e1.new, e1.dr⟩⟩
  · rcases List.mem_cons.1 hx with rfl | hx
    · obtain ⟨xs, h1, h2, h3, h4⟩ := r1.rep (.sl g c e sz es) (by simp)
      refine ⟨xs, by rw [hl]; exact h1, hz, h3, fun i j y' b x hi hj hx => ?_⟩
      have hil : i < es.length := by rw [← hl]; exact (List.getElem?_eq_some_iff.1 hi).1
      have hy := List.getElem?_eq_getElem hil
      have hjl : j < (es[i]).length := by rw [h2 _ (List.getElem_mem hil), ← hz y' (List.mem_of_getElem? hi)]; exact (List.getElem?_eq_some_iff.1 hj).1
      have ha := List.getElem?_eq_getElem hjl
      exact hc i j _ y' _ b hy hi ha hj F w x (h4 i j _ _ x hy ha hx)
    · exact r1.rep x (by simp [hx])
  · have := r1.nd; cases g <;> exact this
  · have := r1.lt; cases g <;> exact this
  · have := r1.sep; cases g <;> exact this
  · intro b hb
    exact e1.sub b (by cases g <;> exact hb)

/-- What has something in it lies in a block. -/
theorem sl_some {F : Nat → Prop} {w : World} {g : Option Nat} {c e sz : Nat} {es : List (List AV)} (hr : HARep F w (.sl g c e sz es)) (hne : es ≠ []) : ∃ b, g = some b := by
  obtain ⟨xs, ⟨_, h2⟩, _⟩ := hr
  rcases h2 with ⟨_, h⟩ | ⟨b, _, _, h, _⟩
  · exact absurd (List.eq_nil_of_length_eq_zero h) hne
  · cases g with
    | none => simp [slV] at h
    | some b => exact ⟨b, rfl⟩
theorem oSome {ops : Array Oper} {rest : List Oper} {g : Option Nat} {c e sz : Nat} {es : List (List AV)} {h' : List HA} (hs : Spl h (.sl g c e sz es) h') (hne : es ≠ []) (h1 : ∀ b, g = some b → AOps P N ops rest env h K X Rt) : AOps P N ops rest env h K X Rt := by
  intro B k F a w hr s e d
  obtain ⟨b, hb⟩ := sl_some (s.r.rep _ (spl_mem hs)) hne
  exact h1 b hb B k F a w hr s e d
theorem aSome {x : Code} {g : Option Nat} {c e sz : Nat} {es : List (List AV)} {h' : List HA} (hs : Spl h (.sl g c e sz es) h') (hne : es ≠ []) (h1 : ∀ b, g = some b → AWP P N x env h K X Rt) : AWP P N x env h K X Rt := by
  intro ro F a w k s
  obtain ⟨b, hb⟩ := sl_some (s.r.rep _ (spl_mem hs)) hne
  exact h1 b hb ro F a w k s

end A
end Go.Proofs.Ytmcannmjielalaa
