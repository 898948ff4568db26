/- Settling within a region that draws its order. Over any program. -/
import Derived.Test.YtmcannmjielalaaAbs19
set_option linter.unusedVariables false
set_option linter.unusedSimpArgs false
namespace Go.Proofs.Ytmcannmjielalaa
namespace A

variable {P : Program} {N : Nat} {env : Env} {h : List HA} {K : Cont} {X : List (Nat × Cont)} {Rt : Cont}

theorem weak_settleS {k n c e sz : Nat} {g : Option Nat} {es : List (List AV)} {h' : List HA} (hk : get env k = some (.v (slV g n c))) (hs : Spl h (.sl g c e sz es) h') (hn : n = es.length) {F : Nat → Prop} {a : Act} {w : World} (s : Sat N F env h a w) :
    Sat N (fun b => F b ∨ g = some b) ((k, .sl sz es) :: env) h' a w ∧ Ext F h w (fun b => F b ∨ g = some b) h' w ∧ ∀ b ∈ owns h, b ∈ owns h' ∨ (F b ∨ g = some b) := by
  subst hn
  have r1 := s.r.perm hs.perm
  have hr := r1.rep (.sl g c e sz es) (by simp)
  have hF' : ∀ b, F b → (F b ∨ g = some b) := fun b hb => .inl hb
  have hgo : ∀ b, g = some b → b ∈ (HA.sl g c e sz es).own := fun b hb => by subst hb; simp [HA.own]
  have hgo2 : ∀ b, b ∈ (HA.sl g c e sz es).own → g = some b := fun b hb => by cases g <;> simp [HA.own] at hb; rw [hb]
  have hnd := r1.nd
  rw [owns_cons] at hnd
  refine ⟨⟨⟨fun x hx => (r1.rep x (by simp [hx])).mono hF' (fun _ _ => rfl) (fun _ _ => rfl), (List.nodup_append.1 hnd).2.1, fun b hb => r1.lt b (by simp [hb]), fun b hb => ?_⟩, s.size, fun j av hj => ?_⟩, ⟨rfl, rfl, rfl, Nat.le_refl _, fun _ _ _ => rfl, fun b hb => .inl ((owns_perm hs.perm).mem_iff.2 (by simp [hb])), hF', fun b hb => hb.imp id (fun e => .inl ((owns_perm hs.perm).mem_iff.2 (by simp [hgo b e]))), Nat.le_refl _⟩, fun b hb => ?_⟩
  · rcases hb with hb | hb
    · have := r1.sep b hb; rw [owns_cons] at this; exact ⟨this.1, fun hm => this.2 (List.mem_append_right _ hm)⟩
    · exact ⟨r1.lt b (by simp [hgo b hb]), fun hm => (List.nodup_append.1 hnd).2.2 b (hgo b hb) b hm rfl⟩
  · by_cases hkj : k = j
    · subst hkj
      have : Nat.beq k k = true := by simp
      simp only [A.get, this, cond_true, Option.some.injEq] at hj
      subst hj
      have hv := s.env k _ hk
      generalize hq : a.tmps.getD k undef = v at hv
      cases hv
      exact own_settled hr hF' (fun b hb => .inr hb)
    · simp only [A.get, beq_no hkj, cond_false] at hj
      exact (s.env j av hj).mono hF' (fun _ _ => rfl)
  · have := (owns_perm hs.perm).mem_iff.1 hb
    rw [owns_cons] at this
    rcases List.mem_append.1 this with h1 | h1
    · exact .inr (.inr (hgo2 b h1))
    · exact .inl h1

theorem eSettle {ops : Array Oper} {ds : List Nat} {m : Nat} {l : Array Bool} {E0 : Env} {h0 : List HA} {k n c e sz : Nat} {g : Option Nat} {es : List (List AV)} {h' : List HA} (hk : get env k = some (.v (slV g n c))) (hs : Spl h (.sl g c e sz es) h') (hn : n = es.length)
    (h1 : ADraw2 P N ops ds m l E0 h0 ((k, .sl sz es) :: env) h' K X Rt) : ADraw2 P N ops ds m l E0 h0 env h K X Rt := by
  intro B F0 w0 F a w s0 s ex hdef hF hO hS
  obtain ⟨s1, e1, o1⟩ := weak_settleS hk hs hn s
  refine h1 B F0 w0 _ a w s0 s1 (ex.trans e1) hdef (fun b hb => .inl (hF b hb)) (fun b hb => ?_) hS
  rcases hO b hb with h2 | h2
  · exact o1 b h2
  · exact .inr (.inl h2)

theorem Deep.refl : ∀ {rs : List (List AV)}, Deep h rs rs
  | [] => .nil
  | [] :: rs => .row Deep.refl
  | (_ :: r) :: rs => .same (Deep.refl (rs := r :: rs))

/-- Arguments that are known otherwise. -/
inductive Casts : List AV → List AV → Prop
  | nil : Casts [] []
  | cons {a b : AV} {l m : List AV} : Cast a b → Casts l m → Casts (a :: l) (b :: m)
theorem Casts.reps {F : Nat → Prop} {w : World} {l m : List AV} (c : Casts l m) {vs : Array Value} (h : Reps F w l vs) : Reps F w m vs := by
  have key : l.length = m.length ∧ ∀ (i : Nat) a b, l[i]? = some a → m[i]? = some b → Cast a b := by
    clear h
    induction c with
    | nil => exact ⟨rfl, fun i a b h => by simp at h⟩
    | cons hc _ ih =>
      refine ⟨by simp [ih.1], fun i a b ha hb => ?_⟩
      cases i with
      | zero => simp at ha hb; subst ha; subst hb; exact hc
      | succ i => exact ih.2 i a b (by simpa using ha) (by simpa using hb)
  refine ⟨h.1.trans key.1, fun i av x hi hx => ?_⟩
  have hlt : i < l.length := by rw [key.1]; exact (List.getElem?_eq_some_iff.1 hi).1
  have hq := List.getElem?_eq_getElem hlt
  exact key.2 i _ av hq hi F w x (h.2 i _ x hq hx)
theorem Triple.casts {f : FuncId} {l m : List AV} {Q : AV → List HA → Prop} (c : Casts l m) (t : Triple P f m h Q) : Triple P f l h Q := ⟨t.1, fun F w vs hr ha => t.2 F w vs hr (c.reps ha)⟩

theorem cast_sl {sz : Nat} {es es' : List (List AV)} (hl : es'.length = es.length) (hz : ∀ y ∈ es', y.length = sz) (hc : ∀ (i j : Nat) y y' a b, es[i]? = some y → es'[i]? = some y' → y[j]? = some a → y'[j]? = some b → Cast a b) : Cast (.sl sz es) (.sl sz es') := fun F w x hx => by
  cases hx with
  | sl0 => obtain rfl : es' = [] := List.eq_nil_of_length_eq_zero hl; exact .sl0 _ _ _
  | sl _ _ b o c X hF hcc hzz hX h1 hR =>
    rw [← hl]
    refine .sl _ _ b o c X hF (by rw [hl]; exact hcc) hz (fun i j hi hj => hX i j (by omega) hj) (fun i j hi hj => h1 i j (by omega) hj) (fun i j y' b' hi hj => ?_)
    have hil : i < es.length := by rw [← hl]; exact (List.getElem?_eq_some_iff.1 hi).1
    have hy := List.getElem?_eq_getElem hil
    have hjl : j < (es[i]).length := by rw [hzz _ (List.getElem_mem hil), ← hz y' (List.mem_of_getElem? hi)]; exact (List.getElem?_eq_some_iff.1 hj).1
    have ha := List.getElem?_eq_getElem hjl
    exact hc i j _ y' _ b' hy hi ha hj F w _ (hR i j _ _ hy ha)

end A
end Go.Proofs.Ytmcannmjielalaa
